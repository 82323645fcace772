/- A part of the proof of a law of this seat: no condition. -/
import Derived.Test.YtjabgfnljbnmmaaDoorXC
set_option linter.unusedVariables false
set_option linter.unusedSimpArgs false
set_option maxRecDepth 20000
set_option maxHeartbeats 4000000
namespace Go.Proofs.YtjabgfnljbnmmaaDoor
open Go.Ax
abbrev ks10 : List Nat := [3, 4, 9, 13, 60]
theorem hasg : (if dstsZ ks10 89 asg10 && plainC asg10 then cCode (tabT tab) o10 h10 asg10 else none) = some casg10 := by kernel_rfl
theorem hbdy : (if dstsZ ks10 89 bdy10 && plainC bdy10 then cCode (tabT tab) o10 h10 bdy10 else none) = some cbdy10 := by kernel_rfl
theorem hpre : (if dstsZ [] 89 pre10 then cCode (tabT tab) o10 h10 pre10 else none) = some cpre10 := by kernel_rfl
theorem htl : (if dstsZ [] 89 tl10 then cCode (tabT tab) o10 h10 tl10 else none) = some ctl10 := by kernel_rfl
theorem hi0 : (if dstsZ [0, 1] 37 i0 then cCode (tabT tab) o40 h40 i0 else none) = some ci0 := by kernel_rfl
theorem hi1 : (if dstsZ [0, 1] 37 i1 then cCode (tabT tab) o40 h40 i1 else none) = some ci1 := by kernel_rfl
theorem hi2 : (if dstsZ [0, 1] 37 i2 then cCode (tabT tab) o40 h40 i2 else none) = some ci2 := by kernel_rfl
theorem hi3 : (if dstsZ [0, 1] 37 i3 then cCode (tabT tab) o40 h40 i3 else none) = some ci3 := by kernel_rfl
theorem hi4 : (if dstsZ [0, 1] 37 i4 then cCode (tabT tab) o40 h40 i4 else none) = some ci4 := by kernel_rfl
theorem hi6 : (if dstsZ [0, 1] 37 i6 then cCode (tabT tab) o40 h40 i6 else none) = some ci6 := by kernel_rfl
theorem hi5 : cOps (tabT tab) (modeOf ops5 o40) ops5 (ops5.take 6) = some c5a := by kernel_rfl
theorem hd5 : ((ops5.take 6).all fun o => noDefer o && (match o.dst with | some d => decide (d < 37) && !([0, 1] : List Nat).contains d | none => true)) = true := by kernel_rfl
theorem set_eval (a : Act) (u : Value) (hs : 61 < a.tmps.size) : ∀ t, tmOf { tmps := a.tmps.setIfInBounds 61 u, defers := [] } t = after (some 61) (tmOf a) u t := by
 intro t
 simp only [tmOf, after, upd, Array.getD_eq_getD_getElem?, Array.getElem?_setIfInBounds]
 by_cases e : t = 61
 ·subst e; simp [hs]
 ·rw [if_neg (fun h => e h.symm), if_neg e]
theorem round_ok {F1 : Fr} {H : Heap} {μ : Oid → Option Nat} {w : World} {a10 : Act} {G : GS} {leave : Int} {W : List (List Nat)} {n m l : Nat} {rec : Loop} {s : List Nat} {u : Value}
  (hr : Rel H μ (F1.plus l) ⟨env61 (lsV s), obs10 G leave W n⟩ (after (some 61) (tmOf a10) u) w) (hsz : a10.tmps.size = 89) (hl : w.heap[l]? = some (.loop rec)) (hst : rec.state = .ready)
  (hFl : ¬ F1.F l) (hFB : F1.B.blk l = none) (hm : m = n + 1) (hn : n < W.length) (hs : nth W n = s) (hsl : s.length ≤ 1000000) (hWl : W.length ≤ 1000000) {k : Nat} {R : Ending → World → Prop}
  (hR : ∀ (jump : Option Code) (H' : Heap) (μ' : Oid → Option Nat) (w' : World), (jump = none ∧ ¬ (m : Int) = leave ∨ jump = some (.exit 4) ∧ (m : Int) = leave) →
   Rel H' μ' (F1.plus l) (st10 G leave W m) (tmOf a10) w' → w'.heap[l]? = some (.loop { rec with state := if jump.isNone then .ready else .done, pending := jump }) → Ext F1 H w H' w' → R (.returned (.bool jump.isNone)) w') :
  RoundIn Fence.wide k Tryd.prog l rec.fn (a10.tmps.setIfInBounds 61 u) asg10 bdy10 w R := by
 refine roundIn_of_wpIn (F := Fence.wide) trivial ?_
 have hat : AtS H μ (F1.plus l) ⟨env61 (lsV s), obs10 G leave W n⟩ { tmps := a10.tmps.setIfInBounds 61 u, defers := [] } w 89 ⟨[], ks10, tmOf a10⟩ := by
  refine ⟨hr.tmCongr (set_eval a10 u (by omega)), by simp [hsz], rfl, fun t ht => ?_⟩
  have htl : t < 61 := by
   simp only [ks10, List.contains_cons, List.contains_nil, Bool.or_false, Bool.or_eq_true, beq_iff_eq] at ht
   omega
  simp only [Array.getElem?_setIfInBounds, if_neg (show ¬ 61 = t by omega)]
  rw [Array.getElem?_eq_getElem (by omega)]
  simp [tmOf, Array.getD_eq_getD_getElem?, Array.getElem?_eq_getElem (show t < a10.tmps.size by omega)]
 refine pieceIn_sound (F := F1.plus l) tabOk hasg (asg_ok (B := (F1.plus l).B) (l := s)) hat fun e st' a' w' H' μ' hq hat' hx => ?_
 obtain ⟨rfl, rfl⟩ := hq
 have hl' : w'.heap[l]? = some (.loop rec) := by rw [hx.frm l (.inr rfl) (Array.getElem?_eq_some_iff.1 hl).1]; exact hl
 refine ⟨_, run_beginRound hl' hst, ?_⟩
 have hat2 := hat'.rel.turnF (o' := .loop { rec with state := .busy }) hl' rfl rfl hFB
 have hl2 : (w'.putObj l (.loop { rec with state := .busy })).heap[l]? = some (.loop { rec with state := .busy }) := World.putObj_heap_same (Array.getElem?_eq_some_iff.1 hl').1
 refine pieceIn_sound (F := F1.plus l) tabOk hbdy (bdy_ok (B := (F1.plus l).B) (leave := leave) hm hn hs hsl hWl) (H := H') (μ := μ') (a := a') ⟨hat2, hat'.size, hat'.defers, hat'.fix⟩ fun e st2 a2 w2 H2 μ2 hq hat3 hx2 => ?_
 obtain ⟨⟨x, rfl⟩, hq⟩ := hq
 have hl3 : w2.heap[l]? = some (.loop { rec with state := .busy }) := by rw [hx2.frm l (.inr rfl) (Array.getElem?_eq_some_iff.1 hl2).1]; exact hl2
 obtain ⟨μ3, h3⟩ := restrict_rel hat3.rel (hcan ks10)
 rw [can79] at h3
 have h4 : Rel H2 μ3 (F1.plus l) (st10 G leave W m) (tmOf a10) w2 := by
  refine h3.tmAny fun t => ?_
  by_cases ht : (ks10 : List Nat).contains t = true
  ·right
   have := hat3.fix t ht
   simp only [tmOf, Array.getD_eq_getD_getElem?, this]
   rfl
  ·left
   simp only [ks10, List.contains_cons, List.contains_nil, Bool.or_false, Bool.or_eq_true, beq_iff_eq, not_or] at ht
   obtain ⟨t1, t2, t3, t4, t5⟩ := ht
   show Ax.look t env10 = V.any
   simp [Ax.look, Ne.symm t1, Ne.symm t2, Ne.symm t3, Ne.symm t4, Ne.symm t5]
 have hxx : ∀ o', Ext F1 H w H2 (w2.putObj l o') := fun o' => ((hx.unplus.trans (Ext.turn _ hFl)).trans hx2.unplus).trans (Ext.turn o' hFl)
 have hfin : ∀ jump : Option Code, (jump = none ∧ ¬ (m : Int) = leave ∨ jump = some (.exit 4) ∧ (m : Int) = leave) →
   ∃ v w'', (Instr.endRound l jump).run Tryd.prog w2 = .ok v w'' ∧ R (.returned v) w'' := by
  intro jump hj
  refine ⟨_, _, run_endRound jump hl3, hR jump H2 μ3 _ hj (h4.turnF hl3 rfl rfl hFB) (World.putObj_heap_same (Array.getElem?_eq_some_iff.1 hl3).1) (hxx _)⟩
 rcases hq with ⟨rfl, hv⟩ | ⟨rfl, hv⟩
 ·exact hfin none (.inl ⟨rfl, hv⟩)
 ·exact hfin (some (.exit 4)) (.inr ⟨rfl, hv⟩)
set_option maxHeartbeats 4000000
structure Cls (G : GS) (W : List (List Nat)) (cnt : Nat → Nat) : Prop where
 z : cnt 0 = 0
 e : cnt G.N.length = W.length
 wl : W.length ≤ 1000000
 sm : G.N.length ≤ 1000000
 each : ∀ i, i < G.N.length → ∃ r k l, Rt G.P i r k ∧ r < G.C.length ∧ nth G.C r = l ∧ l ≠ [] ∧ l.length ≤ 1000000 ∧
  ((nth (srtN l) 0 = i ∧ cnt i < W.length ∧ nth W (cnt i) = srtN l ∧ cnt (i + 1) = cnt i + 1) ∨ (nth (srtN l) 0 ≠ i ∧ cnt (i + 1) = cnt i))
structure At40 (Y p : Value) (N i : Nat) (a : Act) : Prop where
 size : a.tmps.size = 37
 dfr : a.defers = []
 t0 : a.tmps[0]? = some Y
 t1 : a.tmps[1]? = some p
 t9 : a.tmps[9]? = some (.int .i64 N)
 t10 : a.tmps[10]? = some (.int .i64 i)
abbrev D40 (Y p : Value) : Pin := ⟨[], [0, 1], fun t => if t = 0 then Y else p⟩
theorem d40_fix {Y p : Value} {a : Act} (h0 : a.tmps[0]? = some Y) (h1 : a.tmps[1]? = some p) : ∀ t, (D40 Y p).ks.contains t = true → a.tmps[t]? = some ((D40 Y p).fx t) := by
 intro t ht
 have : t = 0 ∨ t = 1 := by simpa using ht
 rcases this with rfl | rfl
 ·exact h0
 ·exact h1
section
variable {H : Heap} {μ : Oid → Option Nat} {F : Fr} {w : World}
theorem box_at {st : St} {tm : Nat → Value} (hr : Rel H μ F st tm w) (he : st.tm 60 = .clo 40 [] [.ref (.sub 60 0) 0]) {b : Nat} (h : tm 60 = .func (.func 40) #[] #[.pointer (some ⟨b, 0, none⟩)]) : μ (.sub 60 0) = some b := by
 have := hr.env 60
 rw [he, h] at this
 obtain ⟨u1, u2, e, _, h2⟩ := this.clo_inv
 injection e with _ _ e
 have e2 : u2 = [.pointer (some ⟨b, 0, none⟩)] := by have := congrArg Array.toList e; simpa using this.symm
 subst e2
 cases h2 with
 | cons _ _ _ _ h3 h4 h5 h6 => cases h5 with
  | data _ _ h => cases h
  | ref _ _ _ h => exact h
theorem box_ex {st : St} {tm : Nat → Value} (hr : Rel H μ F st tm w) (he : st.tm 60 = .clo 40 [] [.ref (.sub 60 0) 0]) : ∃ b, tm 60 = .func (.func 40) #[] #[.pointer (some ⟨b, 0, none⟩)] := by
 have := hr.env 60
 rw [he] at this
 obtain ⟨u1, u2, e, h1, h2⟩ := this.clo_inv
 cases h1
 cases h2 with
 | cons _ _ _ _ h3 h4 h5 h6 =>
  cases h6
  cases h5 with
  | data _ _ h => cases h
  | ref _ b _ h => exact ⟨b, e⟩
theorem rep_vs (f : Nat → V) (us : List Value) (n : Nat) (hn : us.length = n) (h : ∀ j, j < n → ∀ v, us[j]? = some v → RepS H μ (f j) v) : RepArgs H μ ((List.range n).map f) us :=
 ⟨by simp [hn], fun j hj hj' => by
  have : j < n := by simpa using hj
  simp only [List.getElem_map, List.getElem_range]
  exact h j this _ (List.getElem?_eq_getElem hj')⟩
theorem vs40_eq (N i : Nat) : vs40 N i = (List.range 37).map fun j => if j = 1 then .ref (.sub 60 0) 0 else if j = 9 then nV N else if j = 10 then nV i else .any := by rfl
theorem vs6_eq (N i : Nat) : vs6 N i = (List.range 37).map fun j => if j = 9 then nV N else if j = 10 then nV i else .any := by rfl
theorem vs0_eq : vs0 = (List.range 37).map fun j => if j = 1 then .ref (.sub 60 0) 0 else .any := by rfl
theorem rep_int {n : Int} : RepS H μ (.int .i64 n) (.int .i64 n) := .two _ _ (.one _ _ (.data _ _ (.int _ _)))
theorem rep_any {v : Value} : RepS H μ .any v := .two _ _ (.one _ _ (.any _))
theorem rep40 {Y : Value} {b N i : Nat} {a : Act} (h : At40 Y (.pointer (some ⟨b, 0, none⟩)) N i a) (hb : μ (.sub 60 0) = some b) : RepArgs H μ (vs40 N i) a.tmps.toList := by
 rw [vs40_eq]
 refine rep_vs _ _ 37 (by simpa using h.size) fun j hj v hv => ?_
 have hv : a.tmps[j]? = some v := by simpa using hv
 by_cases h1 : j = 1
 ·subst h1; rw [h.t1] at hv; cases hv
  rw [if_pos rfl]; exact .two _ _ (.one _ _ (.ref _ _ _ hb))
 ·rw [if_neg h1]
  by_cases h9 : j = 9
  ·subst h9; rw [h.t9] at hv; cases hv; rw [if_pos rfl]; exact rep_int
  ·rw [if_neg h9]
   by_cases h10 : j = 10
   ·subst h10; rw [h.t10] at hv; cases hv; rw [if_pos rfl]; exact rep_int
   ·rw [if_neg h10]; exact rep_any
theorem rep0 {b : Nat} {a : Act} (hs : a.tmps.size = 37) (h1 : a.tmps[1]? = some (.pointer (some ⟨b, 0, none⟩))) (hb : μ (.sub 60 0) = some b) : RepArgs H μ vs0 a.tmps.toList := by
 rw [vs0_eq]
 refine rep_vs _ _ 37 (by simpa using hs) fun j hj v hv => ?_
 have hv : a.tmps[j]? = some v := by simpa using hv
 by_cases e1 : j = 1
 ·subst e1; rw [h1] at hv; cases hv
  rw [if_pos rfl]; exact .two _ _ (.one _ _ (.ref _ _ _ hb))
 ·rw [if_neg e1]; exact rep_any
theorem rep6 {N i : Nat} {a : Act} (hs : a.tmps.size = 37) (h9 : a.tmps[9]? = some (.int .i64 N)) (h10 : a.tmps[10]? = some (.int .i64 i)) : RepArgs H μ (vs6 N i) a.tmps.toList := by
 rw [vs6_eq]
 refine rep_vs _ _ 37 (by simpa using hs) fun j hj v hv => ?_
 have hv : a.tmps[j]? = some v := by simpa using hv
 by_cases e9 : j = 9
 ·subst e9; rw [h9] at hv; cases hv; rw [if_pos rfl]; exact rep_int
 ·rw [if_neg e9]
  by_cases e10 : j = 10
  ·subst e10; rw [h10] at hv; cases hv; rw [if_pos rfl]; exact rep_int
  ·rw [if_neg e10]; exact rep_any
end
theorem call0 {G : GS} {leave W n} : (callO none 0 40 vs0 (some 61)).run (st10 G leave W n) =
  some (.call 40 args0 (objs40 G) 0 ⟨[], [.sub 60 0, .sub 19 0, .sub 19 1, .sub 19 2, .sub 19 3, .sub 19 4, .sub 19 5, .sub 19 6], [3, 4, 5, 7], some 61⟩) := by
 simp
theorem call6 {G : GS} {leave W n N i} : (callO none 0 40 (vs6 N i) (some 61)).run (st10 G leave W n) = some (.call 40 (vs6 N i) [] 0 ⟨[], [], [], some 61⟩) := by
 simp
theorem can6 {G : GS} {leave W n} : restrict (hcan [3, 4, 9, 13, 60]) ((st10 G leave W n).app (back ⟨[], [], [], some 61⟩ (.tup []) [] [])) = st10 G leave W n := by
 simp
theorem end40 {G : GS} {env : List (Nat × V)} (N i : Nat) : EndA (tabT tab) [] (objs40 G).length (mvOf (args40 N i) (objs40 G)) [] (.tup []) (objs40 G) [] .normal ⟨env, gIn1 G⟩ := by
 simp [EndA]
theorem end0 {G : GS} {env : List (Nat × V)} : EndA (tabT tab) [] (objs40 G).length (mvOf args0 (objs40 G)) [] (.tup []) (objs40 G) [] .normal ⟨env, gIn1 G⟩ := by
 simp [EndA]
theorem end5 {G : GS} {env : List (Nat × V)} {l : List Nat} {n : Nat} (h : Ax.look 4 env = .sl 1 (.sub 22 0) n) (N i : Nat) : EndA (tabT tab) [.tmp 4] (objs40 G).length (mvOf (args40 N i) (objs40 G)) [.sub 22 0] (.sl 1 (.sub 0 0) n) (objs40 G) [.cells true (l.map nV)] .normal ⟨env, gIn1 G ++ [(.sub 22 0, .cells true (l.map nV))]⟩ := by
 simp [EndA, h]
theorem end6 {st : St} (h : st.obs = []) (N i : Nat) : EndA (tabT tab) [] ([] : List Ob).length (mvOf (vs6 N i) []) [] (.tup []) [] [] .normal st := by
 obtain ⟨env, obs⟩ := st
 simp only at h; subst h; simp [EndA]
set_option maxHeartbeats 4000000
abbrev Yl (l : Nat) : Value := .func (.yield l) #[] #[]
abbrev Pb (b : Nat) : Value := .pointer (some ⟨b, 0, none⟩)
structure Ctx40 (F : Fr) (a10 : Act) (g l b : Nat) (rec : Loop) : Prop where
 h60 : tmOf a10 60 = .func (.func 40) #[] #[Pb b]
 sz : a10.tmps.size = 89
 gl : g ≠ l
 Fg : ¬ F.F g
 Fl : ¬ F.F l
 Bg : F.B.blk g = none
 Bl : F.B.blk l = none
 st : rec.state = .ready
 pn : rec.pending = none
 tm : rec.tmps = a10.tmps
 pa : rec.params = #[61]
 asn : rec.assign = asg10
 bd : rec.body = bdy10
abbrev Ff (F : Fr) (g l : Nat) : Fr := (F.plus g).plus l
structure Wld (F : Fr) (a10 : Act) (g l : Nat) (rec : Loop) (G : GS) (leave : Int) (W : List (List Nat)) (n : Nat) (H0 : Heap) (w0 w : World) : Prop where
 rel : ∃ H μ, Rel H μ (Ff F g l) (st10 G leave W n) (tmOf a10) w ∧ Ext F H0 w0 H w
 hl : w.heap[l]? = some (.loop rec)
 hg : w.heap[g]? = some (.deferred (some []))
section
variable {F : Fr} {a10 : Act} {g l b : Nat} {rec : Loop} {G : GS} {leave : Int} {W : List (List Nat)} {n N i : Nat} {H H0 : Heap} {μ : Oid → Option Nat} {w0 w : World} {k : Nat} {K : Exit → Act → World → Prop} {a : Act}
theorem tm61 {u : Value} (h : Rel H μ F (st10 G leave W n) (after (some 61) (tmOf a10) u) w) : Rel H μ F (st10 G leave W n) (tmOf a10) w := by
 refine h.tmAny fun t => ?_
 by_cases e : t = 61
 ·subst e; left; rfl
 ·right; simp [after, upd, e]
theorem Wld.ext {w' : World} {H' : Heap} {μ' : Oid → Option Nat} (h : Wld F a10 g l rec G leave W n H0 w0 w) (hr : Rel H' μ' (Ff F g l) (st10 G leave W n) (tmOf a10) w') (hx : Ext (Ff F g l) H w H' w') (hx0 : Ext F H0 w0 H w) : Wld F a10 g l rec G leave W n H0 w0 w' :=
 ⟨⟨H', μ', hr, hx0.trans hx.unplus.unplus⟩, by rw [hx.frm l (.inr rfl) (Array.getElem?_eq_some_iff.1 h.hl).1]; exact h.hl, by rw [hx.frm g (.inl (.inr rfl)) (Array.getElem?_eq_some_iff.1 h.hg).1]; exact h.hg⟩
theorem at_int {st : St} {D : Pin} {m : Nat} (h : AtS H μ F st a w m D) {t : Nat} (ht : t < m) {x : Int} (he : st.tm t = .int .i64 x) : a.tmps[t]? = some (.int .i64 x) := by
 have := h.rel.env t
 rw [he] at this
 have e := this.int
 have hs := h.size
 rw [Array.getElem?_eq_getElem (by omega)]
 simp only [tmOf, Array.getD_eq_getD_getElem?, Array.getElem?_eq_getElem (show t < a.tmps.size by omega)] at e
 rw [← e]; rfl
theorem at_bool {st : St} {D : Pin} {m : Nat} (h : AtS H μ F st a w m D) {t : Nat} (ht : t < m) {x : Bool} (he : st.tm t = .bool x) : a.tmps[t]? = some (.bool x) := by
 have := h.rel.env t
 rw [he] at this
 have e := this.bool
 have hs := h.size
 rw [Array.getElem?_eq_getElem (by omega)]
 simp only [tmOf, Array.getD_eq_getD_getElem?, Array.getElem?_eq_getElem (show t < a.tmps.size by omega)] at e
 rw [← e]; rfl
noncomputable def fnR (res : Array ResultVar) : Func := { Tryd.f40 with results := res }
theorem step6 (hs : a.tmps.size = 37) (hd : a.defers = []) (h0 : a.tmps[0]? = some (Yl l)) (h1 : a.tmps[1]? = some (Pb b)) (h9 : a.tmps[9]? = some (.int .i64 N)) (h10 : a.tmps[10]? = some (.int .i64 i)) (hi : i < 1000000)
  (hw : Wld F a10 g l rec G leave W n H0 w0 w) (hK : ∀ a' w', At40 (Yl l) (Pb b) N (i + 1) a' → Wld F a10 g l rec G leave W n H0 w0 w' → K .normal a' w') : i6.wpIn Fence.wide k Tryd.prog K a w := by
 obtain ⟨H, μ, hr, hx0⟩ := hw.rel
 obtain ⟨μ0, F0, hB, hat, hfin⟩ := pseudo (P := Tryd.prog) (a := a) (m := 37) (D := D40 (Yl l) (Pb b)) tabOk hr (rep6 hs h9 h10) hs hd (d40_fix h0 h1) call6
 refine wpIn_wide.2 (piece_sound (F := F0) tabOk mixed hi6 (i6_ok (B := F0.B) (i := i) (N := N) (j := i + 1) (wrapN (by omega) (by omega))) hat fun e st' a' w' H' μ' hq hat' hx => ?_)
 obtain ⟨rfl, rfl⟩ := hq
 obtain ⟨u, H2, μ2, k1, k2, k3⟩ := hfin #[] (.tup []) [] [] [] H' μ' _ a' w' hat' hx rfl (Nat.le_refl _) rfl (end6 rfl N i) (fnR #[]) rfl
 obtain ⟨μ3, h3⟩ := restrict_rel k2 (hcan ks10)
 rw [can6] at h3
 exact hK a' w' ⟨hat'.size, hat'.defers, hat'.fix 0 rfl, hat'.fix 1 rfl, at_int hat' (by omega) rfl, at_int hat' (by omega) rfl⟩ (hw.ext (tm61 h3) k3 hx0)
end
set_option maxHeartbeats 4000000
section
variable {F : Fr} {a10 : Act} {g l b : Nat} {rec : Loop} {G : GS} {leave : Int} {W : List (List Nat)} {cnt : Nat → Nat} {n N i : Nat} {H0 : Heap} {w0 w : World} {k : Nat} {a : Act}
def Done (F : Fr) (a10 : Act) (g l : Nat) (rec : Loop) (G : GS) (leave : Int) (W : List (List Nat)) (H0 : Heap) (w0 : World) (jump : Option Code) (n : Nat) (w : World) : Prop :=
 (jump = none ∧ n = W.length ∨ jump = some (.exit 4) ∧ (n : Int) = leave) ∧ Wld F a10 g l { rec with state := if jump.isNone then .ready else .done, pending := jump } G leave W n H0 w0 w
theorem rec_same (h1 : rec.state = .ready) (h2 : rec.pending = none) : ({ rec with state := if (none : Option Code).isNone then .ready else .done, pending := none } : Loop) = rec := by
 cases rec; simp only at h1 h2; subst h1; subst h2; rfl
theorem turn40_ok (hx : Ctx40 F a10 g l b rec) (hC : Cls G W cnt) (ha : At40 (Yl l) (Pb b) G.N.length i a) (hi : i ≤ G.N.length) (hw : Wld F a10 g l rec G leave W (cnt i) H0 w0 w) {Q : Exit → Act → World → Prop} {K : Act → World → Prop}
  (hK : i < G.N.length → ∀ a' w', At40 (Yl l) (Pb b) G.N.length (i + 1) a' → Wld F a10 g l rec G leave W (cnt (i + 1)) H0 w0 w' → K a' w')
  (hE : ∀ a' w', i = G.N.length → a'.defers = [] → Wld F a10 g l rec G leave W (cnt i) H0 w0 w' → Q (.exit 0) a' w')
  (hRt : ∀ a' w' (n : Nat), a'.defers = [] → (n : Int) = leave → Wld F a10 g l { rec with state := .done, pending := some (.exit 4) } G leave W n H0 w0 w' → Q .ret a' w') :
  (Code.seq i1 (.seq (.cond (.tmp 11) .skip (.exit 0)) (.seq (.block 1 (.seq i2 (.seq i3 (.seq i4 (.seq (.region 5 ops5.toArray false) (.cond (.tmp 35) .ret .skip)))))) i6))).wpIn Fence.wide k Tryd.prog (Exit.then K Q) a w := by
 obtain ⟨H, μ, hr, hx0⟩ := hw.rel
 have hb := box_at hr rfl hx.h60
 obtain ⟨μ0, F0, hB, hat, hfin⟩ := pseudo (P := Tryd.prog) (a := a) (m := 37) (D := D40 (Yl l) (Pb b)) tabOk hr (rep40 ha hb) ha.size ha.dfr (d40_fix ha.t0 ha.t1) call40
 refine wpIn_seq (wpIn_wide.2 (piece_sound (F := F0) tabOk mixed hi1 (i1_ok (B := F0.B)) hat fun e st1 a1 w1 H1 μ1 hq hat1 hx1 => ?_))
 obtain ⟨rfl, rfl⟩ := hq
 refine wpIn_seq (wpIn_cond (t := decide (i < G.N.length)) (eval_tmp (at_bool hat1 (by omega) rfl)) ?_)
 by_cases hge : ¬ i < G.N.length
 ·rw [decide_eq_false hge]
  refine wpIn_exit ?_
  obtain ⟨u, H2, μ2, k1, k2, k3⟩ := hfin #[] (.tup []) _ [] [] H1 μ1 _ a1 w1 hat1 hx1 rfl (Nat.zero_le _) rfl (end40 _ _) (fnR #[]) rfl
  obtain ⟨μ3, h3⟩ := restrict_rel k2 (hcan ks10)
  rw [canN] at h3
  exact hE a1 w1 (by omega) hat1.defers (hw.ext (tm61 h3) k3 hx0)
 have hlt := Decidable.not_not.1 hge
 rw [decide_eq_true hlt]
 refine wpIn_skip ?_
 show Code.wpIn _ _ _ _ _ _ _
 obtain ⟨r, kr, cl, c1, c2, c3, c4, c5, c6⟩ := hC.each i hlt
 have hlen := srtN_len cl
 have hl0 : 0 < (srtN cl).length := by rw [hlen]; exact List.length_pos_iff.2 c4
 refine wpIn_seq (wpIn_block ?_)
 refine wpIn_seq (wpIn_wide.2 (piece_sound (F := F0) tabOk mixed hi2 (i2_ok (B := F0.B)) hat1 fun e st2 a2 w2 H2 μ2 hq hat2 hx2 => ?_))
 obtain ⟨rfl, rfl⟩ := hq
 refine wpIn_seq (wpIn_wide.2 (piece_sound (F := F0) tabOk mixed hi3 (i3_ok (B := F0.B) hlt c1 c2 c3 c4 c5) hat2 fun e st3 a3 w3 H3 μ3 hq hat3 hx3 => ?_))
 obtain ⟨rfl, rfl⟩ := hq
 refine wpIn_seq (wpIn_wide.2 (piece_sound (F := F0) tabOk mixed hi4 (i4_ok (B := F0.B) c4 c5) hat3 fun e st4 a4 w4 H4 μ4 hq hat4 hx4 => ?_))
 obtain ⟨rfl, rfl⟩ := hq
 refine wpIn_seq (wpIn_region_list ?_)
 show wpListIn _ _ _ _ _ ops5 _ _
 rw [ops5_eq]
 have hdd := List.all_eq_true.1 hd5
 refine ops_sound (F := F0) open_wide tabOk (hh := hin5) hi5 (fun o ho d hod => ?_) (fun o ho => ?_) (i5_ok (B := F0.B) (Q := fun st => st = _) hlen.symm hl0 rfl) hat4 fun st5 a5 w5 H5 μ5 hq hat5 hx5 => ?_
 ·have := hdd o ho
  rw [hod] at this
  simp only [Bool.and_eq_true, Bool.not_eq_true', decide_eq_true_eq] at this
  exact this.2
 ·have := hdd o ho
  simp only [Bool.and_eq_true] at this
  exact this.1
 subst hq
 have hxa : Ext F0 H w H5 w5 := (((hx1.trans hx2).trans hx3).trans hx4).trans hx5
 obtain ⟨u, H6, μ6, k1, k2, k3⟩ := hfin #[.tmp 4] (.sl 1 (.sub 0 0) cl.length) _ [.cells true ((srtN cl).map nV)] [.sub 22 0] H5 μ5 _ a5 w5 hat5 hxa rfl (Nat.le_refl _) rfl (end5 rfl _ _) (fnR #[.tmp 4]) rfl
 have hu : a5.tmps[4]? = some u := by
  have hs := hat5.size
  have e : (results (fnR #[.tmp 4]) a5.tmps).run Tryd.prog w5 = .ok (a5.tmps.getD 4 undef) w5 := by
   simp [results, fnR]
  rw [e] at k1
  injection k1 with k1
  rw [← k1, Array.getElem?_eq_getElem (by omega)]
  simp [Array.getD_eq_getD_getElem?, Array.getElem?_eq_getElem (show 4 < a5.tmps.size by omega)]
 have hob := (can61 (G := G) (leave := leave) (W := W) (n := cnt i) (l := srtN cl)).1
 have htm := (can61 (G := G) (leave := leave) (W := W) (n := cnt i) (l := srtN cl)).2.1
 have hre := (can61 (G := G) (leave := leave) (W := W) (n := cnt i) (l := srtN cl)).2.2.1
 have hfr := (can61 (G := G) (leave := leave) (W := W) (n := cnt i) (l := srtN cl)).2.2.2
 rw [hlen] at hob htm hre hfr
 have t9 := at_int hat5 (t := 9) (by omega) rfl
 have t10 := at_int hat5 (t := 10) (by omega) rfl
 have t30 := at_bool hat5 (t := 30) (by omega) rfl
 rcases c6 with ⟨d1, d2, d3, d4⟩ | ⟨d1, d2⟩
 ·rw [decide_eq_true (by rw [d1])] at t30
  have hob := hob.trans (congrArg (fun x => some (Ob.cells true x)) (srtN_row cl))
  have hsl : (srt (cl.map fun (n : Nat) => (n : Int))).length = cl.length := by rw [srt_len, List.length_map]
  obtain ⟨H7, h7, h8⟩ := k2.freeze (o := .sub 61 0) (t := 61) (l := srt (cl.map fun (n : Nat) => (n : Int))) hob (by rw [hsl]; exact htm) (fun e => by rw [e] at hsl; exact c4 (List.length_eq_zero_iff.1 hsl.symm))
  have e9 : V.slice 1 ((srt (cl.map fun (n : Nat) => (n : Int))).map fun k => V.int .i64 k) = lsV (srtN cl) := by
   show V.slice 1 (iRow _) = V.slice 1 _
   rw [srtN_row]
  rw [e9] at h7
  obtain ⟨μ8, h9⟩ := restrict_rel h7 (hcan [3, 4, 9, 13, 60, 61])
  rw [hfr] at h9
  have hl5 : w5.heap[l]? = some (.loop rec) := by rw [k3.frm l (.inr rfl) (Array.getElem?_eq_some_iff.1 hw.hl).1]; exact hw.hl
  have hg5 : w5.heap[g]? = some (.deferred (some [])) := by rw [k3.frm g (.inl (.inr rfl)) (Array.getElem?_eq_some_iff.1 hw.hg).1]; exact hw.hg
  refine r5_yes hat5.size t30 (hat5.fix 0 rfl) hu hl5 hx.pa ?_
  rw [hx.tm, hx.asn, hx.bd]
  refine round_ok (F1 := F.plus g) (leave := leave) (m := cnt i + 1) h9 hx.sz hl5 hx.st (by rintro (h | h); exact hx.Fl h; exact hx.gl h.symm) hx.Bl rfl d2 d3 (by rw [hlen]; exact c5) hC.wl fun jump H' μ' w' hj hr' hl' hxt => ⟨jump.isNone, rfl, fun a6 f1 f2 f3 f4 => ?_⟩
  have hg' : w'.heap[g]? = some (.deferred (some [])) := by rw [hxt.frm g (.inr rfl) (Array.getElem?_eq_some_iff.1 hg5).1]; exact hg5
  have hxe : Ext F H0 w0 H' w' := ((hx0.trans k3.unplus.unplus).trans h8.unplus.unplus).trans hxt.unplus
  have hwd : Wld F a10 g l { rec with state := if jump.isNone then .ready else .done, pending := jump } G leave W (cnt i + 1) H0 w0 w' := ⟨⟨H', μ', hr', hxe⟩, hl', hg'⟩
  rcases hj with ⟨rfl, hj⟩ | ⟨rfl, hj⟩
  ·refine wpIn_cond (t := false) (eval_tmp f4) (wpIn_skip ?_)
   rw [rec_same hx.st hx.pn] at hwd
   refine step6 f2 (f1.trans hat5.defers) ((f3 0 (by omega)).trans (hat5.fix 0 rfl)) ((f3 1 (by omega)).trans (hat5.fix 1 rfl)) ((f3 9 (by omega)).trans t9) ((f3 10 (by omega)).trans t10) (by have := hC.sm; omega) hwd fun a' w' g1 g2 => ?_
   exact hK hlt a' w' g1 (d4 ▸ g2)
  ·refine wpIn_cond (t := true) (eval_tmp f4) (wpIn_ret ?_)
   exact hRt a6 w' (cnt i + 1) (f1.trans hat5.defers) hj hwd
 ·rw [decide_eq_false (by omega)] at t30
  refine r5_no hat5.size t30 fun a6 f1 f2 f3 f4 => ?_
  refine wpIn_cond (t := false) (eval_tmp f4) (wpIn_skip ?_)
  obtain ⟨μ7, h7⟩ := restrict_rel k2 (hcan ks10)
  rw [hre] at h7
  refine step6 f2 (f1.trans hat5.defers) ((f3 0 (by omega)).trans (hat5.fix 0 rfl)) ((f3 1 (by omega)).trans (hat5.fix 1 rfl)) ((f3 9 (by omega)).trans t9) ((f3 10 (by omega)).trans t10) (by have := hC.sm; omega) (hw.ext (tm61 h7) k3 hx0) fun a' w' g1 g2 => ?_
  exact hK hlt a' w' g1 (d2 ▸ g2)
end
set_option maxHeartbeats 4000000
section
variable {F : Fr} {a10 : Act} {g l b : Nat} {rec : Loop} {G : GS} {leave : Int} {W : List (List Nat)} {cnt : Nat → Nat} {n N i : Nat} {H0 : Heap} {w0 w : World} {k : Nat} {a : Act}
def num10 (a : Act) : Nat := match a.tmps[10]? with | some (Value.int _ x) => x.toNat | _ => 0
theorem num_at (h : At40 (Yl l) (Pb b) N i a) : num10 a = i := by unfold num10; rw [h.t10]; simp
theorem res40 (w : World) (tmps : Array Value) : (results Tryd.f40 tmps).run Tryd.prog w = .ok (.tuple #[]) w := by
 have : Tryd.f40.results = #[] := by kernel_rfl
 simp [results, this]
theorem frame40_ok (hx : Ctx40 F a10 g l b rec) (hC : Cls G W cnt) (hw : Wld F a10 g l rec G leave W 0 H0 w0 w) {R : Ending → World → Prop}
  (hR : ∀ v jump n w', Done F a10 g l rec G leave W H0 w0 jump n w' → R (.returned v) w') : CallsIn Fence.wide k Tryd.prog 40 #[Yl l, Pb b] w R := by
 refine callsIn_of_wp Tryd.func40 b40_eq' trivial ?_
 have hnt : Tryd.f40.ntmps = 37 := by kernel_rfl
 rw [hnt, b40_eq]
 generalize hA : ({ tmps := #[Yl l, Pb b] ++ Array.replicate (37 - #[Yl l, Pb b].size) undef, defers := [] } : Act) = a
 have hs : a.tmps.size = 37 := by rw [← hA]; simp
 have ad : a.defers = [] := by rw [← hA]
 have a0 : a.tmps[0]? = some (Yl l) := by rw [← hA]; simp [Array.getElem?_append]
 have a1 : a.tmps[1]? = some (Pb b) := by rw [← hA]; simp [Array.getElem?_append]
 clear hA
 obtain ⟨H, μ, hr, hx0⟩ := hw.rel
 have hb := box_at hr rfl hx.h60
 obtain ⟨μ0, F0, hB, hat, hfin⟩ := pseudo (P := Tryd.prog) (a := a) (m := 37) (D := D40 (Yl l) (Pb b)) tabOk hr (rep0 hs a1 hb) hs ad (d40_fix a0 a1) call0
 refine wpIn_seq (wpIn_wide.2 (piece_sound (F := F0) tabOk mixed hi0 (i0_ok (B := F0.B)) hat fun e st1 a1 w1 H1 μ1 hq hat1 hx1 => ?_))
 obtain ⟨rfl, rfl⟩ := hq
 obtain ⟨u, H2, μ2, k1, k2, k3⟩ := hfin #[] (.tup []) _ [] [] H1 μ1 _ a1 w1 hat1 hx1 rfl (Nat.le_refl _) rfl end0 (fnR #[]) rfl
 obtain ⟨μ3, h3⟩ := restrict_rel k2 (hcan ks10)
 rw [canN] at h3
 have hw1 := hw.ext (tm61 h3) k3 hx0
 have ha1 : At40 (Yl l) (Pb b) G.N.length 0 a1 := ⟨hat1.size, hat1.defers, hat1.fix 0 rfl, hat1.fix 1 rfl, at_int hat1 (by omega) rfl, at_int hat1 (by omega) rfl⟩
 refine wpIn_block (wpIn_loop (fun a w => ∃ i, i ≤ G.N.length ∧ At40 (Yl l) (Pb b) G.N.length i a ∧ Wld F a10 g l rec G leave W (cnt i) H0 w0 w) (fun a _ => G.N.length - num10 a) ⟨0, Nat.zero_le _, ha1, hC.z.symm ▸ hw1⟩ ?_)
 rintro a w ⟨i, hi, ha, hw⟩
 refine turn40_ok hx hC ha hi hw (fun hlt a' w' h1 h2 => ⟨⟨i + 1, hlt, h1, h2⟩, ?_⟩) (fun a' w' he hd h2 => ?_) (fun a' w' n hd hn h2 => ?_)
 ·rw [num_at h1, num_at ha]; omega
 ·refine ⟨hd, _, res40 _ _, hR _ none _ _ ⟨.inl ⟨rfl, rfl⟩, ?_⟩⟩
  rw [rec_same hx.st hx.pn, ← hC.e, ← he]
  exact h2
 ·exact ⟨hd, _, res40 _ _, hR _ (some (.exit 4)) _ _ ⟨.inr ⟨rfl, hn⟩, h2⟩⟩
end
end Go.Proofs.YtjabgfnljbnmmaaDoor
