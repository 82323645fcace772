/- A part of the proof of a law of this seat: no condition. -/
import Derived.Test.YtjabgfnljbnmmaaDoorA7
set_option linter.unusedVariables false
set_option linter.unusedSimpArgs false
namespace Go.Ax
/-- How a function's body ends. -/
def EndA (T : Nat → Option TI) (res : List ResultVar) (n : Nat) (mv : List Nat) (nwl : List Oid) (r : V) (objs' news : List Ob) (e : X) (st : St) : Prop :=
 (match e with | .exit _ => False | _ => True) ∧ (resS T st res).map (renV (outn n mv (nwl.take news.length))) = some r ∧ parsD mv (outn n mv (nwl.take news.length)) st 0 n = some objs' ∧
  newsOf (outn n mv (nwl.take news.length)) st (nwl.take news.length) = some news
theorem callMB {mv : List Nat} {P : Program} {B : Heap} {T : Nat → Option TI} {f : FuncId} {fn : Func} {ac : AC} (hT : TabOk P T) (hm : P.follows .mixedOrders = true) (hf : P.funcs[f]? = some fn)
  (henter : ∀ (as_ : Array Value) (w : World), (callFunc f as_).run P w = .ok (.enter f as_) w) (hint : Nat → Hint) (opt : Opt) {res : List ResultVar} {n : Nat} {nwl : List Oid}
  (hc : (fn.body.bind fun c => if dstsOk fn.ntmps c then cCode T opt hint c else none) = some ac) (hr : fn.results.toList = res) (hnt : fn.ntmps = n) (hnw : nwOk nwl = true)
  {args : List V} {objs : List Ob} {r : V} {objs' news : List Ob} (hn : args.length ≤ n) (hlen : objs'.length = objs.length)
  (h : acwp (COk P B) ac (initM mv args objs) (EndA T res objs.length (mv) nwl r objs' news)) : CallM P B mv f args objs r objs' news := by
 rw [Option.bind_eq_some_iff] at hc
 obtain ⟨c, h1, h2⟩ := hc
 split at h2
 ·rename_i hd
  subst hr
  refine callM_of hT hm hf h1 henter hint hd (hnt ▸ hn) hlen hnw (acwp_sound (Q := EndA T fn.results.toList objs.length (mv) nwl r objs' news) c h2 (fun e st he => ?_) h)
  obtain ⟨h1, h2, h3, h4⟩ := he
  refine ⟨?_, h2, h3, h4⟩
  cases e with
  | normal => exact .inr rfl
  | ret => exact .inl rfl
  | exit _ => exact h1.elim
 ·simp at h2
theorem callK {C : Orc} {f : FuncId} {args : List V} {objs : List Ob} {nw : Nat} {K : V → List Ob → List Ob → Prop} {r : V} {objs' news : List Ob} (h : C f args objs r objs' news) (hn : news.length ≤ nw) (h2 : K r objs' news) : CallA C f args objs nw K := ⟨r, objs', news, h, hn, h2⟩
theorem fin {Q : St → Prop} {st : St} (h : Q st) : Fin Q st := h

def brP (p : Prop) (A B : Prop) : Prop := (p → A) ∧ (¬p → B)
@[congr] theorem br_congr {x x' : Bool} {A A' B B' : Prop} (e : x = x') (h1 : x' = true → A = A') (h2 : x' = false → B = B') : br x A B = br x' A' B' := by
 subst e
 unfold br
 cases x
 ·rw [h2 rfl]; simp
 ·rw [h1 rfl]; simp
@[congr] theorem brP_congr {p p' : Prop} {A A' B B' : Prop} (e : p = p') (h1 : p' → A = A') (h2 : ¬p' → B = B') : brP p A B = brP p' A' B' := by
 subst e
 unfold brP
 apply propext
 constructor
 ·rintro ⟨g1, g2⟩; exact ⟨fun h => h1 h ▸ g1 h, fun h => h2 h ▸ g2 h⟩
 ·rintro ⟨g1, g2⟩; exact ⟨fun h => (h1 h).symm ▸ g1 h, fun h => (h2 h).symm ▸ g2 h⟩
theorem br_decide (p : Prop) [Decidable p] (A B : Prop) : br (decide p) A B = brP p A B := by simp [br, brP]
@[simp] theorem br_true (A B : Prop) : br true A B = A := by simp [br]
@[simp] theorem br_false (A B : Prop) : br false A B = B := by simp [br]
@[simp] theorem brP_true (A B : Prop) : brP True A B = A := by simp [brP]
@[simp] theorem brP_false (A B : Prop) : brP False A B = B := by simp [brP]
@[simp] theorem br_fin (x : Bool) (Q : St → Prop) (a b : St) : br x (Fin Q a) (Fin Q b) = Fin Q (mrg x a b) := by cases x <;> simp [mrg]
@[simp] theorem brP_fin (p : Prop) [Decidable p] (Q : St → Prop) (a b : St) : brP p (Fin Q a) (Fin Q b) = Fin Q (mrg (decide p) a b) := by by_cases h : p <;> simp [mrg, h]
@[simp] theorem mrg_true {α : Type} (a b : α) : mrg true a b = a := rfl
@[simp] theorem mrg_false {α : Type} (a b : α) : mrg false a b = b := rfl
@[simp] theorem mrg_same {α : Type} (x : Bool) (a : α) : mrg x a a = a := by cases x <;> rfl
@[simp] theorem mrg_St (x : Bool) (e e' : List (Nat × V)) (o o' : List (Oid × Ob)) : mrg x (St.mk e o) (St.mk e' o') = St.mk (mrg x e e') (mrg x o o') := by cases x <;> rfl
@[simp] theorem mrg_env (x : Bool) (k : Nat) (v v' : V) (r r' : List (Nat × V)) : mrg x ((k, v) :: r) ((k, v') :: r') = (k, mrg x v v') :: mrg x r r' := by cases x <;> rfl
@[simp] theorem mrg_bool (x a b : Bool) : mrg x (V.bool a) (.bool b) = .bool (mrg x a b) := by cases x <;> rfl
@[simp] theorem mrg_b1 (x p : Bool) : mrg x p false = (x && p) := by cases x <;> simp
@[simp] theorem mrg_b2 (x q : Bool) : mrg x true q = (x || q) := by cases x <;> simp
@[simp] theorem runA_nil (C : Orc) (h : Hint) (st : St) (Q : St → Prop) : runA C h [] st Q = Fin Q (restrict h st) := by rw [runA]
@[simp] theorem runA_none (C : Orc) (h : Hint) (d : Option Nat) (k : AK) (r : List AO) (st : St) (Q : St → Prop) : runA C h (⟨none, d, k⟩ :: r) st Q = resK C h r st Q ((evA d k).run st) := by rw [runA]
def brG (C : Orc) (h : Hint) (v : V) (b : Bool) (d : Option Nat) (k : AK) (r : List AO) (st : St) (Q : St → Prop) : Prop := brV v b (resK C h r st Q ((evA d k).run st)) (runA C h r (st.app (out d (.tup []))) Q)
@[simp] theorem runA_some (C : Orc) (h : Hint) (t : Nat) (b : Bool) (d : Option Nat) (k : AK) (r : List AO) (st : St) (Q : St → Prop) : runA C h (⟨some (t, b), d, k⟩ :: r) st Q = brG C h (st.tm t) b d k r st Q := by rw [runA, brG]
@[simp] theorem brG_tup (C : Orc) (h : Hint) (b : Bool) (d : Option Nat) (k : AK) (r : List AO) (st : St) (Q : St → Prop) : brG C h (.tup []) b d k r st Q = runA C h r (st.app (out d (.tup []))) Q := rfl
@[simp high] theorem brG_tt (C : Orc) (h : Hint) (d : Option Nat) (k : AK) (r : List AO) (st : St) (Q : St → Prop) : brG C h (.bool true) true d k r st Q = resK C h r st Q ((evA d k).run st) := by simp [brG, brV]
@[simp high] theorem brG_ff (C : Orc) (h : Hint) (d : Option Nat) (k : AK) (r : List AO) (st : St) (Q : St → Prop) : brG C h (.bool false) false d k r st Q = resK C h r st Q ((evA d k).run st) := by simp [brG, brV]
@[simp high] theorem brG_tf (C : Orc) (h : Hint) (d : Option Nat) (k : AK) (r : List AO) (st : St) (Q : St → Prop) : brG C h (.bool true) false d k r st Q = runA C h r (st.app (out d (.tup []))) Q := by simp [brG, brV]
@[simp high] theorem brG_ft (C : Orc) (h : Hint) (d : Option Nat) (k : AK) (r : List AO) (st : St) (Q : St → Prop) : brG C h (.bool false) true d k r st Q = runA C h r (st.app (out d (.tup []))) Q := by simp [brG, brV]
@[simp low] theorem brG_t (C : Orc) (h : Hint) (x : Bool) (d : Option Nat) (k : AK) (r : List AO) (st : St) (Q : St → Prop) :
  brG C h (.bool x) true d k r st Q = br (id x) (resK C h r st Q ((evA d k).run st)) (runA C h r (st.app (out d (.tup []))) Q) := rfl
@[simp low] theorem brG_f (C : Orc) (h : Hint) (x : Bool) (d : Option Nat) (k : AK) (r : List AO) (st : St) (Q : St → Prop) :
  brG C h (.bool x) false d k r st Q = br (id x) (runA C h r (st.app (out d (.tup []))) Q) (resK C h r st Q ((evA d k).run st)) := rfl
@[simp] theorem brG_tp (C : Orc) (h : Hint) (x : Prop) [Decidable x] (d : Option Nat) (k : AK) (r : List AO) (st : St) (Q : St → Prop) :
  brG C h (.bool (decide x)) true d k r st Q = brP (id x) (resK C h r st Q ((evA d k).run st)) (runA C h r (st.app (out d (.tup []))) Q) := br_decide _ _ _
@[simp] theorem brG_fp (C : Orc) (h : Hint) (x : Prop) [Decidable x] (d : Option Nat) (k : AK) (r : List AO) (st : St) (Q : St → Prop) :
  brG C h (.bool (decide x)) false d k r st Q = brP (id x) (runA C h r (st.app (out d (.tup []))) Q) (resK C h r st Q ((evA d k).run st)) := br_decide _ _ _
@[simp] theorem resK_ws (C : Orc) (h : Hint) (r : List AO) (st : St) (Q : St → Prop) (l : List Wr) : resK C h r st Q (some (.ws l)) = runA C h r (st.app l) Q := by rw [resK]
@[simp] theorem resK_call (C : Orc) (h : Hint) (r : List AO) (st : St) (Q : St → Prop) (f : FuncId) (args : List V) (objs : List Ob) (nw : Nat) (w : Way) :
  resK C h r st Q (some (.call f args objs nw w)) = CallA C f args objs nw fun v os ns => runA C h r (st.app (back w v os ns)) Q := by rw [resK]

@[simp] theorem run_rd {α : Type} (st : St) (x : Src) (f : V → Rd α) : (x.rd.bind f).run st = (f (x.val st)).run st := by cases x <;> rfl
def Src.rds : Src → List Wh
 | .t n => [.t n]
 | .v _ => []
theorem reads_rd {α : Type} (st : St) (x : Src) (f : V → Rd α) : (x.rd.bind f).reads st = x.rds ++ (f (x.val st)).reads st := by cases x <;> rfl
theorem run_bind {α β : Type} (st : St) (x : Rd α) (f : α → Rd β) : (x.bind f).run st = (x.run st).bind fun a => (f a).run st := by
 induction x with
 | ret a => rfl
 | fail => rfl
 | tm t k ih => exact ih _
 | ob o k ih => exact ih _
@[simp] theorem run_srcs (st : St) : ∀ l : List Src, (srcs l).run st = some (l.map (Src.val st)) := by
 intro l
 induction l with
 | nil => rfl
 | cons x r ih => simp only [srcs, bind, run_rd, run_bind, ih]; cases x <;> rfl
@[simp] theorem pure_rd {α : Type} (a : α) : (pure a : Rd α) = .ret a := rfl
@[simp] theorem bind_rd {α β : Type} (x : Rd α) (f : α → Rd β) : (x >>= f) = x.bind f := rfl
@[simp] theorem z_pure_rd {α : Type} (a : α) : (pure a : Rd α) = .ret a := rfl
theorem _root_.Go.Ax.Rd.bind_assoc {α β γ : Type} (x : Rd α) (f : α → Rd β) (g : β → Rd γ) : (x.bind f).bind g = x.bind fun a => (f a).bind g := by
 induction x with
 | ret a => rfl
 | fail => rfl
 | tm t k ih => simp only [Rd.bind]; congr 1; funext v; exact ih v
 | ob o k ih => simp only [Rd.bind]; congr 1; funext v; exact ih v
attribute [simp] Rd.bind_assoc
@[simp] theorem z_weak_any  : V.weak (.any : V) = (.any : V) := rfl
@[simp] theorem z_weak_nils  : V.weak (.nils : V) = (.nils : V) := rfl
@[simp] theorem z_weak_int (k : IntKind) (n : Int) : V.weak (.int k n : V) = (.int k n : V) := rfl
@[simp] theorem z_weak_bool (b : Bool) : V.weak (.bool b : V) = (.bool b : V) := rfl
@[simp] theorem z_weak_str (s : List UInt8) : V.weak (.str s : V) = (.str s : V) := rfl
@[simp] theorem z_weak_nilp  : V.weak (.nilp : V) = (.nilp : V) := rfl
@[simp] theorem z_weak_nilfn  : V.weak (.nilfn : V) = (.nilfn : V) := rfl
@[simp] theorem z_weak_fn (f : FuncId) : V.weak (.fn f : V) = (.fn f : V) := rfl
@[simp] theorem z_weak_agg (cs : List V) : V.weak (.agg cs : V) = .agg (cs.map V.weak1) := rfl
@[simp] theorem z_weak_slice (sz : Nat) (xs : List V) : V.weak (.slice sz xs : V) = (.slice sz xs : V) := rfl
@[simp] theorem z_weak_own (sz : Nat) (xs : List V) : V.weak (.own sz xs : V) = .slice sz xs := rfl
@[simp] theorem z_weak_ref (o : Oid) (off : Nat) : V.weak (.ref o off : V) = (.ref o off : V) := rfl
@[simp] theorem z_weak_eptr (cs : List V) (off : Nat) : V.weak (.eptr cs off : V) = (.eptr cs off : V) := rfl
@[simp] theorem z_weak_clo (f : FuncId) (a b : List V) : V.weak (.clo f a b : V) = (.clo f a b : V) := rfl
@[simp] theorem z_weak_tup (vs : List V) : V.weak (.tup vs : V) = (.tup vs : V) := rfl
@[simp] theorem z_weak_sl (sz : Nat) (o : Oid) (n : Nat) : V.weak (.sl sz o n : V) = (.sl sz o n : V) := rfl
@[simp] theorem z_weak_mp (o : Oid) : V.weak (.mp o : V) = (.mp o : V) := rfl
@[simp] theorem z_weak1_any  : V.weak1 (.any : V) = (.any : V) := rfl
@[simp] theorem z_weak1_nils  : V.weak1 (.nils : V) = (.nils : V) := rfl
@[simp] theorem z_weak1_int (k : IntKind) (n : Int) : V.weak1 (.int k n : V) = (.int k n : V) := rfl
@[simp] theorem z_weak1_bool (b : Bool) : V.weak1 (.bool b : V) = (.bool b : V) := rfl
@[simp] theorem z_weak1_str (s : List UInt8) : V.weak1 (.str s : V) = (.str s : V) := rfl
@[simp] theorem z_weak1_nilp  : V.weak1 (.nilp : V) = (.nilp : V) := rfl
@[simp] theorem z_weak1_nilfn  : V.weak1 (.nilfn : V) = (.nilfn : V) := rfl
@[simp] theorem z_weak1_fn (f : FuncId) : V.weak1 (.fn f : V) = (.fn f : V) := rfl
@[simp] theorem z_weak1_agg (cs : List V) : V.weak1 (.agg cs : V) = (.agg cs : V) := rfl
@[simp] theorem z_weak1_slice (sz : Nat) (xs : List V) : V.weak1 (.slice sz xs : V) = (.slice sz xs : V) := rfl
@[simp] theorem z_weak1_own (sz : Nat) (xs : List V) : V.weak1 (.own sz xs : V) = .slice sz xs := rfl
@[simp] theorem z_weak1_ref (o : Oid) (off : Nat) : V.weak1 (.ref o off : V) = (.ref o off : V) := rfl
@[simp] theorem z_weak1_eptr (cs : List V) (off : Nat) : V.weak1 (.eptr cs off : V) = (.eptr cs off : V) := rfl
@[simp] theorem z_weak1_clo (f : FuncId) (a b : List V) : V.weak1 (.clo f a b : V) = (.clo f a b : V) := rfl
@[simp] theorem z_weak1_tup (vs : List V) : V.weak1 (.tup vs : V) = (.tup vs : V) := rfl
@[simp] theorem z_weak1_sl (sz : Nat) (o : Oid) (n : Nat) : V.weak1 (.sl sz o n : V) = (.sl sz o n : V) := rfl
@[simp] theorem z_weak1_mp (o : Oid) : V.weak1 (.mp o : V) = (.mp o : V) := rfl
@[simp] theorem z_isOwn_any  : V.isOwn (.any : V) = false := rfl
@[simp] theorem z_isOwn_nils  : V.isOwn (.nils : V) = false := rfl
@[simp] theorem z_isOwn_int (k : IntKind) (n : Int) : V.isOwn (.int k n : V) = false := rfl
@[simp] theorem z_isOwn_bool (b : Bool) : V.isOwn (.bool b : V) = false := rfl
@[simp] theorem z_isOwn_str (s : List UInt8) : V.isOwn (.str s : V) = false := rfl
@[simp] theorem z_isOwn_nilp  : V.isOwn (.nilp : V) = false := rfl
@[simp] theorem z_isOwn_nilfn  : V.isOwn (.nilfn : V) = false := rfl
@[simp] theorem z_isOwn_fn (f : FuncId) : V.isOwn (.fn f : V) = false := rfl
@[simp] theorem z_isOwn_agg (cs : List V) : V.isOwn (.agg cs : V) = false := rfl
@[simp] theorem z_isOwn_slice (sz : Nat) (xs : List V) : V.isOwn (.slice sz xs : V) = false := rfl
@[simp] theorem z_isOwn_own (sz : Nat) (xs : List V) : V.isOwn (.own sz xs : V) = true := rfl
@[simp] theorem z_isOwn_ref (o : Oid) (off : Nat) : V.isOwn (.ref o off : V) = false := rfl
@[simp] theorem z_isOwn_eptr (cs : List V) (off : Nat) : V.isOwn (.eptr cs off : V) = false := rfl
@[simp] theorem z_isOwn_clo (f : FuncId) (a b : List V) : V.isOwn (.clo f a b : V) = false := rfl
@[simp] theorem z_isOwn_tup (vs : List V) : V.isOwn (.tup vs : V) = false := rfl
@[simp] theorem z_isOwn_sl (sz : Nat) (o : Oid) (n : Nat) : V.isOwn (.sl sz o n : V) = false := rfl
@[simp] theorem z_isOwn_mp (o : Oid) : V.isOwn (.mp o : V) = false := rfl
@[simp] theorem z_isTup_any  : V.isTup (.any : V) = false := rfl
@[simp] theorem z_isTup_nils  : V.isTup (.nils : V) = false := rfl
@[simp] theorem z_isTup_int (k : IntKind) (n : Int) : V.isTup (.int k n : V) = false := rfl
@[simp] theorem z_isTup_bool (b : Bool) : V.isTup (.bool b : V) = false := rfl
@[simp] theorem z_isTup_str (s : List UInt8) : V.isTup (.str s : V) = false := rfl
@[simp] theorem z_isTup_nilp  : V.isTup (.nilp : V) = false := rfl
@[simp] theorem z_isTup_nilfn  : V.isTup (.nilfn : V) = false := rfl
@[simp] theorem z_isTup_fn (f : FuncId) : V.isTup (.fn f : V) = false := rfl
@[simp] theorem z_isTup_agg (cs : List V) : V.isTup (.agg cs : V) = false := rfl
@[simp] theorem z_isTup_slice (sz : Nat) (xs : List V) : V.isTup (.slice sz xs : V) = false := rfl
@[simp] theorem z_isTup_own (sz : Nat) (xs : List V) : V.isTup (.own sz xs : V) = false := rfl
@[simp] theorem z_isTup_ref (o : Oid) (off : Nat) : V.isTup (.ref o off : V) = false := rfl
@[simp] theorem z_isTup_eptr (cs : List V) (off : Nat) : V.isTup (.eptr cs off : V) = false := rfl
@[simp] theorem z_isTup_clo (f : FuncId) (a b : List V) : V.isTup (.clo f a b : V) = false := rfl
@[simp] theorem z_isTup_tup (vs : List V) : V.isTup (.tup vs : V) = true := rfl
@[simp] theorem z_isTup_sl (sz : Nat) (o : Oid) (n : Nat) : V.isTup (.sl sz o n : V) = false := rfl
@[simp] theorem z_isTup_mp (o : Oid) : V.isTup (.mp o : V) = false := rfl
@[simp] theorem z_storable_any  : V.storable (.any : V) = false := rfl
@[simp] theorem z_storable_nils  : V.storable (.nils : V) = true := rfl
@[simp] theorem z_storable_int (k : IntKind) (n : Int) : V.storable (.int k n : V) = true := rfl
@[simp] theorem z_storable_bool (b : Bool) : V.storable (.bool b : V) = true := rfl
@[simp] theorem z_storable_str (s : List UInt8) : V.storable (.str s : V) = true := rfl
@[simp] theorem z_storable_nilp  : V.storable (.nilp : V) = true := rfl
@[simp] theorem z_storable_nilfn  : V.storable (.nilfn : V) = true := rfl
@[simp] theorem z_storable_fn (f : FuncId) : V.storable (.fn f : V) = true := rfl
@[simp] theorem z_storable_agg (cs : List V) : V.storable (.agg cs : V) = true := rfl
@[simp] theorem z_storable_slice (sz : Nat) (xs : List V) : V.storable (.slice sz xs : V) = true := rfl
@[simp] theorem z_storable_own (sz : Nat) (xs : List V) : V.storable (.own sz xs : V) = true := rfl
@[simp] theorem z_storable_ref (o : Oid) (off : Nat) : V.storable (.ref o off : V) = true := rfl
@[simp] theorem z_storable_eptr (cs : List V) (off : Nat) : V.storable (.eptr cs off : V) = true := rfl
@[simp] theorem z_storable_clo (f : FuncId) (a b : List V) : V.storable (.clo f a b : V) = false := rfl
@[simp] theorem z_storable_tup (vs : List V) : V.storable (.tup vs : V) = false := rfl
@[simp] theorem z_storable_sl (sz : Nat) (o : Oid) (n : Nat) : V.storable (.sl sz o n : V) = true := rfl
@[simp] theorem z_storable_mp (o : Oid) : V.storable (.mp o : V) = true := rfl
@[simp] theorem z_scells_any  : V.scells (.any : V) = [(.any : V)] := rfl
@[simp] theorem z_scells_nils  : V.scells (.nils : V) = [(.nils : V)] := rfl
@[simp] theorem z_scells_int (k : IntKind) (n : Int) : V.scells (.int k n : V) = [(.int k n : V)] := rfl
@[simp] theorem z_scells_bool (b : Bool) : V.scells (.bool b : V) = [(.bool b : V)] := rfl
@[simp] theorem z_scells_str (s : List UInt8) : V.scells (.str s : V) = [(.str s : V)] := rfl
@[simp] theorem z_scells_nilp  : V.scells (.nilp : V) = [(.nilp : V)] := rfl
@[simp] theorem z_scells_nilfn  : V.scells (.nilfn : V) = [(.nilfn : V)] := rfl
@[simp] theorem z_scells_fn (f : FuncId) : V.scells (.fn f : V) = [(.fn f : V)] := rfl
@[simp] theorem z_scells_agg (cs : List V) : V.scells (.agg cs : V) = cs.map V.weak1 := rfl
@[simp] theorem z_scells_slice (sz : Nat) (xs : List V) : V.scells (.slice sz xs : V) = [(.slice sz xs : V)] := rfl
@[simp] theorem z_scells_own (sz : Nat) (xs : List V) : V.scells (.own sz xs : V) = [(.own sz xs : V)] := rfl
@[simp] theorem z_scells_ref (o : Oid) (off : Nat) : V.scells (.ref o off : V) = [(.ref o off : V)] := rfl
@[simp] theorem z_scells_eptr (cs : List V) (off : Nat) : V.scells (.eptr cs off : V) = [(.eptr cs off : V)] := rfl
@[simp] theorem z_scells_clo (f : FuncId) (a b : List V) : V.scells (.clo f a b : V) = [(.clo f a b : V)] := rfl
@[simp] theorem z_scells_tup (vs : List V) : V.scells (.tup vs : V) = [(.tup vs : V)] := rfl
@[simp] theorem z_scells_sl (sz : Nat) (o : Oid) (n : Nat) : V.scells (.sl sz o n : V) = [(.sl sz o n : V)] := rfl
@[simp] theorem z_scells_mp (o : Oid) : V.scells (.mp o : V) = [(.mp o : V)] := rfl
@[simp] theorem z_cells_any  : V.cells (.any : V) = [(.any : V)] := rfl
@[simp] theorem z_cells_nils  : V.cells (.nils : V) = [(.nils : V)] := rfl
@[simp] theorem z_cells_int (k : IntKind) (n : Int) : V.cells (.int k n : V) = [(.int k n : V)] := rfl
@[simp] theorem z_cells_bool (b : Bool) : V.cells (.bool b : V) = [(.bool b : V)] := rfl
@[simp] theorem z_cells_str (s : List UInt8) : V.cells (.str s : V) = [(.str s : V)] := rfl
@[simp] theorem z_cells_nilp  : V.cells (.nilp : V) = [(.nilp : V)] := rfl
@[simp] theorem z_cells_nilfn  : V.cells (.nilfn : V) = [(.nilfn : V)] := rfl
@[simp] theorem z_cells_fn (f : FuncId) : V.cells (.fn f : V) = [(.fn f : V)] := rfl
@[simp] theorem z_cells_agg (cs : List V) : V.cells (.agg cs : V) = cs := rfl
@[simp] theorem z_cells_slice (sz : Nat) (xs : List V) : V.cells (.slice sz xs : V) = [(.slice sz xs : V)] := rfl
@[simp] theorem z_cells_own (sz : Nat) (xs : List V) : V.cells (.own sz xs : V) = [(.own sz xs : V)] := rfl
@[simp] theorem z_cells_ref (o : Oid) (off : Nat) : V.cells (.ref o off : V) = [(.ref o off : V)] := rfl
@[simp] theorem z_cells_eptr (cs : List V) (off : Nat) : V.cells (.eptr cs off : V) = [(.eptr cs off : V)] := rfl
@[simp] theorem z_cells_clo (f : FuncId) (a b : List V) : V.cells (.clo f a b : V) = [(.clo f a b : V)] := rfl
@[simp] theorem z_cells_tup (vs : List V) : V.cells (.tup vs : V) = [(.tup vs : V)] := rfl
@[simp] theorem z_cells_sl (sz : Nat) (o : Oid) (n : Nat) : V.cells (.sl sz o n : V) = [(.sl sz o n : V)] := rfl
@[simp] theorem z_cells_mp (o : Oid) : V.cells (.mp o : V) = [(.mp o : V)] := rfl
@[simp] theorem z_pure1_any  : V.pure1 (.any : V) = false := rfl
@[simp] theorem z_pure1_nils  : V.pure1 (.nils : V) = false := rfl
@[simp] theorem z_pure1_int (k : IntKind) (n : Int) : V.pure1 (.int k n : V) = true := rfl
@[simp] theorem z_pure1_bool (b : Bool) : V.pure1 (.bool b : V) = true := rfl
@[simp] theorem z_pure1_str (s : List UInt8) : V.pure1 (.str s : V) = true := rfl
@[simp] theorem z_pure1_nilp  : V.pure1 (.nilp : V) = true := rfl
@[simp] theorem z_pure1_nilfn  : V.pure1 (.nilfn : V) = true := rfl
@[simp] theorem z_pure1_fn (f : FuncId) : V.pure1 (.fn f : V) = true := rfl
@[simp] theorem z_pure1_agg (cs : List V) : V.pure1 (.agg cs : V) = false := rfl
@[simp] theorem z_pure1_slice (sz : Nat) (xs : List V) : V.pure1 (.slice sz xs : V) = true := rfl
@[simp] theorem z_pure1_own (sz : Nat) (xs : List V) : V.pure1 (.own sz xs : V) = true := rfl
@[simp] theorem z_pure1_ref (o : Oid) (off : Nat) : V.pure1 (.ref o off : V) = false := rfl
@[simp] theorem z_pure1_eptr (cs : List V) (off : Nat) : V.pure1 (.eptr cs off : V) = false := rfl
@[simp] theorem z_pure1_clo (f : FuncId) (a b : List V) : V.pure1 (.clo f a b : V) = false := rfl
@[simp] theorem z_pure1_tup (vs : List V) : V.pure1 (.tup vs : V) = false := rfl
@[simp] theorem z_pure1_sl (sz : Nat) (o : Oid) (n : Nat) : V.pure1 (.sl sz o n : V) = false := rfl
@[simp] theorem z_pure1_mp (o : Oid) : V.pure1 (.mp o : V) = false := rfl
@[simp] theorem z_pure_any  : V.pure (.any : V) = false := rfl
@[simp] theorem z_pure_nils  : V.pure (.nils : V) = false := rfl
@[simp] theorem z_pure_int (k : IntKind) (n : Int) : V.pure (.int k n : V) = true := rfl
@[simp] theorem z_pure_bool (b : Bool) : V.pure (.bool b : V) = true := rfl
@[simp] theorem z_pure_str (s : List UInt8) : V.pure (.str s : V) = true := rfl
@[simp] theorem z_pure_nilp  : V.pure (.nilp : V) = true := rfl
@[simp] theorem z_pure_nilfn  : V.pure (.nilfn : V) = true := rfl
@[simp] theorem z_pure_fn (f : FuncId) : V.pure (.fn f : V) = true := rfl
@[simp] theorem z_pure_agg (cs : List V) : V.pure (.agg cs : V) = cs.all V.pure1 := rfl
@[simp] theorem z_pure_slice (sz : Nat) (xs : List V) : V.pure (.slice sz xs : V) = true := rfl
@[simp] theorem z_pure_own (sz : Nat) (xs : List V) : V.pure (.own sz xs : V) = true := rfl
@[simp] theorem z_pure_ref (o : Oid) (off : Nat) : V.pure (.ref o off : V) = false := rfl
@[simp] theorem z_pure_eptr (cs : List V) (off : Nat) : V.pure (.eptr cs off : V) = false := rfl
@[simp] theorem z_pure_clo (f : FuncId) (a b : List V) : V.pure (.clo f a b : V) = false := rfl
@[simp] theorem z_pure_tup (vs : List V) : V.pure (.tup vs : V) = false := rfl
@[simp] theorem z_pure_sl (sz : Nat) (o : Oid) (n : Nat) : V.pure (.sl sz o n : V) = false := rfl
@[simp] theorem z_pure_mp (o : Oid) : V.pure (.mp o : V) = false := rfl
@[simp] theorem z_elems_any  : V.elems (.any : V) = none := rfl
@[simp] theorem z_elems_nils  : V.elems (.nils : V) = none := rfl
@[simp] theorem z_elems_int (k : IntKind) (n : Int) : V.elems (.int k n : V) = none := rfl
@[simp] theorem z_elems_bool (b : Bool) : V.elems (.bool b : V) = none := rfl
@[simp] theorem z_elems_str (s : List UInt8) : V.elems (.str s : V) = none := rfl
@[simp] theorem z_elems_nilp  : V.elems (.nilp : V) = none := rfl
@[simp] theorem z_elems_nilfn  : V.elems (.nilfn : V) = none := rfl
@[simp] theorem z_elems_fn (f : FuncId) : V.elems (.fn f : V) = none := rfl
@[simp] theorem z_elems_agg (cs : List V) : V.elems (.agg cs : V) = none := rfl
@[simp] theorem z_elems_slice (sz : Nat) (xs : List V) : V.elems (.slice sz xs : V) = some (sz, xs) := rfl
@[simp] theorem z_elems_own (sz : Nat) (xs : List V) : V.elems (.own sz xs : V) = some (sz, xs) := rfl
@[simp] theorem z_elems_ref (o : Oid) (off : Nat) : V.elems (.ref o off : V) = none := rfl
@[simp] theorem z_elems_eptr (cs : List V) (off : Nat) : V.elems (.eptr cs off : V) = none := rfl
@[simp] theorem z_elems_clo (f : FuncId) (a b : List V) : V.elems (.clo f a b : V) = none := rfl
@[simp] theorem z_elems_tup (vs : List V) : V.elems (.tup vs : V) = none := rfl
@[simp] theorem z_elems_sl (sz : Nat) (o : Oid) (n : Nat) : V.elems (.sl sz o n : V) = none := rfl
@[simp] theorem z_elems_mp (o : Oid) : V.elems (.mp o : V) = none := rfl
@[simp] theorem z_fixE_nils (n : Nat) : fixE (some n) .nils = .own n [] := rfl
@[simp] theorem z_fixE_int (e : Option Nat) (k : IntKind) (n : Int) : fixE e (.int k n : V) = (.int k n : V) := by cases e <;> rfl
@[simp] theorem z_fixE_bool (e : Option Nat) (b : Bool) : fixE e (.bool b : V) = (.bool b : V) := by cases e <;> rfl
@[simp] theorem z_fixE_str (e : Option Nat) (s : List UInt8) : fixE e (.str s : V) = (.str s : V) := by cases e <;> rfl
@[simp] theorem z_fixE_nilp (e : Option Nat)  : fixE e (.nilp : V) = (.nilp : V) := by cases e <;> rfl
@[simp] theorem z_fixE_agg (e : Option Nat) (cs : List V) : fixE e (.agg cs : V) = (.agg cs : V) := by cases e <;> rfl
@[simp] theorem z_fixE_slice (e : Option Nat) (sz : Nat) (xs : List V) : fixE e (.slice sz xs : V) = (.slice sz xs : V) := by cases e <;> rfl
@[simp] theorem z_fixE_own (e : Option Nat) (sz : Nat) (xs : List V) : fixE e (.own sz xs : V) = (.own sz xs : V) := by cases e <;> rfl
@[simp] theorem z_fixE_ref (e : Option Nat) (o : Oid) (off : Nat) : fixE e (.ref o off : V) = (.ref o off : V) := by cases e <;> rfl
@[simp] theorem z_fixE_tup (e : Option Nat) (vs : List V) : fixE e (.tup vs : V) = (.tup vs : V) := by cases e <;> rfl
@[simp] theorem z_fixE_none (v : V) : fixE none v = v := rfl
@[simp] theorem z_fixE_sl (e : Option Nat) (sz : Nat) (o : Oid) (n : Nat) : fixE e (.sl sz o n : V) = (.sl sz o n : V) := by cases e <;> rfl
@[simp] theorem z_fixE_mp (e : Option Nat) (o : Oid) : fixE e (.mp o : V) = (.mp o : V) := by cases e <;> rfl
@[simp] theorem z_refs1_any  : refs1 (.any : V) = [] := rfl
@[simp] theorem z_refs1_nils  : refs1 (.nils : V) = [] := rfl
@[simp] theorem z_refs1_int (k : IntKind) (n : Int) : refs1 (.int k n : V) = [] := rfl
@[simp] theorem z_refs1_bool (b : Bool) : refs1 (.bool b : V) = [] := rfl
@[simp] theorem z_refs1_str (s : List UInt8) : refs1 (.str s : V) = [] := rfl
@[simp] theorem z_refs1_nilp  : refs1 (.nilp : V) = [] := rfl
@[simp] theorem z_refs1_nilfn  : refs1 (.nilfn : V) = [] := rfl
@[simp] theorem z_refs1_fn (f : FuncId) : refs1 (.fn f : V) = [] := rfl
@[simp] theorem z_refs1_agg (cs : List V) : refs1 (.agg cs : V) = [] := rfl
@[simp] theorem z_refs1_slice (sz : Nat) (xs : List V) : refs1 (.slice sz xs : V) = [] := rfl
@[simp] theorem z_refs1_own (sz : Nat) (xs : List V) : refs1 (.own sz xs : V) = [] := rfl
@[simp] theorem z_refs1_ref (o : Oid) (off : Nat) : refs1 (.ref o off : V) = [o] := rfl
@[simp] theorem z_refs1_eptr (cs : List V) (off : Nat) : refs1 (.eptr cs off : V) = [] := rfl
@[simp] theorem z_refs1_clo (f : FuncId) (a b : List V) : refs1 (.clo f a b : V) = [] := rfl
@[simp] theorem z_refs1_tup (vs : List V) : refs1 (.tup vs : V) = [] := rfl
@[simp] theorem z_refs1_sl (sz : Nat) (o : Oid) (n : Nat) : refs1 (.sl sz o n : V) = [o] := rfl
@[simp] theorem z_refs1_mp (o : Oid) : refs1 (.mp o : V) = [o] := rfl
@[simp] theorem z_refsV_any  : refsV (.any : V) = [] := rfl
@[simp] theorem z_refsV_nils  : refsV (.nils : V) = [] := rfl
@[simp] theorem z_refsV_int (k : IntKind) (n : Int) : refsV (.int k n : V) = [] := rfl
@[simp] theorem z_refsV_bool (b : Bool) : refsV (.bool b : V) = [] := rfl
@[simp] theorem z_refsV_str (s : List UInt8) : refsV (.str s : V) = [] := rfl
@[simp] theorem z_refsV_nilp  : refsV (.nilp : V) = [] := rfl
@[simp] theorem z_refsV_nilfn  : refsV (.nilfn : V) = [] := rfl
@[simp] theorem z_refsV_fn (f : FuncId) : refsV (.fn f : V) = [] := rfl
@[simp] theorem z_refsV_agg (cs : List V) : refsV (.agg cs : V) = cs.flatMap refs1 := rfl
@[simp] theorem z_refsV_slice (sz : Nat) (xs : List V) : refsV (.slice sz xs : V) = [] := rfl
@[simp] theorem z_refsV_own (sz : Nat) (xs : List V) : refsV (.own sz xs : V) = [] := rfl
@[simp] theorem z_refsV_ref (o : Oid) (off : Nat) : refsV (.ref o off : V) = [o] := rfl
@[simp] theorem z_refsV_eptr (cs : List V) (off : Nat) : refsV (.eptr cs off : V) = [] := rfl
@[simp] theorem z_refsV_clo (f : FuncId) (a b : List V) : refsV (.clo f a b : V) = a.flatMap refs1 ++ b.flatMap refs1 := rfl
@[simp] theorem z_refsV_tup (vs : List V) : refsV (.tup vs : V) = [] := rfl
@[simp] theorem z_refsV_sl (sz : Nat) (o : Oid) (n : Nat) : refsV (.sl sz o n : V) = [o] := rfl
@[simp] theorem z_refsV_mp (o : Oid) : refsV (.mp o : V) = [o] := rfl
@[simp] theorem z_ren1_any (g : Oid → Option Oid)  : ren1 g (.any : V) = (.any : V) := rfl
@[simp] theorem z_ren1_nils (g : Oid → Option Oid)  : ren1 g (.nils : V) = (.nils : V) := rfl
@[simp] theorem z_ren1_int (g : Oid → Option Oid) (k : IntKind) (n : Int) : ren1 g (.int k n : V) = (.int k n : V) := rfl
@[simp] theorem z_ren1_bool (g : Oid → Option Oid) (b : Bool) : ren1 g (.bool b : V) = (.bool b : V) := rfl
@[simp] theorem z_ren1_str (g : Oid → Option Oid) (s : List UInt8) : ren1 g (.str s : V) = (.str s : V) := rfl
@[simp] theorem z_ren1_nilp (g : Oid → Option Oid)  : ren1 g (.nilp : V) = (.nilp : V) := rfl
@[simp] theorem z_ren1_nilfn (g : Oid → Option Oid)  : ren1 g (.nilfn : V) = (.nilfn : V) := rfl
@[simp] theorem z_ren1_fn (g : Oid → Option Oid) (f : FuncId) : ren1 g (.fn f : V) = (.fn f : V) := rfl
@[simp] theorem z_ren1_agg (g : Oid → Option Oid) (cs : List V) : ren1 g (.agg cs : V) = (.agg cs : V) := rfl
@[simp] theorem z_ren1_slice (g : Oid → Option Oid) (sz : Nat) (xs : List V) : ren1 g (.slice sz xs : V) = (.slice sz xs : V) := rfl
@[simp] theorem z_ren1_own (g : Oid → Option Oid) (sz : Nat) (xs : List V) : ren1 g (.own sz xs : V) = (.own sz xs : V) := rfl
@[simp] theorem z_ren1_ref (g : Oid → Option Oid) (o : Oid) (off : Nat) : ren1 g (.ref o off : V) = (match g o with | some u => .ref u off | none => .any) := rfl
@[simp] theorem z_ren1_eptr (g : Oid → Option Oid) (cs : List V) (off : Nat) : ren1 g (.eptr cs off : V) = (.eptr cs off : V) := rfl
@[simp] theorem z_ren1_clo (g : Oid → Option Oid) (f : FuncId) (a b : List V) : ren1 g (.clo f a b : V) = (.clo f a b : V) := rfl
@[simp] theorem z_ren1_tup (g : Oid → Option Oid) (vs : List V) : ren1 g (.tup vs : V) = (.tup vs : V) := rfl
@[simp] theorem z_ren1_sl (g : Oid → Option Oid) (sz : Nat) (o : Oid) (n : Nat) : ren1 g (.sl sz o n : V) = (match g o with | some u => .sl sz u n | none => .any) := rfl
@[simp] theorem z_ren1_mp (g : Oid → Option Oid) (o : Oid) : ren1 g (.mp o : V) = (match g o with | some u => .mp u | none => .any) := rfl
@[simp] theorem z_ren2_any (g : Oid → Option Oid)  : ren2 g (.any : V) = (.any : V) := rfl
@[simp] theorem z_ren2_nils (g : Oid → Option Oid)  : ren2 g (.nils : V) = (.nils : V) := rfl
@[simp] theorem z_ren2_int (g : Oid → Option Oid) (k : IntKind) (n : Int) : ren2 g (.int k n : V) = (.int k n : V) := rfl
@[simp] theorem z_ren2_bool (g : Oid → Option Oid) (b : Bool) : ren2 g (.bool b : V) = (.bool b : V) := rfl
@[simp] theorem z_ren2_str (g : Oid → Option Oid) (s : List UInt8) : ren2 g (.str s : V) = (.str s : V) := rfl
@[simp] theorem z_ren2_nilp (g : Oid → Option Oid)  : ren2 g (.nilp : V) = (.nilp : V) := rfl
@[simp] theorem z_ren2_nilfn (g : Oid → Option Oid)  : ren2 g (.nilfn : V) = (.nilfn : V) := rfl
@[simp] theorem z_ren2_fn (g : Oid → Option Oid) (f : FuncId) : ren2 g (.fn f : V) = (.fn f : V) := rfl
@[simp] theorem z_ren2_agg (g : Oid → Option Oid) (cs : List V) : ren2 g (.agg cs : V) = .agg (cs.map (ren1 g)) := rfl
@[simp] theorem z_ren2_slice (g : Oid → Option Oid) (sz : Nat) (xs : List V) : ren2 g (.slice sz xs : V) = (.slice sz xs : V) := rfl
@[simp] theorem z_ren2_own (g : Oid → Option Oid) (sz : Nat) (xs : List V) : ren2 g (.own sz xs : V) = (.own sz xs : V) := rfl
@[simp] theorem z_ren2_ref (g : Oid → Option Oid) (o : Oid) (off : Nat) : ren2 g (.ref o off : V) = (match g o with | some u => .ref u off | none => .any) := rfl
@[simp] theorem z_ren2_eptr (g : Oid → Option Oid) (cs : List V) (off : Nat) : ren2 g (.eptr cs off : V) = (.eptr cs off : V) := rfl
@[simp] theorem z_ren2_clo (g : Oid → Option Oid) (f : FuncId) (a b : List V) : ren2 g (.clo f a b : V) = .clo f (a.map (ren1 g)) (b.map (ren1 g)) := rfl
@[simp] theorem z_ren2_tup (g : Oid → Option Oid) (vs : List V) : ren2 g (.tup vs : V) = (.tup vs : V) := rfl
@[simp] theorem z_ren2_sl (g : Oid → Option Oid) (sz : Nat) (o : Oid) (n : Nat) : ren2 g (.sl sz o n : V) = (match g o with | some u => .sl sz u n | none => .any) := rfl
@[simp] theorem z_ren2_mp (g : Oid → Option Oid) (o : Oid) : ren2 g (.mp o : V) = (match g o with | some u => .mp u | none => .any) := rfl
@[simp] theorem z_renV_any (g : Oid → Option Oid)  : renV g (.any : V) = (.any : V) := rfl
@[simp] theorem z_renV_nils (g : Oid → Option Oid)  : renV g (.nils : V) = (.nils : V) := rfl
@[simp] theorem z_renV_int (g : Oid → Option Oid) (k : IntKind) (n : Int) : renV g (.int k n : V) = (.int k n : V) := rfl
@[simp] theorem z_renV_bool (g : Oid → Option Oid) (b : Bool) : renV g (.bool b : V) = (.bool b : V) := rfl
@[simp] theorem z_renV_str (g : Oid → Option Oid) (s : List UInt8) : renV g (.str s : V) = (.str s : V) := rfl
@[simp] theorem z_renV_nilp (g : Oid → Option Oid)  : renV g (.nilp : V) = (.nilp : V) := rfl
@[simp] theorem z_renV_nilfn (g : Oid → Option Oid)  : renV g (.nilfn : V) = (.nilfn : V) := rfl
@[simp] theorem z_renV_fn (g : Oid → Option Oid) (f : FuncId) : renV g (.fn f : V) = (.fn f : V) := rfl
@[simp] theorem z_renV_agg (g : Oid → Option Oid) (cs : List V) : renV g (.agg cs : V) = .agg (cs.map (ren1 g)) := rfl
@[simp] theorem z_renV_slice (g : Oid → Option Oid) (sz : Nat) (xs : List V) : renV g (.slice sz xs : V) = (.slice sz xs : V) := rfl
@[simp] theorem z_renV_own (g : Oid → Option Oid) (sz : Nat) (xs : List V) : renV g (.own sz xs : V) = (.own sz xs : V) := rfl
@[simp] theorem z_renV_ref (g : Oid → Option Oid) (o : Oid) (off : Nat) : renV g (.ref o off : V) = (match g o with | some u => .ref u off | none => .any) := rfl
@[simp] theorem z_renV_eptr (g : Oid → Option Oid) (cs : List V) (off : Nat) : renV g (.eptr cs off : V) = (.eptr cs off : V) := rfl
@[simp] theorem z_renV_clo (g : Oid → Option Oid) (f : FuncId) (a b : List V) : renV g (.clo f a b : V) = .clo f (a.map (ren1 g)) (b.map (ren1 g)) := rfl
@[simp] theorem z_renV_tup (g : Oid → Option Oid) (vs : List V) : renV g (.tup vs : V) = .tup (vs.map (ren2 g)) := rfl
@[simp] theorem z_renV_sl (g : Oid → Option Oid) (sz : Nat) (o : Oid) (n : Nat) : renV g (.sl sz o n : V) = (match g o with | some u => .sl sz u n | none => .any) := rfl
@[simp] theorem z_renV_mp (g : Oid → Option Oid) (o : Oid) : renV g (.mp o : V) = (match g o with | some u => .mp u | none => .any) := rfl
@[simp] theorem giveA_v (x v : V) : giveA (.v x) v = [] := rfl
@[simp] theorem giveA_t (t : Nat) (v : V) : giveA (.t t) v = if v.isOwn then [.t t v.weak] else [] := rfl
@[simp] theorem run_srcsB {α : Type} (st : St) (l : List Src) (f : List V → Rd α) : ((srcs l).bind f).run st = (f (l.map (Src.val st))).run st := by rw [run_bind, run_srcs]; rfl
@[simp] theorem run_srcO0 {α : Type} (st : St) (f : Option V → Rd α) : ((srcO none).bind f).run st = (f none).run st := rfl
@[simp] theorem run_srcO1 {α : Type} (st : St) (x : Src) (f : Option V → Rd α) : ((srcO (some x)).bind f).run st = (f (some (x.val st))).run st := by
 cases x <;> rfl
@[simp] theorem rOpt_some {α β : Type} (a : α) (f : α → Rd β) : (rOpt (some a)).bind f = f a := rfl
section
variable (d : Option Nat) (st : St)
def wsO : Option V → Option Res := Option.map fun v => .ws (out d v)
@[simp] theorem wsO_some (v : V) : wsO d (some v) = some (.ws (out d v)) := rfl
theorem run_ws (k : AK) (h : k.notCall = true) : (evA d k).run st = ((evS d k).run st).map fun | .ws l => .ws l := by
 rw [evA_not h, bind_rd, run_bind]
 cases (evS d k).run st with
 | none => rfl
 | some x => cases x; rfl
@[simp] theorem run_mv (e : Option Nat) (x : Src) : (evA d (.mv e x)).run st = some (.ws (out d (fixE e (x.val st)).weak)) := by cases x <;> rfl
@[simp] theorem run_mvS (e : Option Nat) (x : Src) : (evA d (.mvS e x)).run st = some (.ws (giveA x (fixE e (x.val st)) ++ out d (fixE e (x.val st)))) := by cases x <;> rfl
def pickR : V → V → V → Option Res
 | .bool c, a, b => some (.ws (out d (mrg c a.weak b.weak)))
 | _, _, _ => none
@[simp] theorem run_pick (c a b : Src) : (evA d (.pick c a b)).run st = pickR d (c.val st) (a.val st) (b.val st) := by
 rw [run_ws _ _ _ rfl]
 simp only [evS, bind_rd, run_rd]
 cases c.val st <;> first | rfl | (simp only [run_rd]; rfl)
@[simp] theorem pickR_bool (c : Bool) (a b : V) : pickR d (.bool c) a b = some (.ws (out d (mrg c a.weak b.weak))) := rfl
theorem run_fresh1 {α : Type} (o : Oid) (r : List Oid) (f : Unit → Rd α) : ((fresh (o :: r)).bind f).run st = match st.ob o with | none => ((fresh r).bind f).run st | some _ => none := by
 simp only [fresh, Rd.bind, Rd.run]
 cases st.ob o <;> rfl
/-- Are names free? -/
def freshB (st : St) : List Oid → Bool
 | [] => true
 | o :: r => match st.ob o with | none => freshB st r | some _ => false
@[simp] theorem freshB_nil : freshB st [] = true := rfl
@[simp] theorem freshB_cons (o : Oid) (r : List Oid) : freshB st (o :: r) = match st.ob o with | none => freshB st r | some _ => false := rfl
@[simp] theorem run_fresh {α : Type} (l : List Oid) (f : Unit → Rd α) : ((fresh l).bind f).run st = if freshB st l = true then (f ()).run st else none := by
 induction l with
 | nil => rfl
 | cons o r ih =>
  rw [run_fresh1, freshB_cons]
  cases st.ob o with
  | none => exact ih
  | some x => rfl
@[simp] theorem run_alloc (t : Nat) (z : List V) : (evA (some t) (.alloc z)).run st = if freshB st (newNs t z) = true then some (.ws (newObW t z)) else none := by
 rw [run_ws _ _ _ rfl]; simp only [evS, bind_rd, run_fresh]; split <;> rfl
@[simp] theorem run_box (t n : Nat) (z : List V) (x : Src) : (evA (some t) (.box n z x)).run st =
  if freshB st (newNs t (boxZ z (x.val st).weak.scells)) = true then (if (x.val st).weak.scells.length = n ∧ (x.val st).storable = true then some (.ws (newObW t (boxZ z (x.val st).weak.scells))) else none) else none := by
 rw [run_ws _ _ _ rfl]; simp only [evS, bind_rd, run_rd, run_fresh]
 split
 ·split <;> rfl
 ·rfl
@[simp] theorem run_build (flds : List (Nat × Nat)) (zero : List V) (is : List Nat) (xs : List Src) : (evA d (.build flds zero is xs)).run st = wsO d ((buildS flds zero (is.zip (xs.map (Src.val st)))).map fun cs => .agg (cs.map V.weak1)) := by
 rw [run_ws _ _ _ rfl]; simp only [evS, bind_rd, run_srcsB]
 cases buildS flds zero (is.zip (xs.map (Src.val st))) <;> rfl
@[simp] theorem run_buildSl (sz : Nat) (xs : List Src) : (evA d (.buildSl sz xs)).run st = if (xs.map (Src.val st)).all (fun v => v.cells.length == sz && v.pure) = true then some (.ws (out d (.own sz ((xs.map (Src.val st)).map V.weak)))) else none := by
 rw [run_ws _ _ _ rfl]; simp only [evS, bind_rd, run_srcsB]
 split <;> rfl
@[simp] theorem run_buildMu (t sz : Nat) (ez : List V) (xs : List Src) : (evA (some t) (.buildMu sz ez xs)).run st =
  if freshB st [.loc t] = true then (if ((xs.map (Src.val st)).map (fixZ ez)).all (fun v => v.cells.length == sz && v.pure) = true ∧ (xs.length = 1 ∨ noOwn ((xs.map (Src.val st)).map (fixZ ez)) = true) then
   some (.ws (giveA (xs.headD (.v .any)) (((xs.map (Src.val st)).map (fixZ ez)).headD .any) ++ [.o (.loc t) (.cells true (((xs.map (Src.val st)).map (fixZ ez)).flatMap V.scells)), .t t (.sl sz (.loc t) xs.length)])) else none) else none := by
 rw [run_ws _ _ _ rfl]; simp only [evS, bind_rd, run_srcsB, run_fresh]
 split
 ·split <;> rfl
 ·rfl
def loadR (agg : Option Nat) (s : Bool) (st : St) : V → Option Res
 | .eptr cs off => wsO d ((getA agg cs off).map V.weak)
 | .ref u off => match st.ob u with
  | some (.cells row cs) => match getA agg cs off with
   | some v => if s && v.isOwn then some (.ws (.o u (.cells row (cs.set off v.weak)) :: out d v)) else some (.ws (out d v.weak))
   | none => none
  | _ => none
 | _ => none
@[simp] theorem run_load (agg : Option Nat) (s : Bool) (a : Src) : (evA d (.load agg s a)).run st = loadR d agg s st (a.val st) := by
 rw [run_ws _ _ _ rfl]; simp only [evS, bind_rd, run_rd]
 cases a.val st <;> try rfl
 ·rename_i u off
  simp only [Rd.run, loadR]
  cases st.ob u with
  | none => rfl
  | some x => cases x with
   | cells row cs =>
    simp only
    cases getA agg cs off with
    | none => rfl
    | some v => simp only [rOpt, Rd.bind]; split <;> rfl
   | _ => rfl
 ·rename_i cs off
  simp only [loadR]
  cases getA agg cs off <;> rfl
@[simp] theorem loadR_eptr (agg : Option Nat) (s : Bool) (cs : List V) (off : Nat) : loadR d agg s st (.eptr cs off) = wsO d ((getA agg cs off).map V.weak) := rfl
@[simp] theorem loadR_ref (agg : Option Nat) (s : Bool) (u : Oid) (off : Nat) : loadR d agg s st (.ref u off) = match st.ob u with
  | some (.cells row cs) => match getA agg cs off with
   | some v => if s && v.isOwn then some (.ws (.o u (.cells row (cs.set off v.weak)) :: out d v)) else some (.ws (out d v.weak))
   | none => none
  | _ => none := rfl
def storeN (n : Nat) (e : Option Nat) (x : Src) (u : Oid) (off : Nat) (row : Bool) (cs : List V) (v : V) : Option Res :=
 if (fixE e v).scells.length = n ∧ off + (fixE e v).scells.length ≤ cs.length ∧ d.isNone = true ∧ (fixE e v).storable = true ∧ (row = false ∨ rowOk (fixE e v).scells = true) then
  some (.ws (giveA x (fixE e v) ++ [.o u (.cells row (setAll cs off (fixE e v).scells))]))
 else none
def storeQ (n : Nat) (u : Oid) (off : Nat) (row : Bool) (cs : List V) (st : St) (sz : Nat) (q : Oid) : Option Res :=
 if freshB st [.alt q] = true then match st.ob q with
  | some _ => if n = 1 ∧ d.isNone = true ∧ u ≠ q then some (.ws [.o q .dead, .o (.alt q) (.cells true []), .o u (.cells row (cs.set off (.sl sz (.alt q) 0)))]) else none
  | none => none
 else none
def storeR (n : Nat) (e : Option Nat) (x : Src) (st : St) : V → V → Option Res
 | .ref u off, v => match st.ob u with
   | some (.cells row cs) => match nilSl row cs off v with
    | some (sz, q) => storeQ d n u off row cs st sz q
    | none => storeN d n e x u off row cs v
   | _ => none
 | _, _ => none
@[simp] theorem run_store (n : Nat) (e : Option Nat) (a x : Src) : (evA d (.store n e a x)).run st = storeR d n e x st (a.val st) (x.val st) := by
 rw [run_ws _ _ _ rfl]; simp only [evS, bind_rd, run_rd]
 cases a.val st <;> try rfl
 rename_i u off
 simp only [Rd.run, storeR]
 cases st.ob u with
 | none => rfl
 | some y => cases y with
  | cells row cs =>
   simp only
   cases nilSl row cs off (x.val st) with
   | none => simp only [storeN]; split <;> rfl
   | some p =>
    obtain ⟨sz, q⟩ := p
    simp only [storeQ, run_fresh]
    split
    ·simp only [Rd.run]
     cases st.ob q with
     | none => rfl
     | some _ => simp only; split <;> rfl
    ·rfl
  | _ => rfl
@[simp] theorem storeR_ref (n : Nat) (e : Option Nat) (x : Src) (u : Oid) (off : Nat) (v : V) : storeR d n e x st (.ref u off) v = match st.ob u with
   | some (.cells row cs) => match nilSl row cs off v with
    | some (sz, q) => storeQ d n u off row cs st sz q
    | none => storeN d n e x u off row cs v
   | _ => none := rfl
def nilcR : V → Option V
 | .ref u off => some (.ref u off)
 | .eptr cs off => some (.eptr cs off)
 | _ => none
@[simp] theorem run_nilc (x : Src) : (evA d (.nilc x)).run st = wsO d (nilcR (x.val st)) := by
 rw [run_ws _ _ _ rfl]; simp only [evS, bind_rd, run_rd]
 cases x.val st <;> rfl
@[simp] theorem nilcR_ref (u : Oid) (off : Nat) : nilcR (.ref u off) = some (.ref u off) := rfl
@[simp] theorem nilcR_eptr (cs : List V) (off : Nat) : nilcR (.eptr cs off) = some (.eptr cs off) := rfl
@[simp] theorem run_bin (isB : List Nat) (op : BinOp) (x y : Src) : (evA d (.bin isB op x y)).run st = wsO d (binS isB op (x.val st) (y.val st)) := by
 rw [run_ws _ _ _ rfl]; simp only [evS, bind_rd, run_rd]
 cases binS isB op (x.val st) (y.val st) <;> rfl
@[simp] theorem run_un (op : UnOp) (x : Src) : (evA d (.un op x)).run st = wsO d (unS op (x.val st)) := by
 rw [run_ws _ _ _ rfl]; simp only [evS, bind_rd, run_rd]
 cases unS op (x.val st) <;> rfl
def slcR (isStr : Bool) (esz : Option Nat) (s : Bool) (x : Src) (l h : Option V) : V → Option Res
 | .sl sz u n => match bndS 0 l, bndS n h with
  | some l, some h => if l = 0 ∧ 0 ≤ h ∧ h ≤ n ∧ esz = some sz then some (.ws (out d (.sl sz u h.toNat))) else none
  | _, _ => none
 | a => match sliceA isStr esz a l h with
  | none => none
  | some v => match s, a with
   | true, .own sz xs => match bndS 0 l, bndS xs.length h with
    | some l, some h => if h = xs.length then some (.ws (giveA x (.own sz xs) ++ out d (.own sz (xs.drop l.toNat)))) else none
    | _, _ => none
   | _, _ => some (.ws (out d v))
theorem slc_eq (isStr : Bool) (esz : Option Nat) (s : Bool) (x : Src) (l h : Option V) (a : V) : ((match a with
  | .sl sz u n => match bndS 0 l, bndS n h with
   | some l, some h => if l = 0 ∧ 0 ≤ h ∧ h ≤ n ∧ esz = some sz then pure (.ws (out d (.sl sz u h.toNat))) else .fail
   | _, _ => .fail
  | a => do
   let v ← rOpt (sliceA isStr esz a l h)
   match s, a with
   | true, .own sz xs => match bndS 0 l, bndS xs.length h with
    | some l, some h => if h = xs.length then pure (.ws (giveA x (.own sz xs) ++ out d (.own sz (xs.drop l.toNat)))) else .fail
    | _, _ => .fail
   | _, _ => pure (.ws (out d v)) : Rd Ws).run st).map (fun | .ws l => Res.ws l) = slcR d isStr esz s x l h a := by
 cases a with
 | sl sz u n =>
  simp only [slcR]
  cases bndS 0 l <;> cases bndS n h <;> try rfl
  simp only
  split <;> rfl
 | own sz xs =>
  simp only [slcR]
  cases sliceA isStr esz (.own sz xs) l h with
  | none => rfl
  | some v =>
   simp only [rOpt, bind_rd, Rd.bind]
   cases s with
   | false => rfl
   | true =>
    simp only
    cases bndS 0 l <;> cases bndS xs.length h <;> try rfl
    simp only
    split <;> rfl
 | _ =>
  simp only [slcR]
  generalize sliceA isStr esz _ l h = q
  cases q <;> cases s <;> rfl
@[simp] theorem run_slc (isStr : Bool) (sz : Option Nat) (s : Bool) (x : Src) (lo hi : Option Src) : (evA d (.slc isStr sz s x lo hi)).run st = slcR d isStr sz s x (lo.map (Src.val st)) (hi.map (Src.val st)) (x.val st) := by
 rw [run_ws _ _ _ rfl, ← slc_eq d st]
 cases lo <;> cases hi <;> simp only [evS, bind_rd, run_rd, run_srcO0, run_srcO1, Option.map] <;> rfl
@[simp] theorem slcR_sl (isStr : Bool) (esz : Option Nat) (s : Bool) (x : Src) (l h : Option V) (sz : Nat) (u : Oid) (n : Nat) : slcR d isStr esz s x l h (.sl sz u n) = match bndS 0 l, bndS n h with
  | some l, some h => if l = 0 ∧ 0 ≤ h ∧ h ≤ n ∧ esz = some sz then some (.ws (out d (.sl sz u h.toNat))) else none
  | _, _ => none := rfl
@[simp] theorem slcR_slice (isStr : Bool) (esz : Option Nat) (s : Bool) (x : Src) (l h : Option V) (sz : Nat) (xs : List V) : slcR d isStr esz s x l h (.slice sz xs) = wsO d (sliceA isStr esz (.slice sz xs) l h) := by
 simp only [slcR]; cases sliceA isStr esz (.slice sz xs) l h <;> cases s <;> rfl
@[simp] theorem slcR_own1 (isStr : Bool) (esz : Option Nat) (x : Src) (l h : Option V) (sz : Nat) (xs : List V) : slcR d isStr esz true x l h (.own sz xs) = match sliceA isStr esz (.own sz xs) l h with
  | none => none
  | some _ => match bndS 0 l, bndS xs.length h with
    | some l, some h => if h = xs.length then some (.ws (giveA x (.own sz xs) ++ out d (.own sz (xs.drop l.toNat)))) else none
    | _, _ => none := rfl
def faR (off : Nat) : V → Option V
 | .ref u o' => some (.ref u (o' + off))
 | .eptr cs o' => some (.eptr cs (o' + off))
 | _ => none
@[simp] theorem run_fa (off : Nat) (x : Src) : (evA d (.fa off x)).run st = wsO d (faR off (x.val st)) := by
 rw [run_ws _ _ _ rfl]; simp only [evS, bind_rd, run_rd]
 cases x.val st <;> rfl
@[simp] theorem faR_ref (off : Nat) (u : Oid) (o' : Nat) : faR off (.ref u o') = some (.ref u (o' + off)) := rfl
@[simp] theorem faR_eptr (off : Nat) (cs : List V) (o' : Nat) : faR off (.eptr cs o') = some (.eptr cs (o' + off)) := rfl
def iaR (esz : Option Nat) (arr : Option (Nat × Nat)) : V → V → Option V
 | .sl sz u n, .int _ i => if 0 ≤ i ∧ i < n ∧ esz = some sz then some (.ref u (i.toNat * sz)) else none
 | .ref u off, .int _ i => match arr with
  | some (len, sz) => if 0 ≤ i ∧ i < len then some (.ref u (off + i.toNat * sz)) else none
  | none => none
 | .eptr cs off, .int _ i => match arr with
  | some (len, sz) => if 0 ≤ i ∧ i < len then some (.eptr cs (off + i.toNat * sz)) else none
  | none => none
 | a, .int _ i => match a.elems with
  | some (s, xs) => if esz = some s then (idx xs i).map fun x => .eptr x.cells 0 else none
  | none => none
 | _, _ => none
@[simp] theorem run_ia (esz : Option Nat) (arr : Option (Nat × Nat)) (x i : Src) : (evA d (.ia esz arr x i)).run st = wsO d (iaR esz arr (x.val st) (i.val st)) := by
 rw [run_ws _ _ _ rfl]; simp only [evS, bind_rd, run_rd]
 cases i.val st with
 | int k n =>
  cases x.val st <;> simp only [iaR] <;> try rfl
  ·rename_i s xs
   simp only [V.elems]
   cases idx xs n <;> simp only [rOpt, Rd.bind] <;> split <;> rfl
  ·rename_i s xs
   simp only [V.elems]
   cases idx xs n <;> simp only [rOpt, Rd.bind] <;> split <;> rfl
  ·cases arr with
   | none => rfl
   | some p => obtain ⟨l, s⟩ := p; simp only; split <;> rfl
  ·cases arr with
   | none => rfl
   | some p => obtain ⟨l, s⟩ := p; simp only; split <;> rfl
  ·split <;> rfl
 | _ => cases x.val st <;> rfl
@[simp] theorem iaR_slice (esz : Option Nat) (arr : Option (Nat × Nat)) (s : Nat) (xs : List V) (k : IntKind) (i : Int) : iaR esz arr (.slice s xs) (.int k i) = if esz = some s then (idx xs i).map fun x => .eptr x.cells 0 else none := rfl
@[simp] theorem iaR_own (esz : Option Nat) (arr : Option (Nat × Nat)) (s : Nat) (xs : List V) (k : IntKind) (i : Int) : iaR esz arr (.own s xs) (.int k i) = if esz = some s then (idx xs i).map fun x => .eptr x.cells 0 else none := rfl
@[simp] theorem iaR_sl (esz : Option Nat) (arr : Option (Nat × Nat)) (sz : Nat) (u : Oid) (n : Nat) (k : IntKind) (i : Int) : iaR esz arr (.sl sz u n) (.int k i) = if 0 ≤ i ∧ i < n ∧ esz = some sz then some (.ref u (i.toNat * sz)) else none := rfl
@[simp] theorem iaR_ref (esz : Option Nat) (len sz : Nat) (u : Oid) (off : Nat) (k : IntKind) (i : Int) : iaR esz (some (len, sz)) (.ref u off) (.int k i) = if 0 ≤ i ∧ i < len then some (.ref u (off + i.toNat * sz)) else none := rfl
@[simp] theorem iaR_eptr (esz : Option Nat) (len sz : Nat) (cs : List V) (off : Nat) (k : IntKind) (i : Int) : iaR esz (some (len, sz)) (.eptr cs off) (.int k i) = if 0 ≤ i ∧ i < len then some (.eptr cs (off + i.toNat * sz)) else none := rfl
def ixR : V → V → Option V
 | .str s, .int _ i => (idxB s i).map fun b => .int .u8 b.toNat
 | _, _ => none
@[simp] theorem ixR_str (s : List UInt8) (k : IntKind) (i : Int) : ixR (.str s) (.int k i) = (idxB s i).map fun b => .int .u8 b.toNat := rfl
def extR (i : Nat) : V → Option V
 | .tup vs => (vs[i]?).map V.weak
 | _ => none
@[simp] theorem run_ext (x : Src) (i : Nat) : (evA d (.ext x i)).run st = wsO d (extR i (x.val st)) := by
 rw [run_ws _ _ _ rfl]; simp only [evS, bind_rd, run_rd]
 cases x.val st <;> try rfl
 rename_i vs
 simp only [extR]
 cases vs[i]? <;> rfl
@[simp] theorem extR_tup (i : Nat) (vs : List V) : extR i (.tup vs) = (vs[i]?).map V.weak := rfl
def lenR : V → Option V
 | .str s => some (.int .i64 s.length)
 | _ => none
@[simp] theorem run_lenStr (x : Src) : (evA d (.lenStr x)).run st = wsO d (lenR (x.val st)) := by
 rw [run_ws _ _ _ rfl]; simp only [evS, bind_rd, run_rd]
 cases x.val st <;> rfl
@[simp] theorem lenR_str (s : List UInt8) : lenR (.str s) = some (.int .i64 s.length) := rfl
def lenL : V → Option V
 | .str _ => none
 | .sl _ _ n => some (.int .i64 n)
 | v => v.elems.map fun p => .int .i64 p.2.length
@[simp] theorem run_lenSl (x : Src) : (evA d (.lenSl x)).run st = wsO d (lenL (x.val st)) := by
 rw [run_ws _ _ _ rfl]; simp only [evS, bind_rd, run_rd]
 cases x.val st <;> rfl
@[simp] theorem lenL_slice (sz : Nat) (xs : List V) : lenL (.slice sz xs) = some (.int .i64 xs.length) := rfl
@[simp] theorem lenL_own (sz : Nat) (xs : List V) : lenL (.own sz xs) = some (.int .i64 xs.length) := rfl
@[simp] theorem lenL_sl (sz : Nat) (u : Oid) (n : Nat) : lenL (.sl sz u n) = some (.int .i64 n) := rfl
def appQ (sz bytes : Nat) (st : St) (s : Nat) (u : Oid) (n : Nat) (cs : List V) : V → Option Res
 | .sl s' u' m => match st.ob u' with
  | some (.cells true ds) =>
   if s = sz ∧ s' = sz ∧ n * sz ≤ cs.length ∧ m * sz ≤ ds.length ∧ (n + m) * bytes ≤ 140737488355328 ∧ u ≠ u' ∧ (noOwn (ds.take (m * sz)) = true ∨ m * sz = 1) then
    some (.ws ((if noOwn (ds.take (m * sz)) then [] else [.o u' .dead]) ++ [.o u .dead, .o (.alt u) (.cells true (cs.take (n * sz) ++ ds.take (m * sz)))] ++ out d (.sl sz (.alt u) (n + m))))
   else none
  | _ => none
 | y => match y.elems with
  | some (s', ys) => if s = sz ∧ s' = sz ∧ n * sz ≤ cs.length ∧ (n + ys.length) * bytes ≤ 140737488355328 then
    some (.ws ([.o u .dead, .o (.alt u) (.cells true (cs.take (n * sz) ++ ys.flatMap V.cells))] ++ out d (.sl sz (.alt u) (n + ys.length))))
   else none
  | none => none
def appR (sz bytes : Nat) (x : Src) (st : St) : V → V → Option Res
 | .own s xs, y => match y.elems with
  | some (s', ys) => if s = sz ∧ s' = sz ∧ (xs.length + ys.length) * bytes ≤ 140737488355328 then some (.ws (giveA x (.own s xs) ++ out d (.own sz (xs ++ ys)))) else none
  | none => none
 | .sl s u n, y => match st.ob u with
  | some (.cells true cs) => if freshB st [.alt u] = true then appQ d sz bytes st s u n cs y else none
  | _ => none
 | _, _ => none
@[simp] theorem run_app (sz bytes : Nat) (x y : Src) : (evA d (.app sz bytes x y)).run st = appR d sz bytes x st (fixE (some sz) (x.val st)) (fixE (some sz) (y.val st)) := by
 rw [run_ws _ _ _ rfl]; simp only [evS, bind_rd, run_rd]
 cases fixE (some sz) (x.val st) <;> try rfl
 ·simp only [appR]
  cases (fixE (some sz) (y.val st)).elems with
  | none => rfl
  | some p => simp only [rOpt, Rd.bind]; split <;> rfl
 ·rename_i s u n
  simp only [appR, Rd.run]
  cases st.ob u with
  | none => rfl
  | some z => cases z with
   | cells row cs =>
    cases row with
    | false => rfl
    | true =>
     simp only [run_fresh]
     split
     ·cases fixE (some sz) (y.val st) with
      | sl s' u' m =>
       simp only [appQ, Rd.run]
       cases st.ob u' with
       | none => rfl
       | some z' => cases z' with
        | cells row' ds => cases row' with
         | false => rfl
         | true => simp only; split <;> rfl
        | _ => rfl
      | slice s' ys => simp only [appQ, V.elems, rOpt, Rd.bind]; split <;> rfl
      | own s' ys => simp only [appQ, V.elems, rOpt, Rd.bind]; split <;> rfl
      | _ => rfl
     ·rfl
   | _ => rfl
@[simp] theorem appR_own (sz bytes : Nat) (x : Src) (s : Nat) (xs : List V) (y : V) : appR d sz bytes x st (.own s xs) y = match y.elems with
  | some (s', ys) => if s = sz ∧ s' = sz ∧ (xs.length + ys.length) * bytes ≤ 140737488355328 then some (.ws (giveA x (.own s xs) ++ out d (.own sz (xs ++ ys)))) else none
  | none => none := rfl
@[simp] theorem appR_sl (sz bytes : Nat) (x : Src) (s : Nat) (u : Oid) (n : Nat) (y : V) : appR d sz bytes x st (.sl s u n) y = match st.ob u with
  | some (.cells true cs) => if freshB st [.alt u] = true then appQ d sz bytes st s u n cs y else none
  | _ => none := rfl
@[simp] theorem appQ_sl (sz bytes s : Nat) (u : Oid) (n : Nat) (cs : List V) (s' : Nat) (u' : Oid) (m : Nat) : appQ d sz bytes st s u n cs (.sl s' u' m) = match st.ob u' with
  | some (.cells true ds) =>
   if s = sz ∧ s' = sz ∧ n * sz ≤ cs.length ∧ m * sz ≤ ds.length ∧ (n + m) * bytes ≤ 140737488355328 ∧ u ≠ u' ∧ (noOwn (ds.take (m * sz)) = true ∨ m * sz = 1) then
    some (.ws ((if noOwn (ds.take (m * sz)) then [] else [.o u' .dead]) ++ [.o u .dead, .o (.alt u) (.cells true (cs.take (n * sz) ++ ds.take (m * sz)))] ++ out d (.sl sz (.alt u) (n + m))))
   else none
  | _ => none := rfl
@[simp] theorem appQ_slice (sz bytes s : Nat) (u : Oid) (n : Nat) (cs : List V) (s' : Nat) (ys : List V) : appQ d sz bytes st s u n cs (.slice s' ys) = if s = sz ∧ s' = sz ∧ n * sz ≤ cs.length ∧ (n + ys.length) * bytes ≤ 140737488355328 then
    some (.ws ([.o u .dead, .o (.alt u) (.cells true (cs.take (n * sz) ++ ys.flatMap V.cells))] ++ out d (.sl sz (.alt u) (n + ys.length)))) else none := rfl
@[simp] theorem appQ_own (sz bytes s : Nat) (u : Oid) (n : Nat) (cs : List V) (s' : Nat) (ys : List V) : appQ d sz bytes st s u n cs (.own s' ys) = if s = sz ∧ s' = sz ∧ n * sz ≤ cs.length ∧ (n + ys.length) * bytes ≤ 140737488355328 then
    some (.ws ([.o u .dead, .o (.alt u) (.cells true (cs.take (n * sz) ++ ys.flatMap V.cells))] ++ out d (.sl sz (.alt u) (n + ys.length)))) else none := rfl
@[simp] theorem run_call (es : List (Option Nat)) (gv : Option (Nat × Nat)) (nw : Nat) (f : FuncId) (xs : List Src) : (evA d (.call es gv nw f xs)).run st =
  if ((xs.map (Src.val st)).zipWith (fun v e => fixE e v) es).length = xs.length then (callS gv nw f ((xs.map (Src.val st)).zipWith (fun v e => fixE e v) es) d).run st else none := by
 simp only [evA, bind_rd, run_srcsB]
 split <;> rfl
def callR (st : St) (vs : List V) : V → Option Res
 | .fn f => (callS none 0 f vs d).run st
 | .clo f first caps => (callS none 0 f (first ++ vs ++ caps) d).run st
 | _ => none
@[simp] theorem callR_fn (vs : List V) (f : FuncId) : callR d st vs (.fn f) = (callS none 0 f vs d).run st := rfl
@[simp] theorem callR_clo (vs : List V) (f : FuncId) (first caps : List V) : callR d st vs (.clo f first caps) = (callS none 0 f (first ++ vs ++ caps) d).run st := rfl
def convR (ik : Option IntKind) (isB : Bool) (st : St) : V → Option V
 | .int _ n => ik.map fun k => .int k (k.wrap n)
 | .sl _ u n => match st.ob u with
  | some (.cells true cs) => if isB = true ∧ n ≤ cs.length then (bytesOf (cs.take n)).map .str else none
  | _ => none
 | _ => none
@[simp] theorem convR_int (k : IntKind) (isB : Bool) (k' : IntKind) (n : Int) : convR (some k) isB st (.int k' n) = some (.int k (k.wrap n)) := rfl
@[simp] theorem convR_sl (ik : Option IntKind) (isB : Bool) (sz : Nat) (u : Oid) (n : Nat) : convR ik isB st (.sl sz u n) = match st.ob u with
  | some (.cells true cs) => if isB = true ∧ n ≤ cs.length then (bytesOf (cs.take n)).map .str else none
  | _ => none := rfl
def mkSlR (t bytes : Nat) (ez : List V) (st : St) : V → V → Option Res
 | .int _ n, .int _ m => if freshB st [.loc t] = true ∧ n = m ∧ 0 ≤ n ∧ n * bytes ≤ 140737488355328 then
   some (.ws [.o (.loc t) (.cells true (List.replicate n.toNat ez).flatten), .t t (.sl ez.length (.loc t) n.toNat)]) else none
 | _, _ => none
@[simp] theorem run_mkSl (t bytes : Nat) (ez : List V) (l c : Src) : (evA (some t) (.mkSl bytes ez l c)).run st = mkSlR t bytes ez st (l.val st) (c.val st) := by
 rw [run_ws _ _ _ rfl]; simp only [evS, bind_rd, run_rd, run_fresh]
 by_cases hf : freshB st [.loc t] = true
 ·simp only [hf, if_true]
  cases l.val st <;> cases c.val st <;> simp only [mkSlR, hf, true_and] <;> try rfl
  split <;> rfl
 ·simp only [hf, if_false]
  cases l.val st <;> cases c.val st <;> simp only [mkSlR, hf, false_and, if_false] <;> rfl
@[simp] theorem mkSlR_int (t bytes : Nat) (ez : List V) (k k' : IntKind) (n m : Int) : mkSlR t bytes ez st (.int k n) (.int k' m) = if freshB st [.loc t] = true ∧ n = m ∧ 0 ≤ n ∧ n * bytes ≤ 140737488355328 then
   some (.ws [.o (.loc t) (.cells true (List.replicate n.toNat ez).flatten), .t t (.sl ez.length (.loc t) n.toNat)]) else none := rfl
@[simp] theorem run_mkMap (t : Nat) : (evA (some t) .mkMap).run st = if freshB st [.loc t] = true then some (.ws [.o (.loc t) (.map 0 []), .t t (.mp (.loc t))]) else none := by
 rw [run_ws _ _ _ rfl]; simp only [evS, bind_rd, run_fresh]
 split <;> rfl
def mputR (kd : Nat) (st : St) (k v : V) : V → Option Res
 | .mp u => match st.ob u with
  | some (.map b l) => (eqKey kd k k).bind fun _ => (findS kd k l 0).bind fun r => if v.cells.length = 1 ∧ k.pure = true ∧ v.pure = true ∧ d = none then some (.ws [.o u (.map b (putS l k v.weak r))]) else none
  | _ => none
 | _ => none
@[simp] theorem run_mput (kd : Nat) (m k v : Src) : (evA d (.mput kd m k v)).run st = mputR d kd st (k.val st) (v.val st) (m.val st) := by
 rw [run_ws _ _ _ rfl]; simp only [evS, bind_rd, run_rd]
 cases m.val st <;> try rfl
 rename_i u
 simp only [mputR, Rd.run]
 cases st.ob u with
 | none => rfl
 | some z => cases z with
  | map b l =>
   simp only
   cases eqKey kd (k.val st) (k.val st) with
   | none => rfl
   | some _ =>
    simp only [rOpt, Rd.bind, Option.bind_some]
    cases findS kd (k.val st) l 0 with
    | none => rfl
    | some r => simp only [Rd.bind, Option.bind_some]; split <;> rfl
  | _ => rfl
@[simp] theorem mputR_mp (kd : Nat) (k v : V) (u : Oid) : mputR d kd st k v (.mp u) = match st.ob u with
  | some (.map b l) => (eqKey kd k k).bind fun _ => (findS kd k l 0).bind fun r => if v.cells.length = 1 ∧ k.pure = true ∧ v.pure = true ∧ d = none then some (.ws [.o u (.map b (putS l k v.weak r))]) else none
  | _ => none := rfl
def mentR (kd : Nat) (z : V) (st : St) (k : V) : V → Option Res
 | .mp u => match st.ob u with
  | some (.map b l) => (eqKey kd k k).bind fun _ => (findS kd k l 0).bind fun r => some (.ws (.o u (.map b (putS l k (valOf z.weak r) r)) :: out d (.tup [valOf z.weak r, .int .i64 ((b + idxOf l.length r : Nat) : Int)])))
  | _ => none
 | _ => none
@[simp] theorem run_ment (kd : Nat) (z : V) (m k : Src) : (evA d (.ment kd z m k)).run st = mentR d kd z st (k.val st) (m.val st) := by
 rw [run_ws _ _ _ rfl]; simp only [evS, bind_rd, run_rd]
 cases m.val st <;> try rfl
 rename_i u
 simp only [mentR, Rd.run]
 cases st.ob u with
 | none => rfl
 | some y => cases y with
  | map b l =>
   simp only
   cases eqKey kd (k.val st) (k.val st) with
   | none => rfl
   | some _ =>
    simp only [rOpt, Rd.bind, Option.bind_some]
    cases findS kd (k.val st) l 0 <;> rfl
  | _ => rfl
@[simp] theorem mentR_mp (kd : Nat) (z k : V) (u : Oid) : mentR d kd z st k (.mp u) = match st.ob u with
  | some (.map b l) => (eqKey kd k k).bind fun _ => (findS kd k l 0).bind fun r => some (.ws (.o u (.map b (putS l k (valOf z.weak r) r)) :: out d (.tup [valOf z.weak r, .int .i64 ((b + idxOf l.length r : Nat) : Int)])))
  | _ => none := rfl
def mstR (st : St) (v : V) : V → V → Option Res
 | .mp u, .int _ s => match st.ob u with
  | some (.map b l) => (l[(s - b).toNat]?).bind fun e => if v.pure = true ∧ v.cells.length = 1 ∧ d = none ∧ b ≤ s then some (.ws [.o u (.map b (setS l (s - b).toNat e.1 v.weak))]) else none
  | _ => none
 | _, _ => none
@[simp] theorem run_mst (m s v : Src) : (evA d (.mst m s v)).run st = mstR d st (v.val st) (m.val st) (s.val st) := by
 rw [run_ws _ _ _ rfl]; simp only [evS, bind_rd, run_rd]
 cases m.val st <;> cases s.val st <;> try rfl
 rename_i u k s'
 simp only [mstR, Rd.run]
 cases st.ob u with
 | none => rfl
 | some y => cases y with
  | map b l =>
   simp only
   cases l[(s' - b).toNat]? with
   | none => rfl
   | some e => obtain ⟨e1, e2⟩ := e; simp only [Option.bind_some]; split <;> rfl
  | _ => rfl
@[simp] theorem mstR_mp (v : V) (u : Oid) (k : IntKind) (s : Int) : mstR d st v (.mp u) (.int k s) = match st.ob u with
  | some (.map b l) => (l[(s - b).toNat]?).bind fun e => if v.pure = true ∧ v.cells.length = 1 ∧ d = none ∧ b ≤ s then some (.ws [.o u (.map b (setS l (s - b).toNat e.1 v.weak))]) else none
  | _ => none := rfl
def mlookR (kd : Nat) (z : V) (ok : Bool) (st : St) (k : V) : V → Option V
 | .mp u => match st.ob u with
  | some (.map _ l) => (eqKey kd k k).bind fun _ => (findS kd k l 0).map fun r => if ok then .tup [valOf z.weak r, .bool r.isSome] else valOf z.weak r
  | _ => none
 | _ => none
@[simp] theorem run_mlook (kd : Nat) (z : V) (ok : Bool) (m k : Src) : (evA d (.mlook kd z ok m k)).run st = wsO d (mlookR kd z ok st (k.val st) (m.val st)) := by
 rw [run_ws _ _ _ rfl]; simp only [evS, bind_rd, run_rd]
 cases m.val st <;> try rfl
 rename_i u
 simp only [mlookR, Rd.run]
 cases st.ob u with
 | none => rfl
 | some y => cases y with
  | map b l =>
   simp only
   cases eqKey kd (k.val st) (k.val st) with
   | none => rfl
   | some _ =>
    simp only [rOpt, Rd.bind, Option.bind_some]
    cases findS kd (k.val st) l 0 <;> rfl
  | _ => rfl
@[simp] theorem mlookR_mp (kd : Nat) (z : V) (ok : Bool) (k : V) (u : Oid) : mlookR kd z ok st k (.mp u) = match st.ob u with
  | some (.map _ l) => (eqKey kd k k).bind fun _ => (findS kd k l 0).map fun r => if ok then .tup [valOf z.weak r, .bool r.isSome] else valOf z.weak r
  | _ => none := rfl
def clrR (st : St) : V → Option Res
 | .mp u => match st.ob u with
  | some (.map b l) => some (.ws (.o u (.map (b + l.length) []) :: out d (.tup [])))
  | _ => none
 | _ => none
@[simp] theorem run_clr (x : Src) : (evA d (.clr x)).run st = clrR d st (x.val st) := by
 rw [run_ws _ _ _ rfl]; simp only [evS, bind_rd, run_rd]
 cases x.val st <;> try rfl
 rename_i u
 simp only [clrR, Rd.run]
 cases st.ob u with
 | none => rfl
 | some y => cases y <;> rfl
@[simp] theorem clrR_mp (u : Oid) : clrR d st (.mp u) = match st.ob u with
  | some (.map b l) => some (.ws (.o u (.map (b + l.length) []) :: out d (.tup [])))
  | _ => none := rfl
def mmR (f : Int → Int → Int) : V → V → Option V
 | .int k a, .int k' b => if k = k' then some (.int k (f a b)) else none
 | _, _ => none
@[simp] theorem run_mn (x y : Src) : (evA d (.mn x y)).run st = wsO d (mmR min (x.val st) (y.val st)) := by
 rw [run_ws _ _ _ rfl]; simp only [evS, bind_rd, run_rd]
 cases x.val st <;> cases y.val st <;> try rfl
 simp only [mmR]; split <;> rfl
@[simp] theorem run_mx (x y : Src) : (evA d (.mx x y)).run st = wsO d (mmR max (x.val st) (y.val st)) := by
 rw [run_ws _ _ _ rfl]; simp only [evS, bind_rd, run_rd]
 cases x.val st <;> cases y.val st <;> try rfl
 simp only [mmR]; split <;> rfl
@[simp] theorem mmR_int (f : Int → Int → Int) (k : IntKind) (a b : Int) : mmR f (.int k a) (.int k b) = some (.int k (f a b)) := by simp [mmR]
end
section
variable (isB : List Nat) (k : IntKind) (a b : Int) (s t : List UInt8) (x y : Bool)
@[simp] theorem bin_add : binS isB .add (.int k a) (.int k b) = some (.int k (k.wrap (a + b))) := by simp [binS]
@[simp] theorem bin_sub : binS isB .sub (.int k a) (.int k b) = some (.int k (k.wrap (a - b))) := by simp [binS]
@[simp] theorem bin_eql : binS isB .eql (.int k a) (.int k b) = some (.bool (decide (a = b))) := by simp [binS]; rfl
@[simp] theorem bin_neq : binS isB .neq (.int k a) (.int k b) = some (.bool (!decide (a = b))) := by simp [binS]; rfl
@[simp] theorem bin_lss : binS isB .lss (.int k a) (.int k b) = some (.bool (decide (a < b))) := by simp [binS]
@[simp] theorem bin_gtr : binS isB .gtr (.int k a) (.int k b) = some (.bool (decide (b < a))) := by simp [binS]
@[simp] theorem bin_geq : binS isB .geq (.int k a) (.int k b) = some (.bool (decide (b ≤ a))) := by simp [binS]
@[simp] theorem bin_sadd : binS isB .add (.str s) (.str t) = if s.length + t.length ≤ 1000000000000000000 then some (.str (s ++ t)) else none := rfl
@[simp] theorem bin_seql : binS isB .eql (.str s) (.str t) = some (.bool (decide (s = t))) := by
 simp only [binS]; by_cases h : s = t <;> simp [h]
@[simp] theorem bin_sneq : binS isB .neq (.str s) (.str t) = some (.bool (!decide (s = t))) := by
 simp only [binS]; by_cases h : s = t <;> simp [h]
@[simp] theorem bin_agg (xs ys : List V) : binS isB .eql (.agg xs) (.agg ys) = (eqAgg isB xs ys).map .bool := rfl
@[simp] theorem bin_nagg (xs ys : List V) : binS isB .neq (.agg xs) (.agg ys) = (eqAgg isB xs ys).map (fun r => .bool (!r)) := rfl
@[simp] theorem eqAgg_10 (ks : List Nat) (xs ys : List V) : eqAgg (10 :: ks) xs ys = eqCells ks xs ys := rfl
@[simp] theorem bin_ref (o : Oid) (off : Nat) : binS [3] .eql (.ref o off) .nilp = some (.bool false) := rfl
@[simp] theorem bin_nref (o : Oid) (off : Nat) : binS [3] .neq (.ref o off) .nilp = some (.bool true) := rfl
@[simp] theorem bin_nilp : binS [3] .eql .nilp .nilp = some (.bool true) := rfl
@[simp] theorem bin_nnilp : binS [3] .neq .nilp .nilp = some (.bool false) := rfl
@[simp] theorem bin_slnil (sz : Nat) (xs : List V) (h : xs ≠ []) : binS [5] .eql (.slice sz xs) .nils = some (.bool false) := by
 cases xs with
 | nil => exact absurd rfl h
 | cons => rfl
@[simp] theorem bin_nilnil : binS [5] .eql .nils .nils = some (.bool true) := rfl
@[simp] theorem eqCells_nil : eqCells [] [] [] = some true := rfl
@[simp] theorem eq1_bool : eq1 1 (.bool x) (.bool y) = some (x == y) := rfl
@[simp] theorem bin_slss : binS isB .lss (.str s) (.str t) = some (.bool (Op.bytesLess s t)) := rfl
@[simp] theorem bin_beql : binS [1] .eql (.bool x) (.bool y) = some (.bool (x == y)) := rfl
@[simp] theorem bin_bneq : binS [1] .neq (.bool x) (.bool y) = some (.bool (!(x == y))) := rfl
@[simp] theorem un_not : unS .not (.bool x) = some (.bool !x) := rfl
@[simp] theorem un_neg : unS .neg (.int k a) = some (.int k (k.wrap (0 - a))) := rfl
end
@[simp ↓] theorem look_hit (t : Nat) (v : V) (r : List (Nat × V)) : look t ((t, v) :: r) = v := by simp [look]
@[simp ↓] theorem look_miss (t u : Nat) (v : V) (r : List (Nat × V)) (h : (u == t) = false) : look t ((u, v) :: r) = look t r := by simp at h; simp [look, h]
@[simp] theorem look_nil (t : Nat) : look t [] = .any := rfl
@[simp ↓] theorem lookO_hit (t : Oid) (v : Ob) (r : List (Oid × Ob)) : lookO t ((t, v) :: r) = some v := by simp [lookO]
def Oid.eqb : Oid → Oid → Bool
 | .loc a, .loc b => a == b
 | .par a, .par b => a == b
 | .alt a, .alt b => a.eqb b
 | .sub a i, .sub b j => a == b && i == j
 | .hole a, .hole b => a == b
 | _, _ => false
theorem Oid.eqb_ne : ∀ {a b : Oid}, a.eqb b = false → a ≠ b
 | .loc a, .loc b, h => by simp [Oid.eqb] at h; simp [h]
 | .par a, .par b, h => by simp [Oid.eqb] at h; simp [h]
 | .hole a, .hole b, h => by simp [Oid.eqb] at h; simp [h]
 | .sub a i, .sub b j, h => by simp [Oid.eqb] at h; simpa using h
 | .alt a, .alt b, h => by have := Oid.eqb_ne (a := a) (b := b) h; simpa using this
 | .loc _, .par _, _ => by simp
 | .loc _, .alt _, _ => by simp
 | .loc _, .sub _ _, _ => by simp
 | .loc _, .hole _, _ => by simp
 | .par _, .loc _, _ => by simp
 | .par _, .alt _, _ => by simp
 | .par _, .sub _ _, _ => by simp
 | .par _, .hole _, _ => by simp
 | .alt _, .loc _, _ => by simp
 | .alt _, .par _, _ => by simp
 | .alt _, .sub _ _, _ => by simp
 | .alt _, .hole _, _ => by simp
 | .sub _ _, .loc _, _ => by simp
 | .sub _ _, .par _, _ => by simp
 | .sub _ _, .alt _, _ => by simp
 | .sub _ _, .hole _, _ => by simp
 | .hole _, .loc _, _ => by simp
 | .hole _, .par _, _ => by simp
 | .hole _, .alt _, _ => by simp
 | .hole _, .sub _ _, _ => by simp
@[simp] theorem eqb_loc_loc (a : Nat) (c : Nat) : Oid.eqb (.loc a) (.loc c) = (a == c) := by simp [Oid.eqb]
@[simp] theorem eqb_loc_par (a : Nat) (c : Nat) : Oid.eqb (.loc a) (.par c) = (false) := by simp [Oid.eqb]
@[simp] theorem eqb_loc_alt (a : Nat) (c : Oid) : Oid.eqb (.loc a) (.alt c) = (false) := by simp [Oid.eqb]
@[simp] theorem eqb_loc_sub (a : Nat) (c d : Nat) : Oid.eqb (.loc a) (.sub c d) = (false) := by simp [Oid.eqb]
@[simp] theorem eqb_loc_hole (a : Nat) (c : Nat) : Oid.eqb (.loc a) (.hole c) = (false) := by simp [Oid.eqb]
@[simp] theorem eqb_par_loc (a : Nat) (c : Nat) : Oid.eqb (.par a) (.loc c) = (false) := by simp [Oid.eqb]
@[simp] theorem eqb_par_par (a : Nat) (c : Nat) : Oid.eqb (.par a) (.par c) = (a == c) := by simp [Oid.eqb]
@[simp] theorem eqb_par_alt (a : Nat) (c : Oid) : Oid.eqb (.par a) (.alt c) = (false) := by simp [Oid.eqb]
@[simp] theorem eqb_par_sub (a : Nat) (c d : Nat) : Oid.eqb (.par a) (.sub c d) = (false) := by simp [Oid.eqb]
@[simp] theorem eqb_par_hole (a : Nat) (c : Nat) : Oid.eqb (.par a) (.hole c) = (false) := by simp [Oid.eqb]
@[simp] theorem eqb_alt_loc (a : Oid) (c : Nat) : Oid.eqb (.alt a) (.loc c) = (false) := by simp [Oid.eqb]
@[simp] theorem eqb_alt_par (a : Oid) (c : Nat) : Oid.eqb (.alt a) (.par c) = (false) := by simp [Oid.eqb]
@[simp] theorem eqb_alt_alt (a c : Oid) : Oid.eqb (.alt a) (.alt c) = (a.eqb c) := by simp [Oid.eqb]
@[simp] theorem eqb_alt_sub (a : Oid) (c d : Nat) : Oid.eqb (.alt a) (.sub c d) = (false) := by simp [Oid.eqb]
@[simp] theorem eqb_alt_hole (a : Oid) (c : Nat) : Oid.eqb (.alt a) (.hole c) = (false) := by simp [Oid.eqb]
@[simp] theorem eqb_sub_loc (a b : Nat) (c : Nat) : Oid.eqb (.sub a b) (.loc c) = (false) := by simp [Oid.eqb]
@[simp] theorem eqb_sub_par (a b : Nat) (c : Nat) : Oid.eqb (.sub a b) (.par c) = (false) := by simp [Oid.eqb]
@[simp] theorem eqb_sub_alt (a b : Nat) (c : Oid) : Oid.eqb (.sub a b) (.alt c) = (false) := by simp [Oid.eqb]
@[simp] theorem eqb_sub_sub (a b : Nat) (c d : Nat) : Oid.eqb (.sub a b) (.sub c d) = (a == c && b == d) := by simp [Oid.eqb]
@[simp] theorem eqb_sub_hole (a b : Nat) (c : Nat) : Oid.eqb (.sub a b) (.hole c) = (false) := by simp [Oid.eqb]
@[simp] theorem eqb_hole_loc (a : Nat) (c : Nat) : Oid.eqb (.hole a) (.loc c) = (false) := by simp [Oid.eqb]
@[simp] theorem eqb_hole_par (a : Nat) (c : Nat) : Oid.eqb (.hole a) (.par c) = (false) := by simp [Oid.eqb]
@[simp] theorem eqb_hole_alt (a : Nat) (c : Oid) : Oid.eqb (.hole a) (.alt c) = (false) := by simp [Oid.eqb]
@[simp] theorem eqb_hole_sub (a : Nat) (c d : Nat) : Oid.eqb (.hole a) (.sub c d) = (false) := by simp [Oid.eqb]
@[simp] theorem eqb_hole_hole (a : Nat) (c : Nat) : Oid.eqb (.hole a) (.hole c) = (a == c) := by simp [Oid.eqb]
@[simp ↓] theorem lookO_ne (t u : Oid) (v : Ob) (r : List (Oid × Ob)) (h : u.eqb t = false) : lookO t ((u, v) :: r) = lookO t r := by simp [lookO, Oid.eqb_ne h]
@[simp] theorem lookO_nil (t : Oid) : lookO t [] = none := rfl
attribute [simp] storeN storeQ Rd.run Rd.bind St.tm St.ob St.put St.putO St.app out
 sliceA bndS getObs dedup place toPar ofPar callS setAll buildS boxZ fixZ2 V.nz getA Ob.ren Ob.refs initSt initM callO callP argsFrom parObsFrom
 resS resL parsD outn newsOf mvOf weakBut preOf backO slRefs1 Ob.slRefs newObW newNs subsOf subs1 subR goal Oid.root inn innOb bf fixZ valOf idxOf putS nilSl Ob.alive Wr.wh Src.val Src.rds back Rd.reads
/-! #### names that stay, in a table -/
def hasO (o : Oid) : List (Oid × Ob) → Bool
 | [] => false
 | x :: r => x.1.eqb o || hasO o r
theorem Oid.eqb_self : ∀ a : Oid, a.eqb a = true
 | .loc _ => by simp
 | .par _ => by simp
 | .alt a => by simpa using Oid.eqb_self a
 | .sub _ _ => by simp
 | .hole _ => by simp
theorem Oid.eqb_iff (a b : Oid) : a.eqb b = true ↔ a = b := by
 constructor
 ·intro h; by_cases e : a = b
  ·exact e
  ·exfalso
   have : ∀ {a b : Oid}, a.eqb b = true → a = b := by
    intro a
    induction a with
    | alt a ih => intro b h; cases b <;> simp at h; exact congrArg _ (ih h)
    | _ => intro b h; cases b <;> simp at h <;> simp [h]
   exact e (this h)
 ·rintro rfl; exact Oid.eqb_self _
theorem hasO_eq (o : Oid) : ∀ l, hasO o l = (lookO o l).isSome
 | [] => rfl
 | (u, v) :: r => by
  simp only [hasO, lookO]
  by_cases h : u = o
  ·simp [h, Oid.eqb_self]
  ·have : u.eqb o = false := by cases hh : u.eqb o with | false => rfl | true => exact absurd ((Oid.eqb_iff _ _).1 hh) h
   simp [h, this, hasO_eq o r]
@[simp] theorem hasO_nil (o : Oid) : hasO o [] = false := rfl
@[simp] theorem hasO_cons (o u : Oid) (x : Ob) (r : List (Oid × Ob)) : hasO o ((u, x) :: r) = (u.eqb o || hasO o r) := rfl
def curB (obs : List (Oid × Ob)) : Nat → Oid → Oid
 | 0, o => o
 | n + 1, o => bif hasO (.alt o) obs then curB obs n (.alt o) else o
theorem curB_eq (st : St) : ∀ n o, cur st n o = curB st.obs n o
 | 0, o => rfl
 | n + 1, o => by
  simp only [cur, curB, hasO_eq, St.ob]
  cases lookO (.alt o) st.obs with
  | none => rfl
  | some x => exact curB_eq st n _
@[simp] theorem curB_0 (obs : List (Oid × Ob)) (o : Oid) : curB obs 0 o = o := rfl
@[simp] theorem curB_s4 (obs : List (Oid × Ob)) (o : Oid) : curB obs 4 o = bif hasO (.alt o) obs then curB obs 3 (.alt o) else o := rfl
@[simp] theorem curB_s3 (obs : List (Oid × Ob)) (o : Oid) : curB obs 3 o = bif hasO (.alt o) obs then curB obs 2 (.alt o) else o := rfl
@[simp] theorem curB_s2 (obs : List (Oid × Ob)) (o : Oid) : curB obs 2 o = bif hasO (.alt o) obs then curB obs 1 (.alt o) else o := rfl
@[simp] theorem curB_s1 (obs : List (Oid × Ob)) (o : Oid) : curB obs 1 o = bif hasO (.alt o) obs then .alt o else o := rfl
def memO (o : Oid) : List Oid → Bool
 | [] => false
 | x :: r => x.eqb o || memO o r
theorem memO_eq (o : Oid) : ∀ l, memO o l = (place o l).isSome
 | [] => rfl
 | u :: r => by
  simp only [memO, place]
  by_cases h : u = o
  ·simp [h, Oid.eqb_self]
  ·have : u.eqb o = false := by cases hh : u.eqb o with | false => rfl | true => exact absurd ((Oid.eqb_iff _ _).1 hh) h
   simp [h, this, memO_eq o r]
@[simp] theorem memO_nil (o : Oid) : memO o [] = false := rfl
@[simp] theorem memO_cons (o u : Oid) (r : List Oid) : memO o (u :: r) = (u.eqb o || memO o r) := rfl
/-- A live object's name now, and then. -/
def tnow (mvd : List Oid) (obs : List (Oid × Ob)) : Oid → Oid
 | .par j => bif memO (.par j) mvd then curB obs 4 (.par j) else .par j
 | r => curB obs 4 r
def tthen (mvd : List Oid) (o : Oid) : Oid := bif memO o mvd then .alt o else o
@[simp] theorem tnow_par (mvd : List Oid) (obs : List (Oid × Ob)) (j : Nat) : tnow mvd obs (.par j) = bif memO (.par j) mvd then curB obs 4 (.par j) else .par j := rfl
@[simp] theorem tnow_loc (mvd : List Oid) (obs : List (Oid × Ob)) (j : Nat) : tnow mvd obs (.loc j) = curB obs 4 (.loc j) := rfl
@[simp] theorem tnow_sub (mvd : List Oid) (obs : List (Oid × Ob)) (i j : Nat) : tnow mvd obs (.sub i j) = curB obs 4 (.sub i j) := rfl
@[simp] theorem tnow_hole (mvd : List Oid) (obs : List (Oid × Ob)) (j : Nat) : tnow mvd obs (.hole j) = curB obs 4 (.hole j) := rfl
@[simp] theorem tthen_eq (mvd : List Oid) (o : Oid) : tthen mvd o = bif memO o mvd then .alt o else o := rfl
def tblO (mvd : List Oid) (obs : List (Oid × Ob)) : List Oid → List (Oid × Oid)
 | [] => []
 | .alt _ :: l => tblO mvd obs l
 | r :: l => (tnow mvd obs r, tthen mvd r) :: tblO mvd obs l
@[simp] theorem tblO_nil (mvd : List Oid) (obs : List (Oid × Ob)) : tblO mvd obs [] = [] := rfl
@[simp] theorem tblO_loc (mvd : List Oid) (obs : List (Oid × Ob)) (j : Nat) (l : List Oid) : tblO mvd obs (.loc j :: l) = (tnow mvd obs (.loc j), tthen mvd (.loc j)) :: tblO mvd obs l := rfl
@[simp] theorem tblO_par (mvd : List Oid) (obs : List (Oid × Ob)) (j : Nat) (l : List Oid) : tblO mvd obs (.par j :: l) = (tnow mvd obs (.par j), tthen mvd (.par j)) :: tblO mvd obs l := rfl
@[simp] theorem tblO_sub (mvd : List Oid) (obs : List (Oid × Ob)) (i j : Nat) (l : List Oid) : tblO mvd obs (.sub i j :: l) = (tnow mvd obs (.sub i j), tthen mvd (.sub i j)) :: tblO mvd obs l := rfl
@[simp] theorem tblO_hole (mvd : List Oid) (obs : List (Oid × Ob)) (j : Nat) (l : List Oid) : tblO mvd obs (.hole j :: l) = (tnow mvd obs (.hole j), tthen mvd (.hole j)) :: tblO mvd obs l := rfl
@[simp] theorem tblO_alt (mvd : List Oid) (obs : List (Oid × Ob)) (o : Oid) (l : List Oid) : tblO mvd obs (.alt o :: l) = tblO mvd obs l := rfl
def lookT : List (Oid × Oid) → Oid → Option Oid
 | [], _ => none
 | (a, b) :: T, o => bif a.eqb o then some b else lookT T o
@[simp] theorem lookT_nil (o : Oid) : lookT [] o = none := rfl
@[simp] theorem lookT_cons (a b o : Oid) (T : List (Oid × Oid)) : lookT ((a, b) :: T) o = bif a.eqb o then some b else lookT T o := rfl
/-- What stays of the objects. -/
def obsT (T : List (Oid × Oid)) (obs : List (Oid × Ob)) : List (Oid × Oid) → List (Oid × Ob)
 | [] => []
 | (a, b) :: r => match lookO a obs with
  | some x => (b, x.ren (lookT T)) :: obsT T obs r
  | none => obsT T obs r
@[simp] theorem obsT_nil (T : List (Oid × Oid)) (obs : List (Oid × Ob)) : obsT T obs [] = [] := rfl
@[simp] theorem obsT_cons (T r : List (Oid × Oid)) (a b : Oid) (obs : List (Oid × Ob)) : obsT T obs ((a, b) :: r) = match lookO a obs with
  | some x => (b, x.ren (lookT T)) :: obsT T obs r
  | none => obsT T obs r := rfl
def envT (T : List (Oid × Oid)) (env : List (Nat × V)) : List Nat → List (Nat × V)
 | [] => []
 | t :: r => (t, renV (lookT T) (look t env)) :: envT T env r
@[simp] theorem envT_nil (T : List (Oid × Oid)) (env : List (Nat × V)) : envT T env [] = [] := rfl
@[simp] theorem envT_cons (T : List (Oid × Oid)) (env : List (Nat × V)) (t : Nat) (r : List Nat) : envT T env (t :: r) = (t, renV (lookT T) (look t env)) :: envT T env r := rfl
def restT (T : List (Oid × Oid)) (live : List Nat) (st : St) : St := ⟨envT T st.env live, obsT T st.obs T⟩
@[simp] theorem restT_mk (T : List (Oid × Oid)) (live : List Nat) (env : List (Nat × V)) (obs : List (Oid × Ob)) : restT T live ⟨env, obs⟩ = ⟨envT T env live, obsT T obs T⟩ := rfl
theorem curB_root (obs : List (Oid × Ob)) : ∀ n (o : Oid), (curB obs n o).root = o.root
 | 0, o => rfl
 | n + 1, o => by
  simp only [curB]
  cases hasO o.alt obs with
  | false => rfl
  | true => exact (curB_root obs n _).trans rfl
theorem curH_tnow (h : Hint) (st : St) (r : Oid) : curH h st r = tnow h.mvd st.obs r := by
 cases r <;> simp only [curH, tnow, curB_eq, memO_eq]
 cases (place _ h.mvd).isSome <;> rfl
theorem tnow_root (mvd : List Oid) (obs : List (Oid × Ob)) (r : Oid) : (tnow mvd obs r).root = r.root := by
 cases r <;> simp only [tnow, curB_root]
 cases memO _ mvd <;> simp only [cond_true, cond_false, curB_root]
theorem goal_tthen (h : Hint) (r : Oid) : goal h r = tthen h.mvd r := by
 simp only [goal, tthen, memO_eq]
 cases (place r h.mvd).isSome <;> rfl
theorem tblO_cons_root (mvd : List Oid) (obs : List (Oid × Ob)) {r : Oid} (hr : r.root = r) (l : List Oid) : tblO mvd obs (r :: l) = (tnow mvd obs r, tthen mvd r) :: tblO mvd obs l := by
 cases r with
 | alt o =>
  exfalso
  have h1 : o.root = o.alt := hr
  have := root_root o
  rw [h1] at this
  have h2 : (o.alt).root = o.root := rfl
  have hs : ∀ o : Oid, SizeOf.sizeOf o.root ≤ SizeOf.sizeOf o := by
   intro o
   induction o with
   | alt o ih => have e : (Oid.alt o).root = o.root := rfl; rw [e]; simp; omega
   | _ => exact Nat.le_refl _
  have := hs o
  rw [h1] at this
  simp at this
  omega
 | _ => rfl
theorem tblO_cons_not (mvd : List Oid) (obs : List (Oid × Ob)) {r : Oid} (hr : r.root ≠ r) (l : List Oid) : tblO mvd obs (r :: l) = tblO mvd obs l := by
 cases r with
 | alt o => rfl
 | _ => exact absurd rfl hr
theorem lookT_tbl (h : Hint) (st : St) (o : Oid) : ∀ l : List Oid, (if (place o.root l).isSome then (if curH h st o.root = o then some (goal h o.root) else none) else none) = lookT (tblO h.mvd st.obs l) o
 | [] => rfl
 | r :: l => by
  have ih := lookT_tbl h st o l
  by_cases hr : r.root = r
  ·rw [tblO_cons_root _ _ hr, lookT_cons, ← ih]
   by_cases he : tnow h.mvd st.obs r = o
   ·have hro : r = o.root := by rw [← he, tnow_root, hr]
    rw [he, Oid.eqb_self, cond_true, ← hro]
    simp only [place, if_true, Option.isSome_some, curH_tnow, he, goal_tthen]
   ·have he' : (tnow h.mvd st.obs r).eqb o = false := by cases hh : (tnow h.mvd st.obs r).eqb o with | false => rfl | true => exact absurd ((Oid.eqb_iff _ _).1 hh) he
    rw [he', cond_false]
    by_cases hro : r = o.root
    ·rw [← hro, curH_tnow, if_neg he]
     simp
    ·simp only [place, if_neg hro, Option.isSome_map]
  ·rw [tblO_cons_not _ _ hr, ← ih]
   have : r ≠ o.root := fun e => hr (by rw [e]; exact root_root o)
   simp only [place, if_neg this, Option.isSome_map]
theorem keep_T (h : Hint) (st : St) : keep h st = lookT (tblO h.mvd st.obs h.liveO) := by
 funext o
 exact lookT_tbl h st o h.liveO
theorem obsT_eq (h : Hint) (st : St) (T : List (Oid × Oid)) (hT : keep h st = lookT T) : ∀ l : List Oid, l.filterMap (obR h st) = obsT T st.obs (tblO h.mvd st.obs l)
 | [] => rfl
 | r :: l => by
  have ih := obsT_eq h st T hT l
  by_cases hr : r.root = r
  ·rw [tblO_cons_root _ _ hr, obsT_cons, ← ih]
   have e : obR h st r = (lookO (tnow h.mvd st.obs r) st.obs).map fun x => (tthen h.mvd r, x.ren (lookT T)) := by
    simp only [obR, if_pos hr, curH_tnow, goal_tthen, hT, St.ob]
   cases hl : lookO (tnow h.mvd st.obs r) st.obs with
   | none => rw [List.filterMap_cons, e, hl]; rfl
   | some x => rw [List.filterMap_cons, e, hl]; rfl
  ·rw [tblO_cons_not _ _ hr, ← ih, List.filterMap_cons]
   have e : obR h st r = none := by simp only [obR, if_neg hr]
   rw [e]
@[simp] theorem restrict_T (live : List Nat) (liveO mvd : List Oid) (env : List (Nat × V)) (obs : List (Oid × Ob)) : restrict ⟨live, liveO, mvd⟩ ⟨env, obs⟩ = restT (tblO mvd obs liveO) live ⟨env, obs⟩ := by
 have hT := keep_T ⟨live, liveO, mvd⟩ ⟨env, obs⟩
 simp only [restrict, restT, St.mk.injEq]
 constructor
 ·rw [hT]
  simp only [St.tm]
  generalize tblO mvd obs liveO = f
  induction live with
  | nil => rfl
  | cons t r ih => simp only [List.map_cons, envT_cons, List.cons.injEq, true_and]; exact ih (keep_T _ _)
 ·exact obsT_eq ⟨live, liveO, mvd⟩ ⟨env, obs⟩ _ hT liveO
/-- The byte, the element at a place. -/
def byteAt (s : List UInt8) (n : Nat) : UInt8 := s.getD n 0
def nth {α : Type} [Inhabited α] (l : List α) (n : Nat) : α := l.getD n default
@[simp] theorem idx_map {α : Type} [Inhabited α] {l : List α} {f : α → V} {n : Nat} (h : n < l.length) : idx (l.map f) (n : Int) = some (f (nth l n)) := by
 simp [idx, h, nth]
@[simp] theorem brP_same (p A : Prop) : brP p A A = A := by by_cases h : p <;> simp [brP, h]
theorem wrapN {n : Int} {m : Nat} (h : n = m) (hm : m < 9223372036854775808) : IntKind.wrap .i64 n = m := by
 subst h
 simp only [IntKind.wrap, IntKind.bits, IntKind.signed]
 simp
 omega
section
variable (d : Option Nat) (st : St)
theorem reads_bind {α β : Type} (x : Rd α) (f : α → Rd β) : (x.bind f).reads st = x.reads st ++ (match x.run st with | some a => (f a).reads st | none => []) := by
 induction x with
 | ret a => rfl
 | fail => rfl
 | tm t k ih => simp only [Rd.bind, Rd.reads, Rd.run, ih, List.cons_append]
 | ob o k ih => simp only [Rd.bind, Rd.reads, Rd.run, ih, List.cons_append]
theorem reads_ws (k : AK) (h : k.notCall = true) : (evA d k).reads st = (evS d k).reads st := by
 rw [evA_not h, bind_rd, reads_bind]
 cases (evS d k).run st with
 | none => simp
 | some x => cases x; simp [Rd.reads]
theorem reads_rOpt {α β : Type} (x : Option α) (f : α → Rd β) (h : ∀ a, (f a).reads st = []) : ((rOpt x).bind f).reads st = [] := by cases x <;> simp [rOpt, Rd.bind, Rd.reads, h]
theorem reads_srcs : ∀ l : List Src, (srcs l).reads st = l.flatMap Src.rds
 | [] => rfl
 | x :: r => by
  simp only [srcs, bind_rd, pure_rd, reads_bind, reads_srcs r, List.flatMap_cons, run_srcs]
  cases x <;> simp [Rd.reads, Src.rd, Src.rds, Rd.run]
@[simp] theorem reads_mv (e : Option Nat) (x : Src) : (evA d (.mv e x)).reads st = x.rds := by cases x <;> rfl
@[simp] theorem reads_mvS (e : Option Nat) (x : Src) : (evA d (.mvS e x)).reads st = x.rds := by cases x <;> rfl
@[simp] theorem reads_pick (c : Bool) (x a b : Src) (h : x.val st = .bool c) : (evA d (.pick x a b)).reads st = x.rds ++ (a.rds ++ b.rds) := by
 rw [reads_ws _ _ _ rfl]; simp only [evS, bind_rd, reads_rd, h, pure_rd, Rd.reads, List.append_nil]
@[simp] theorem reads_fresh0 : (fresh []).reads st = [] := rfl
@[simp] theorem reads_fresh1 (o : Oid) (r : List Oid) : (fresh (o :: r)).reads st = .o o :: (match st.ob o with | none => (fresh r).reads st | some _ => []) := by
 simp only [fresh, Rd.reads]
 cases st.ob o <;> rfl
theorem fresh_run' (l : List Oid) : (fresh l).run st = if freshB st l = true then some () else none := by
 induction l with
 | nil => rfl
 | cons o r ih =>
  by_cases h : st.ob o = none
  ·simp only [fresh, Rd.run, freshB_cons, h]; exact ih
  ·obtain ⟨x, hx⟩ := Option.ne_none_iff_exists'.1 h
   simp only [fresh, Rd.run, hx, freshB_cons, Bool.false_eq_true, if_false]
@[simp] theorem reads_freshB {α : Type} (l : List Oid) (f : Unit → Rd α) : ((fresh l).bind f).reads st = (fresh l).reads st ++ (if freshB st l = true then (f ()).reads st else []) := by
 rw [reads_bind, fresh_run']
 split
 ·rename_i h; split at h <;> simp_all
 ·rename_i h; split at h <;> simp_all
@[simp] theorem reads_alloc (t : Nat) (z : List V) : (evA (some t) (.alloc z)).reads st = (fresh (newNs t z)).reads st := by
 rw [reads_ws _ _ _ rfl]; simp only [evS, bind_rd, reads_freshB]; split <;> simp [Rd.reads]
@[simp] theorem reads_build (flds : List (Nat × Nat)) (zero : List V) (is : List Nat) (xs : List Src) : (evA d (.build flds zero is xs)).reads st = xs.flatMap Src.rds := by
 rw [reads_ws _ _ _ rfl]; simp only [evS, bind_rd, reads_bind, reads_srcs, run_srcs]
 cases buildS flds zero (is.zip (xs.map (Src.val st))) <;> simp [rOpt, Rd.reads, Rd.run]
@[simp] theorem reads_buildSl (sz : Nat) (xs : List Src) : (evA d (.buildSl sz xs)).reads st = xs.flatMap Src.rds := by
 rw [reads_ws _ _ _ rfl]; simp only [evS, bind_rd, reads_bind, reads_srcs, run_srcs]
 split <;> simp [Rd.reads]
def obOf : V → List Wh
 | .ref u _ => [.o u]
 | .sl _ u _ => [.o u]
 | .mp u => [.o u]
 | _ => []
@[simp] theorem obOf_ref (u : Oid) (off : Nat) : obOf (.ref u off) = [.o u] := rfl
@[simp] theorem obOf_eptr (cs : List V) (off : Nat) : obOf (.eptr cs off) = [] := rfl
@[simp] theorem obOf_sl (sz : Nat) (u : Oid) (n : Nat) : obOf (.sl sz u n) = [.o u] := rfl
@[simp] theorem obOf_mp (u : Oid) : obOf (.mp u) = [.o u] := rfl
@[simp] theorem obOf_int (k : IntKind) (n : Int) : obOf (.int k n) = [] := rfl
def ptO : V → List Wh
 | .ref u _ => [.o u]
 | _ => []
@[simp] theorem ptO_ref (u : Oid) (off : Nat) : ptO (.ref u off) = [.o u] := rfl
@[simp] theorem ptO_eptr (cs : List V) (off : Nat) : ptO (.eptr cs off) = [] := rfl
@[simp] theorem reads_load (agg : Option Nat) (s : Bool) (a : Src) : (evA d (.load agg s a)).reads st = a.rds ++ ptO (a.val st) := by
 rw [reads_ws _ _ _ rfl]; simp only [evS, bind_rd, reads_rd]
 cases a.val st <;> simp only [ptO, Rd.reads]
 ·rename_i u off
  cases st.ob u with
  | none => rfl
  | some x => cases x with
   | cells row cs => rw [reads_rOpt]; intro v; split <;> rfl
   | _ => rfl
 ·rw [reads_rOpt]; intro v; rfl
def storeD (st : St) : V → V → List Wh
 | .ref u off, v => .o u :: (match st.ob u with
  | some (.cells row cs) => match nilSl row cs off v with
   | some (_, q) => (fresh [.alt q]).reads st ++ (if freshB st [.alt q] = true then [.o q] else [])
   | none => []
  | _ => [])
 | _, _ => []
@[simp] theorem storeD_ref (u : Oid) (off : Nat) (v : V) : storeD st (.ref u off) v = .o u :: (match st.ob u with
  | some (.cells row cs) => match nilSl row cs off v with
   | some (_, q) => (fresh [.alt q]).reads st ++ (if freshB st [.alt q] = true then [.o q] else [])
   | none => []
  | _ => []) := rfl
@[simp] theorem reads_store (n : Nat) (e : Option Nat) (a x : Src) : (evA d (.store n e a x)).reads st = a.rds ++ (x.rds ++ storeD st (a.val st) (x.val st)) := by
 rw [reads_ws _ _ _ rfl]; simp only [evS, bind_rd, reads_rd]
 cases a.val st <;> simp only [storeD, Rd.reads]
 rename_i u off
 cases st.ob u with
 | none => rfl
 | some y => cases y with
  | cells row cs =>
   simp only
   cases nilSl row cs off (x.val st) with
   | none => simp only; split <;> rfl
   | some p =>
    obtain ⟨sz, q⟩ := p
    simp only [reads_freshB, Rd.reads]
    split
    ·congr 3
     cases st.ob q with
     | none => rfl
     | some _ => simp only; split <;> rfl
    ·rfl
  | _ => rfl
@[simp] theorem reads_nilc (x : Src) : (evA d (.nilc x)).reads st = x.rds := by
 rw [reads_ws _ _ _ rfl]; simp only [evS, bind_rd, reads_rd]
 cases x.val st <;> simp [Rd.reads]
@[simp] theorem reads_bin (isB : List Nat) (op : BinOp) (x y : Src) : (evA d (.bin isB op x y)).reads st = x.rds ++ y.rds := by
 rw [reads_ws _ _ _ rfl]; simp only [evS, bind_rd, reads_rd]
 rw [reads_rOpt]; simp; intro v; rfl
def Src.rdO : Option Src → List Wh
 | none => []
 | some x => x.rds
@[simp] theorem rdO_none : Src.rdO none = [] := rfl
@[simp] theorem rdO_some (x : Src) : Src.rdO (some x) = x.rds := rfl
@[simp] theorem reads_slc (isStr : Bool) (sz : Option Nat) (s : Bool) (x : Src) (lo hi : Option Src) : (evA d (.slc isStr sz s x lo hi)).reads st = x.rds ++ (Src.rdO lo ++ Src.rdO hi) := by
 have key : ∀ (l h : Option V) (a : V), ((match a with
  | .sl sz' u n => match bndS 0 l, bndS n h with
   | some l, some h => if l = 0 ∧ 0 ≤ h ∧ h ≤ n ∧ sz = some sz' then pure (.ws (out d (.sl sz' u h.toNat))) else .fail
   | _, _ => .fail
  | a => do
   let v ← rOpt (sliceA isStr sz a l h)
   match s, a with
   | true, .own sz xs => match bndS 0 l, bndS xs.length h with
    | some l, some h => if h = xs.length then pure (.ws (giveA x (.own sz xs) ++ out d (.own sz (xs.drop l.toNat)))) else .fail
    | _, _ => .fail
   | _, _ => pure (.ws (out d v)) : Rd Ws).reads st) = [] := by
  intro l h a
  cases a with
  | sl sz' u n =>
   simp only
   cases bndS 0 l <;> cases bndS n h <;> try rfl
   simp only
   split <;> rfl
  | own sz' xs =>
   simp only [bind_rd]
   rw [reads_rOpt]
   intro v
   cases s with
   | false => rfl
   | true =>
    simp only
    cases bndS 0 l <;> cases bndS xs.length h <;> try rfl
    simp only
    split <;> rfl
  | _ => simp only [bind_rd]; rw [reads_rOpt]; intro v; cases s <;> rfl
 rw [reads_ws _ _ _ rfl]
 cases lo <;> cases hi <;> simp only [evS, bind_rd, pure_rd, reads_rd, srcO, Src.rdO, Rd.bind, Rd.bind_assoc]
 ·exact (congrArg (x.rds ++ ·) (key none none (x.val st))).trans (by simp)
 ·rename_i h; exact (congrArg (fun q => x.rds ++ (h.rds ++ q)) (key none (some (h.val st)) (x.val st))).trans (by simp)
 ·rename_i l; exact (congrArg (fun q => x.rds ++ (l.rds ++ q)) (key (some (l.val st)) none (x.val st))).trans (by simp)
 ·rename_i l h; exact (congrArg (fun q => x.rds ++ (l.rds ++ (h.rds ++ q))) (key (some (l.val st)) (some (h.val st)) (x.val st))).trans (by simp)
@[simp] theorem reads_fa (off : Nat) (x : Src) : (evA d (.fa off x)).reads st = x.rds := by
 rw [reads_ws _ _ _ rfl]; simp only [evS, bind_rd, reads_rd]
 cases x.val st <;> simp [Rd.reads]
@[simp] theorem reads_ia (esz : Option Nat) (arr : Option (Nat × Nat)) (x i : Src) : (evA d (.ia esz arr x i)).reads st = x.rds ++ i.rds := by
 rw [reads_ws _ _ _ rfl]; simp only [evS, bind_rd, reads_rd]
 congr 1
 conv => rhs; rw [← List.append_nil i.rds]
 congr 1
 cases i.val st with
 | int k n =>
  cases x.val st <;> simp only [V.elems] <;> try rfl
  ·rw [reads_rOpt]; intro v; split <;> rfl
  ·rw [reads_rOpt]; intro v; split <;> rfl
  ·cases arr with
   | none => rfl
   | some p => obtain ⟨l, s⟩ := p; simp only; split <;> rfl
  ·cases arr with
   | none => rfl
   | some p => obtain ⟨l, s⟩ := p; simp only; split <;> rfl
  ·split <;> rfl
 | _ => cases x.val st <;> rfl
@[simp] theorem reads_ext (x : Src) (i : Nat) : (evA d (.ext x i)).reads st = x.rds := by
 rw [reads_ws _ _ _ rfl]; simp only [evS, bind_rd, reads_rd]
 cases x.val st <;> simp only [Rd.reads, List.append_nil]
 rw [reads_rOpt]; simp; intro v; rfl
@[simp] theorem reads_lenSl (x : Src) : (evA d (.lenSl x)).reads st = x.rds := by
 rw [reads_ws _ _ _ rfl]; simp only [evS, bind_rd, reads_rd]
 cases x.val st <;> simp [Rd.reads, V.elems, rOpt, Rd.bind]
def appD (st : St) : V → V → List Wh
 | .sl _ u _, y => .o u :: (match st.ob u with
  | some (.cells true _) => (fresh [.alt u]).reads st ++ (if freshB st [.alt u] = true then (match y with | .sl _ u' _ => [.o u'] | _ => []) else [])
  | _ => [])
 | _, _ => []
@[simp] theorem appD_own (s : Nat) (xs : List V) (y : V) : appD st (.own s xs) y = [] := rfl
@[simp] theorem appD_sl (s : Nat) (u : Oid) (n : Nat) (y : V) : appD st (.sl s u n) y = .o u :: (match st.ob u with
  | some (.cells true _) => (fresh [.alt u]).reads st ++ (if freshB st [.alt u] = true then (match y with | .sl _ u' _ => [.o u'] | _ => []) else [])
  | _ => []) := rfl
@[simp] theorem reads_app (sz bytes : Nat) (x y : Src) : (evA d (.app sz bytes x y)).reads st = x.rds ++ (y.rds ++ appD st (fixE (some sz) (x.val st)) (fixE (some sz) (y.val st))) := by
 rw [reads_ws _ _ _ rfl]; simp only [evS, bind_rd, reads_rd]
 cases fixE (some sz) (x.val st) <;> simp only [Rd.reads, appD, List.append_nil]
 ·rw [reads_rOpt]; simp; intro v; split <;> rfl
 ·rename_i s u n
  congr 3
  cases st.ob u with
  | none => rfl
  | some z => cases z with
   | cells row cs =>
    cases row with
    | false => rfl
    | true =>
     simp only [reads_freshB]
     congr 1
     split
     ·cases fixE (some sz) (y.val st) with
      | sl s' u' m =>
       simp only [Rd.reads]
       congr 1
       cases st.ob u' with
       | none => rfl
       | some z' => cases z' with
        | cells row' ds => cases row' with
         | false => rfl
         | true => simp only; split <;> rfl
        | _ => rfl
      | slice s' ys => simp only [V.elems]; rw [reads_rOpt]; intro v; split <;> rfl
      | own s' ys => simp only [V.elems]; rw [reads_rOpt]; intro v; split <;> rfl
      | _ => rfl
     ·rfl
   | _ => rfl
@[simp] theorem reads_call (es : List (Option Nat)) (gv : Option (Nat × Nat)) (nw : Nat) (f : FuncId) (xs : List Src) : (evA d (.call es gv nw f xs)).reads st = xs.flatMap Src.rds ++
  (if ((xs.map (Src.val st)).zipWith (fun v e => fixE e v) es).length = xs.length then (callS gv nw f ((xs.map (Src.val st)).zipWith (fun v e => fixE e v) es) d).reads st else []) := by
 simp only [evA, bind_rd]
 rw [reads_bind, reads_srcs, run_srcs]
 simp only
 congr 1
 split <;> rfl
def callD (st : St) (vs : List V) : V → List Wh
 | .fn f => (callS none 0 f vs d).reads st
 | .clo f first caps => (callS none 0 f (first ++ vs ++ caps) d).reads st
 | _ => []
@[simp] theorem callD_fn (vs : List V) (f : FuncId) : callD d st vs (.fn f) = (callS none 0 f vs d).reads st := rfl
@[simp] theorem callD_clo (vs : List V) (f : FuncId) (first caps : List V) : callD d st vs (.clo f first caps) = (callS none 0 f (first ++ vs ++ caps) d).reads st := rfl
def slD : V → List Wh
 | .sl _ u _ => [.o u]
 | _ => []
@[simp] theorem slD_sl (sz : Nat) (u : Oid) (n : Nat) : slD (.sl sz u n) = [.o u] := rfl
@[simp] theorem slD_int (k : IntKind) (n : Int) : slD (.int k n) = [] := rfl
def mpD : V → List Wh
 | .mp u => [.o u]
 | _ => []
@[simp] theorem mpD_mp (u : Oid) : mpD (.mp u) = [.o u] := rfl
theorem reads_rOpt2 {α β γ : Type} (x : Option α) (y : Option β) (f : α → β → Rd γ) (h : ∀ a b, (f a b).reads st = []) : ((rOpt x).bind fun a => (rOpt y).bind fun b => f a b).reads st = [] := by
 cases x <;> cases y <;> simp [rOpt, Rd.bind, Rd.reads, h]
@[simp] theorem reads_ment (kd : Nat) (z : V) (m k : Src) : (evA d (.ment kd z m k)).reads st = m.rds ++ (k.rds ++ mpD (m.val st)) := by
 rw [reads_ws _ _ _ rfl]; simp only [evS, bind_rd, reads_rd]
 congr 2
 cases m.val st <;> simp only [mpD] <;> try rfl
 rename_i u
 simp only [Rd.reads]
 congr 1
 cases st.ob u with
 | none => rfl
 | some z => cases z with
  | map b l => simp only; rw [reads_rOpt2]; intro a b; rfl
  | _ => rfl
def mstD : V → V → List Wh
 | .mp u, .int _ _ => [.o u]
 | _, _ => []
@[simp] theorem mstD_mp (u : Oid) (k : IntKind) (s : Int) : mstD (.mp u) (.int k s) = [.o u] := rfl
@[simp] theorem reads_mst (m s v : Src) : (evA d (.mst m s v)).reads st = m.rds ++ (s.rds ++ (v.rds ++ mstD (m.val st) (s.val st))) := by
 rw [reads_ws _ _ _ rfl]; simp only [evS, bind_rd, reads_rd]
 congr 3
 cases m.val st <;> cases s.val st <;> simp only [mstD] <;> try rfl
 rename_i u k s'
 simp only [Rd.reads]
 congr 1
 cases st.ob u with
 | none => rfl
 | some z => cases z with
  | map b l =>
   simp only
   cases l[(s' - b).toNat]? with
   | none => rfl
   | some e => obtain ⟨e1, e2⟩ := e; simp only; split <;> rfl
  | _ => rfl
@[simp] theorem reads_mlook (kd : Nat) (z : V) (ok : Bool) (m k : Src) : (evA d (.mlook kd z ok m k)).reads st = m.rds ++ (k.rds ++ mpD (m.val st)) := by
 rw [reads_ws _ _ _ rfl]; simp only [evS, bind_rd, reads_rd]
 congr 2
 cases m.val st <;> simp only [mpD] <;> try rfl
 rename_i u
 simp only [Rd.reads]
 congr 1
 cases st.ob u with
 | none => rfl
 | some z => cases z with
  | map b l => simp only; rw [reads_rOpt2]; intro a b; rfl
  | _ => rfl
@[simp] theorem reads_mn (x y : Src) : (evA d (.mn x y)).reads st = x.rds ++ y.rds := by
 rw [reads_ws _ _ _ rfl]; simp only [evS, bind_rd, reads_rd]
 cases x.val st <;> cases y.val st <;> simp only [Rd.reads, List.append_nil]
 split <;> simp [Rd.reads]
@[simp] theorem reads_mx (x y : Src) : (evA d (.mx x y)).reads st = x.rds ++ y.rds := by
 rw [reads_ws _ _ _ rfl]; simp only [evS, bind_rd, reads_rd]
 cases x.val st <;> cases y.val st <;> simp only [Rd.reads, List.append_nil]
 split <;> simp [Rd.reads]
end
section
variable (C : Orc) (h : Hint) (n : Nat) (ps : List (Nat × Nat)) (d : Option Nat) (k : AK) (r : List AO) (st : St) (fs : List Foot) (Q : St → Prop)
@[simp] theorem runB_nil : runB C h n ps [] st fs Q = FinD h fs n ps Q st := by rw [runB]
@[simp] theorem runB_none : runB C h n ps (⟨none, d, k⟩ :: r) st fs Q = resB C h n ps r st fs Q ((evA d k).reads st) ((evA d k).run st) := by rw [runB]
@[simp] theorem resB_ws (rs : List Wh) (l : List Wr) : resB C h n ps r st fs Q rs (some (.ws l)) = runB C h n ps r (st.app l) (fs ++ [⟨rs, l.map Wr.wh⟩]) Q := by rw [resB]
@[simp] theorem resB_call (rs : List Wh) (f : FuncId) (args : List V) (objs : List Ob) (nw : Nat) (w : Way) : resB C h n ps r st fs Q rs (some (.call f args objs nw w)) =
  CallA C f args objs nw fun v os ns => runB C h n ps r (st.app (back w v os ns)) (fs ++ [⟨rs, (back w v os ns).map Wr.wh⟩]) Q := by rw [resB]
def brH (v : V) (t : Nat) (b : Bool) : Prop := brV v b (resB C h n ps r st fs Q (.t t :: (evA d k).reads st) ((evA d k).run st)) (runB C h n ps r (st.app (out d (.tup []))) (fs ++ [⟨[.t t], (out d (.tup [])).map Wr.wh⟩]) Q)
@[simp] theorem runB_some (t : Nat) (b : Bool) : runB C h n ps (⟨some (t, b), d, k⟩ :: r) st fs Q = brH C h n ps d k r st fs Q (st.tm t) t b := by rw [runB, brH]
@[simp] theorem brH_tup (t : Nat) (b : Bool) : brH C h n ps d k r st fs Q (.tup []) t b = runB C h n ps r (st.app (out d (.tup []))) (fs ++ [⟨[.t t], (out d (.tup [])).map Wr.wh⟩]) Q := rfl
@[simp high] theorem brH_tt (t : Nat) : brH C h n ps d k r st fs Q (.bool true) t true = resB C h n ps r st fs Q (.t t :: (evA d k).reads st) ((evA d k).run st) := by simp [brH, brV]
@[simp high] theorem brH_ff (t : Nat) : brH C h n ps d k r st fs Q (.bool false) t false = resB C h n ps r st fs Q (.t t :: (evA d k).reads st) ((evA d k).run st) := by simp [brH, brV]
@[simp high] theorem brH_tf (t : Nat) : brH C h n ps d k r st fs Q (.bool true) t false = runB C h n ps r (st.app (out d (.tup []))) (fs ++ [⟨[.t t], (out d (.tup [])).map Wr.wh⟩]) Q := by simp [brH, brV]
@[simp high] theorem brH_ft (t : Nat) : brH C h n ps d k r st fs Q (.bool false) t true = runB C h n ps r (st.app (out d (.tup []))) (fs ++ [⟨[.t t], (out d (.tup [])).map Wr.wh⟩]) Q := by simp [brH, brV]
@[simp low] theorem brH_t (t : Nat) (x : Bool) : brH C h n ps d k r st fs Q (.bool x) t true =
  br (id x) (resB C h n ps r st fs Q (.t t :: (evA d k).reads st) ((evA d k).run st)) (runB C h n ps r (st.app (out d (.tup []))) (fs ++ [⟨[.t t], (out d (.tup [])).map Wr.wh⟩]) Q) := rfl
@[simp low] theorem brH_f (t : Nat) (x : Bool) : brH C h n ps d k r st fs Q (.bool x) t false =
  br (id x) (runB C h n ps r (st.app (out d (.tup []))) (fs ++ [⟨[.t t], (out d (.tup [])).map Wr.wh⟩]) Q) (resB C h n ps r st fs Q (.t t :: (evA d k).reads st) ((evA d k).run st)) := rfl
variable {h n ps st fs Q}
theorem finD (h1 : (decide (fs.length = n) && ps.all fun p => !((fs.getD p.1 ⟨[], []⟩).clash (fs.getD p.2 ⟨[], []⟩))) = true) (h3 : Fin Q (restrict h st)) : FinD h fs n ps Q st := by
 simp only [Bool.and_eq_true, decide_eq_true_eq] at h1
 exact ⟨h1, h3⟩
end
attribute [simp] getS_eq resV aggOf
/-! #### the code, part by part -/
section
variable {C : Orc} {a b : AC} {st : St} {Q : X → St → Prop}
theorem c_reg {hh : Hint} {ops : List AO} (h : ∀ K : St → Prop, (∀ st, Q .normal st → K st) → runA C hh ops st K) : acwp C (.reg hh ops) st Q := h _ fun _ h => h
theorem c_regD {hh : Hint} {ps : List (Nat × Nat)} {ops : List AO} (h : ∀ K : St → Prop, (∀ st, Q .normal st → K st) → runB C hh ops.length ps ops st [] K) : acwp C (.regD hh ps ops) st Q := h _ fun _ h => h
theorem s_reg {hh : Hint} {ops : List AO} (h : ∀ K : St → Prop, (∀ st, acwp C b st Q → K st) → runA C hh ops st K) : acwp C (.seq (.reg hh ops) b) st Q := h _ fun _ h => h
theorem s_regD {hh : Hint} {ps : List (Nat × Nat)} {ops : List AO} (h : ∀ K : St → Prop, (∀ st, acwp C b st Q → K st) → runB C hh ops.length ps ops st [] K) : acwp C (.seq (.regD hh ps ops) b) st Q := h _ fun _ h => h
theorem s_skip (h : acwp C b st Q) : acwp C (.seq .skip b) st Q := h
theorem s_seq {c : AC} (h : acwp C (.seq a (.seq c b)) st Q) : acwp C (.seq (.seq a c) b) st Q := by
 have e : nextA (fun st => acwp C c st (nextA (fun st => acwp C b st Q) Q)) Q = nextA (fun st => acwp C c st (nextA (fun st => acwp C b st Q) Q)) (nextA (fun st => acwp C b st Q) Q) := by
  funext e s; cases e <;> rfl
 simp only [acwp] at h ⊢
 rw [← e]
 exact h
theorem c_skip (h : Q .normal st) : acwp C .skip st Q := h
theorem c_ret (h : Q .ret st) : acwp C .ret st Q := h
theorem c_exit {i : Nat} (h : Q (.exit i) st) : acwp C (.exit i) st Q := h
theorem s_ret (h : Q .ret st) : acwp C (.seq .ret b) st Q := h
theorem s_exit {i : Nat} (h : Q (.exit i) st) : acwp C (.seq (.exit i) b) st Q := h
theorem c_seq (h : acwp C a st (nextA (fun st => acwp C b st Q) Q)) : acwp C (.seq a b) st Q := h
theorem c_cond {x : Src} {t : Bool} (hx : x.val st = .bool t) (h1 : t = true → acwp C a st Q) (h2 : t = false → acwp C b st Q) : acwp C (.cond x a b) st Q := by
 simp only [acwp, hx, condV]; exact ⟨h1, h2⟩
theorem s_cond {x : Src} {c : AC} {t : Bool} (hx : x.val st = .bool t) (h1 : t = true → acwp C (.seq a c) st Q) (h2 : t = false → acwp C (.seq b c) st Q) : acwp C (.seq (.cond x a b) c) st Q := by
 simp only [acwp, hx, condV]; exact ⟨h1, h2⟩
theorem c_block {i : Nat} (h : acwp C a st (leaveA i Q)) : acwp C (.block i a) st Q := h
theorem s_block {i : Nat} (h : acwp C a st (leaveA i (nextA (fun st => acwp C b st Q) Q))) : acwp C (.seq (.block i a) b) st Q := h
theorem leave_n {i : Nat} (h : Q .normal st) : leaveA i Q .normal st := h
theorem leave_r {i : Nat} (h : Q .ret st) : leaveA i Q .ret st := h
theorem next_n {K : St → Prop} (h : K st) : nextA K Q .normal st := h
theorem next_r {K : St → Prop} (h : Q .ret st) : nextA K Q .ret st := h
theorem next_e {K : St → Prop} {i : Nat} (h : Q (.exit i) st) : nextA K Q (.exit i) st := h
theorem leave_eq {i : Nat} (h : Q .normal st) : leaveA i Q (.exit i) st := by simp only [leaveA, if_true]; exact h
theorem leave_ne {i j : Nat} (hn : j ≠ i) (h : Q (.exit j) st) : leaveA i Q (.exit j) st := by simp only [leaveA, if_neg hn]; exact h
end
/-- A loop by a measure. -/
theorem c_loopI {C : Orc} {a : AC} {st : St} {Q : X → St → Prop} {hh : Hint} {α : Type} (S : α → St) (I : α → Prop) (m : α → Nat) (x : α) (h0 : restrict hh st = S x) (hI : I x)
  (hb : ∀ x K, I x → (∀ st y, restrict hh st = S y → I y → m y < m x → K .normal st) → (∀ e st, e ≠ .normal → Q e st → K e st) → acwp C a (S x) K) : acwp C (.loop hh a) st Q := by
 have key : ∀ k x st, m x < k → restrict hh st = S x → I x → ∀ n, k ≤ n → iter (fun st Q => acwp C a (restrict hh st) Q) Q n st := by
  intro k
  induction k with
  | zero => intro x st h; omega
  | succ k ih =>
   intro x st hlt hs hx n hn
   obtain ⟨n, rfl⟩ : ∃ p, n = p + 1 := ⟨n - 1, by omega⟩
   simp only [iter]
   rw [hs]
   refine hb x _ hx (fun st y hs hy hlt' => ih y st (by omega) hs hy n (by omega)) (fun e st he hq => ?_)
   cases e with
   | normal => exact absurd rfl he
   | ret => exact hq
   | exit id => exact hq
 exact ⟨m x + 1, key (m x + 1) x st (by omega) h0 hI _ (Nat.le_refl _)⟩
end Go.Ax
