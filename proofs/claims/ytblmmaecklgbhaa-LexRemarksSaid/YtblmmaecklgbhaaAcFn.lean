/- A part of the proof of a law of this seat: no condition. -/
import Derived.Test.YtblmmaecklgbhaaAcSound
set_option linter.unusedVariables false
set_option linter.unusedSimpArgs false
namespace Go.Ax
/-- How a function's body ends. -/
def EndA (T : Nat → Option TI) (res : List ResultVar) (n : Nat) (r : V) (objs' : List Ob) (e : X) (st : St) : Prop :=
  (match e with | .exit _ => False | _ => True) ∧ (resS T st res).map (renV parOnly) = some r ∧ parsOf st 0 n = some objs'
theorem callOkA {P : Program} {B : Heap} {T : Nat → Option TI} {f : FuncId} {fn : Func} {code : Code} {ac : AC} (hT : TabOk P T) (hm : P.follows .mixedOrders = true) (hf : P.funcs[f]? = some fn) (hb : fn.body = some code)
    (henter : ∀ (as_ : Array Value) (w : World), (callFunc f as_).run P w = .ok (.enter f as_) w) (hint : Nat → Hint) (resT : List Nat) (hc : cCode T resT hint code = some ac)
    (hd : dstsOk fn.ntmps code = true) {args : List V} {objs : List Ob} {r : V} {objs' : List Ob} (hn : args.length ≤ fn.ntmps) (hno : ∀ x ∈ args, x.isOwn = false) (hlen : objs'.length = objs.length)
    (h : acwp (CallOk P B) ac (initSt args objs) (EndA T fn.results.toList objs.length r objs')) : CallOk P B f args objs r objs' := by
  refine callOk_of hT hm hf hb henter hint hd hn hno hlen (acwp_sound (Q := EndA T fn.results.toList objs.length r objs') code hc (fun e st he => ?_) h)
  obtain ⟨h1, h2, h3⟩ := he
  refine ⟨?_, h2, h3⟩
  cases e with
  | normal => exact .inr rfl
  | ret => exact .inl rfl
  | exit _ => exact h1.elim
theorem callOkB {P : Program} {B : Heap} {T : Nat → Option TI} {f : FuncId} {fn : Func} {ac : AC} (hT : TabOk P T) (hm : P.follows .mixedOrders = true) (hf : P.funcs[f]? = some fn)
    (henter : ∀ (as_ : Array Value) (w : World), (callFunc f as_).run P w = .ok (.enter f as_) w) (hint : Nat → Hint) (resT : List Nat) {res : List ResultVar} {n : Nat}
    (hc : (fn.body.bind fun c => if dstsOk fn.ntmps c then cCode T resT hint c else none) = some ac) (hr : fn.results.toList = res) (hnt : fn.ntmps = n)
    {args : List V} {objs : List Ob} {r : V} {objs' : List Ob} (hn : args.length ≤ n) (hno : (args.all fun x => !x.isOwn) = true) (hlen : objs'.length = objs.length)
    (h : acwp (CallOk P B) ac (initSt args objs) (EndA T res objs.length r objs')) : CallOk P B f args objs r objs' := by
  rw [Option.bind_eq_some_iff] at hc
  obtain ⟨c, h1, h2⟩ := hc
  split at h2
  · rename_i hd
    exact callOkA hT hm hf h1 henter hint resT h2 hd (hnt ▸ hn) (fun x hx => by simpa using List.all_eq_true.1 hno x hx) hlen (hr ▸ h)
  · simp at h2
theorem callK {C : Orc} {f : FuncId} {args : List V} {objs : List Ob} {K : V → List Ob → Prop} {r : V} {objs' : List Ob} (h : C f args objs r objs') (h2 : K r objs') : CallA C f args objs K := ⟨r, objs', h, h2⟩
theorem fin {Q : St → Prop} {st : St} (h : Q st) : Fin Q st := h

def brP (p : Prop) (A B : Prop) : Prop := (p → A) ∧ (¬p → B)
@[congr] theorem br_congr {x x' : Bool} {A A' B B' : Prop} (e : x = x') (h1 : x' = true → A = A') (h2 : x' = false → B = B') : br x A B = br x' A' B' := by
  subst e
  unfold br
  cases x
  · rw [h2 rfl]; simp
  · rw [h1 rfl]; simp
@[congr] theorem brP_congr {p p' : Prop} {A A' B B' : Prop} (e : p = p') (h1 : p' → A = A') (h2 : ¬p' → B = B') : brP p A B = brP p' A' B' := by
  subst e
  unfold brP
  apply propext
  constructor
  · rintro ⟨g1, g2⟩; exact ⟨fun h => h1 h ▸ g1 h, fun h => h2 h ▸ g2 h⟩
  · rintro ⟨g1, g2⟩; exact ⟨fun h => (h1 h).symm ▸ g1 h, fun h => (h2 h).symm ▸ g2 h⟩
theorem br_decide (p : Prop) [Decidable p] (A B : Prop) : br (decide p) A B = brP p A B := by simp [br, brP]
@[simp] theorem br_true (A B : Prop) : br true A B = A := by simp [br]
@[simp] theorem br_false (A B : Prop) : br false A B = B := by simp [br]
@[simp] theorem brP_true (A B : Prop) : brP True A B = A := by simp [brP]
@[simp] theorem brP_false (A B : Prop) : brP False A B = B := by simp [brP]
@[simp] theorem br_same (x : Bool) (A : Prop) : br x A A = A := by cases x <;> simp
@[simp] theorem br_fin (x : Bool) (Q : St → Prop) (a b : St) : br x (Fin Q a) (Fin Q b) = Fin Q (mrg x a b) := by cases x <;> simp [mrg]
@[simp] theorem brP_fin (p : Prop) [Decidable p] (Q : St → Prop) (a b : St) : brP p (Fin Q a) (Fin Q b) = Fin Q (mrg (decide p) a b) := by by_cases h : p <;> simp [mrg, h]
@[simp] theorem br_not (x : Bool) (A B : Prop) : br (!x) A B = br x B A := by cases x <;> simp
@[simp] theorem brP_not (x : Prop) (A B : Prop) : brP (¬x) A B = brP x B A := by unfold brP; apply propext; constructor <;> (rintro ⟨g1, g2⟩; refine ⟨?_, ?_⟩ <;> intro h <;> simp_all)
theorem br_mono {x : Bool} {A A' B B' : Prop} (h1 : A' → A) (h2 : B' → B) (h : br x A' B') : br x A B := ⟨fun e => h1 (h.1 e), fun e => h2 (h.2 e)⟩
theorem brP_mono {p : Prop} {A A' B B' : Prop} (h1 : p → A' → A) (h2 : ¬p → B' → B) (h : brP p A' B') : brP p A B := ⟨fun e => h1 e (h.1 e), fun e => h2 e (h.2 e)⟩
theorem brP_l {p : Prop} {A A' B : Prop} (h1 : p → A' → A) (h : brP p A' B) : brP p A B := ⟨fun e => h1 e (h.1 e), h.2⟩
theorem brP_r {p : Prop} {A B B' : Prop} (h2 : ¬p → B' → B) (h : brP p A B') : brP p A B := ⟨h.1, fun e => h2 e (h.2 e)⟩
theorem br_l {x : Bool} {A A' B : Prop} (h1 : A' → A) (h : br x A' B) : br x A B := ⟨fun e => h1 (h.1 e), h.2⟩
theorem br_r {x : Bool} {A B B' : Prop} (h2 : B' → B) (h : br x A B') : br x A B := ⟨h.1, fun e => h2 (h.2 e)⟩
theorem br_of {x : Bool} {A B : Prop} (h1 : x = true → A) (h2 : x = false → B) : br x A B := ⟨h1, h2⟩
theorem brP_of {p : Prop} {A B : Prop} (h1 : p → A) (h2 : ¬p → B) : brP p A B := ⟨h1, h2⟩
@[simp] theorem mrg_true {α : Type} (a b : α) : mrg true a b = a := rfl
@[simp] theorem mrg_false {α : Type} (a b : α) : mrg false a b = b := rfl
@[simp] theorem mrg_same {α : Type} (x : Bool) (a : α) : mrg x a a = a := by cases x <;> rfl
@[simp] theorem mrg_St (x : Bool) (e e' : List (Nat × V)) (o o' : List (Oid × Ob)) : mrg x (St.mk e o) (St.mk e' o') = St.mk (mrg x e e') (mrg x o o') := by cases x <;> rfl
@[simp] theorem mrg_env (x : Bool) (k : Nat) (v v' : V) (r r' : List (Nat × V)) : mrg x ((k, v) :: r) ((k, v') :: r') = (k, mrg x v v') :: mrg x r r' := by cases x <;> rfl
@[simp] theorem mrg_obs (x : Bool) (k : Oid) (v v' : Ob) (r r' : List (Oid × Ob)) : mrg x ((k, v) :: r) ((k, v') :: r') = (k, mrg x v v') :: mrg x r r' := by cases x <;> rfl
@[simp] theorem mrg_cells (x : Bool) (a b : List V) : mrg x (Ob.cells a) (.cells b) = .cells (mrg x a b) := by cases x <;> rfl
@[simp] theorem mrg_vs (x : Bool) (v v' : V) (r r' : List V) : mrg x (v :: r) (v' :: r') = mrg x v v' :: mrg x r r' := by cases x <;> rfl
@[simp] theorem mrg_bool (x a b : Bool) : mrg x (V.bool a) (.bool b) = .bool (mrg x a b) := by cases x <;> rfl
@[simp] theorem mrg_int (x : Bool) (k : IntKind) (a b : Int) : mrg x (V.int k a) (.int k b) = .int k (mrg x a b) := by cases x <;> rfl
@[simp] theorem mrg_str (x : Bool) (a b : List UInt8) : mrg x (V.str a) (.str b) = .str (mrg x a b) := by cases x <;> rfl
@[simp] theorem mrg_b1 (x p : Bool) : mrg x p false = (x && p) := by cases x <;> simp
@[simp] theorem mrg_b2 (x q : Bool) : mrg x true q = (x || q) := by cases x <;> simp
@[simp] theorem mrg_b3 (x q : Bool) : mrg x false q = (!x && q) := by cases x <;> simp
@[simp] theorem mrg_b4 (x p : Bool) : mrg x p true = (!x || p) := by cases x <;> simp

@[simp] theorem runA_nil (C : Orc) (h : Hint) (st : St) (Q : St → Prop) : runA C h [] st Q = Fin Q (restrict h st) := by rw [runA]
@[simp] theorem runA_none (C : Orc) (h : Hint) (d : Option Nat) (k : AK) (r : List AO) (st : St) (Q : St → Prop) : runA C h (⟨none, d, k⟩ :: r) st Q = resK C h r st Q ((evA d k).run st) := by rw [runA]
def brG (C : Orc) (h : Hint) (v : V) (b : Bool) (d : Option Nat) (k : AK) (r : List AO) (st : St) (Q : St → Prop) : Prop := brV v b (resK C h r st Q ((evA d k).run st)) (runA C h r (st.app (out d (.tup []))) Q)
@[simp] theorem runA_some (C : Orc) (h : Hint) (t : Nat) (b : Bool) (d : Option Nat) (k : AK) (r : List AO) (st : St) (Q : St → Prop) : runA C h (⟨some (t, b), d, k⟩ :: r) st Q = brG C h (st.tm t) b d k r st Q := by rw [runA, brG]
@[simp] theorem brG_tup (C : Orc) (h : Hint) (b : Bool) (d : Option Nat) (k : AK) (r : List AO) (st : St) (Q : St → Prop) : brG C h (.tup []) b d k r st Q = runA C h r (st.app (out d (.tup []))) Q := rfl
@[simp high] theorem brG_tt (C : Orc) (h : Hint) (d : Option Nat) (k : AK) (r : List AO) (st : St) (Q : St → Prop) : brG C h (.bool true) true d k r st Q = resK C h r st Q ((evA d k).run st) := by simp [brG, brV]
@[simp high] theorem brG_ff (C : Orc) (h : Hint) (d : Option Nat) (k : AK) (r : List AO) (st : St) (Q : St → Prop) : brG C h (.bool false) false d k r st Q = resK C h r st Q ((evA d k).run st) := by simp [brG, brV]
@[simp high] theorem brG_tf (C : Orc) (h : Hint) (d : Option Nat) (k : AK) (r : List AO) (st : St) (Q : St → Prop) : brG C h (.bool true) false d k r st Q = runA C h r (st.app (out d (.tup []))) Q := by simp [brG, brV]
@[simp high] theorem brG_ft (C : Orc) (h : Hint) (d : Option Nat) (k : AK) (r : List AO) (st : St) (Q : St → Prop) : brG C h (.bool false) true d k r st Q = runA C h r (st.app (out d (.tup []))) Q := by simp [brG, brV]
@[simp low] theorem brG_t (C : Orc) (h : Hint) (x : Bool) (d : Option Nat) (k : AK) (r : List AO) (st : St) (Q : St → Prop) :
    brG C h (.bool x) true d k r st Q = br (id x) (resK C h r st Q ((evA d k).run st)) (runA C h r (st.app (out d (.tup []))) Q) := rfl
@[simp low] theorem brG_f (C : Orc) (h : Hint) (x : Bool) (d : Option Nat) (k : AK) (r : List AO) (st : St) (Q : St → Prop) :
    brG C h (.bool x) false d k r st Q = br (id x) (runA C h r (st.app (out d (.tup []))) Q) (resK C h r st Q ((evA d k).run st)) := rfl
@[simp] theorem brG_tp (C : Orc) (h : Hint) (x : Prop) [Decidable x] (d : Option Nat) (k : AK) (r : List AO) (st : St) (Q : St → Prop) :
    brG C h (.bool (decide x)) true d k r st Q = brP (id x) (resK C h r st Q ((evA d k).run st)) (runA C h r (st.app (out d (.tup []))) Q) := br_decide _ _ _
@[simp] theorem brG_fp (C : Orc) (h : Hint) (x : Prop) [Decidable x] (d : Option Nat) (k : AK) (r : List AO) (st : St) (Q : St → Prop) :
    brG C h (.bool (decide x)) false d k r st Q = brP (id x) (runA C h r (st.app (out d (.tup []))) Q) (resK C h r st Q ((evA d k).run st)) := br_decide _ _ _
@[simp] theorem resK_ws (C : Orc) (h : Hint) (r : List AO) (st : St) (Q : St → Prop) (l : List Wr) : resK C h r st Q (some (.ws l)) = runA C h r (st.app l) Q := by rw [resK]
@[simp] theorem resK_call (C : Orc) (h : Hint) (r : List AO) (st : St) (Q : St → Prop) (f : FuncId) (args : List V) (ids : List Oid) (objs : List Ob) (d : Option Nat) :
    resK C h r st Q (some (.call f args ids objs d)) = CallA C f args objs fun v os => runA C h r (st.app (back ids d v os)) Q := by rw [resK]

@[simp] theorem run_rd {α : Type} (st : St) (x : Src) (f : V → Rd α) : (x.rd.bind f).run st = (f (x.val st)).run st := by cases x <;> rfl
def Src.rds : Src → List Wh
  | .t n => [.t n]
  | .v _ => []
theorem reads_rd {α : Type} (st : St) (x : Src) (f : V → Rd α) : (x.rd.bind f).reads st = x.rds ++ (f (x.val st)).reads st := by cases x <;> rfl
theorem run_bind {α β : Type} (st : St) (x : Rd α) (f : α → Rd β) : (x.bind f).run st = (x.run st).bind fun a => (f a).run st := by
  induction x with
  | ret a => rfl
  | fail => rfl
  | tm t k ih => exact ih _
  | ob o k ih => exact ih _
@[simp] theorem run_srcs (st : St) : ∀ l : List Src, (srcs l).run st = some (l.map (Src.val st)) := by
  intro l
  induction l with
  | nil => rfl
  | cons x r ih => simp only [srcs, bind, run_rd, run_bind, ih]; cases x <;> rfl
@[simp] theorem pure_rd {α : Type} (a : α) : (pure a : Rd α) = .ret a := rfl
@[simp] theorem bind_rd {α β : Type} (x : Rd α) (f : α → Rd β) : (x >>= f) = x.bind f := rfl
@[simp] theorem z_pure_rd {α : Type} (a : α) : (pure a : Rd α) = .ret a := rfl
theorem _root_.Go.Ax.Rd.bind_assoc {α β γ : Type} (x : Rd α) (f : α → Rd β) (g : β → Rd γ) : (x.bind f).bind g = x.bind fun a => (f a).bind g := by
  induction x with
  | ret a => rfl
  | fail => rfl
  | tm t k ih => simp only [Rd.bind]; congr 1; funext v; exact ih v
  | ob o k ih => simp only [Rd.bind]; congr 1; funext v; exact ih v
attribute [simp] Rd.bind_assoc
@[simp] theorem z_weak_any  : V.weak (.any : V) = (.any : V) := rfl
@[simp] theorem z_weak_nils  : V.weak (.nils : V) = (.nils : V) := rfl
@[simp] theorem z_weak_int (k : IntKind) (n : Int) : V.weak (.int k n : V) = (.int k n : V) := rfl
@[simp] theorem z_weak_bool (b : Bool) : V.weak (.bool b : V) = (.bool b : V) := rfl
@[simp] theorem z_weak_str (s : List UInt8) : V.weak (.str s : V) = (.str s : V) := rfl
@[simp] theorem z_weak_nilp  : V.weak (.nilp : V) = (.nilp : V) := rfl
@[simp] theorem z_weak_nilfn  : V.weak (.nilfn : V) = (.nilfn : V) := rfl
@[simp] theorem z_weak_fn (f : FuncId) : V.weak (.fn f : V) = (.fn f : V) := rfl
@[simp] theorem z_weak_agg (cs : List V) : V.weak (.agg cs : V) = .agg (cs.map V.weak1) := rfl
@[simp] theorem z_weak_slice (sz : Nat) (xs : List V) : V.weak (.slice sz xs : V) = (.slice sz xs : V) := rfl
@[simp] theorem z_weak_own (sz : Nat) (xs : List V) : V.weak (.own sz xs : V) = .slice sz xs := rfl
@[simp] theorem z_weak_ref (o : Oid) (off : Nat) : V.weak (.ref o off : V) = (.ref o off : V) := rfl
@[simp] theorem z_weak_eptr (cs : List V) (off : Nat) : V.weak (.eptr cs off : V) = (.eptr cs off : V) := rfl
@[simp] theorem z_weak_clo (f : FuncId) (a b : List V) : V.weak (.clo f a b : V) = (.clo f a b : V) := rfl
@[simp] theorem z_weak_tup (vs : List V) : V.weak (.tup vs : V) = (.tup vs : V) := rfl
@[simp] theorem z_weak1_any  : V.weak1 (.any : V) = (.any : V) := rfl
@[simp] theorem z_weak1_nils  : V.weak1 (.nils : V) = (.nils : V) := rfl
@[simp] theorem z_weak1_int (k : IntKind) (n : Int) : V.weak1 (.int k n : V) = (.int k n : V) := rfl
@[simp] theorem z_weak1_bool (b : Bool) : V.weak1 (.bool b : V) = (.bool b : V) := rfl
@[simp] theorem z_weak1_str (s : List UInt8) : V.weak1 (.str s : V) = (.str s : V) := rfl
@[simp] theorem z_weak1_nilp  : V.weak1 (.nilp : V) = (.nilp : V) := rfl
@[simp] theorem z_weak1_nilfn  : V.weak1 (.nilfn : V) = (.nilfn : V) := rfl
@[simp] theorem z_weak1_fn (f : FuncId) : V.weak1 (.fn f : V) = (.fn f : V) := rfl
@[simp] theorem z_weak1_agg (cs : List V) : V.weak1 (.agg cs : V) = (.agg cs : V) := rfl
@[simp] theorem z_weak1_slice (sz : Nat) (xs : List V) : V.weak1 (.slice sz xs : V) = (.slice sz xs : V) := rfl
@[simp] theorem z_weak1_own (sz : Nat) (xs : List V) : V.weak1 (.own sz xs : V) = .slice sz xs := rfl
@[simp] theorem z_weak1_ref (o : Oid) (off : Nat) : V.weak1 (.ref o off : V) = (.ref o off : V) := rfl
@[simp] theorem z_weak1_eptr (cs : List V) (off : Nat) : V.weak1 (.eptr cs off : V) = (.eptr cs off : V) := rfl
@[simp] theorem z_weak1_clo (f : FuncId) (a b : List V) : V.weak1 (.clo f a b : V) = (.clo f a b : V) := rfl
@[simp] theorem z_weak1_tup (vs : List V) : V.weak1 (.tup vs : V) = (.tup vs : V) := rfl
@[simp] theorem z_isOwn_any  : V.isOwn (.any : V) = false := rfl
@[simp] theorem z_isOwn_nils  : V.isOwn (.nils : V) = false := rfl
@[simp] theorem z_isOwn_int (k : IntKind) (n : Int) : V.isOwn (.int k n : V) = false := rfl
@[simp] theorem z_isOwn_bool (b : Bool) : V.isOwn (.bool b : V) = false := rfl
@[simp] theorem z_isOwn_str (s : List UInt8) : V.isOwn (.str s : V) = false := rfl
@[simp] theorem z_isOwn_nilp  : V.isOwn (.nilp : V) = false := rfl
@[simp] theorem z_isOwn_nilfn  : V.isOwn (.nilfn : V) = false := rfl
@[simp] theorem z_isOwn_fn (f : FuncId) : V.isOwn (.fn f : V) = false := rfl
@[simp] theorem z_isOwn_agg (cs : List V) : V.isOwn (.agg cs : V) = false := rfl
@[simp] theorem z_isOwn_slice (sz : Nat) (xs : List V) : V.isOwn (.slice sz xs : V) = false := rfl
@[simp] theorem z_isOwn_own (sz : Nat) (xs : List V) : V.isOwn (.own sz xs : V) = true := rfl
@[simp] theorem z_isOwn_ref (o : Oid) (off : Nat) : V.isOwn (.ref o off : V) = false := rfl
@[simp] theorem z_isOwn_eptr (cs : List V) (off : Nat) : V.isOwn (.eptr cs off : V) = false := rfl
@[simp] theorem z_isOwn_clo (f : FuncId) (a b : List V) : V.isOwn (.clo f a b : V) = false := rfl
@[simp] theorem z_isOwn_tup (vs : List V) : V.isOwn (.tup vs : V) = false := rfl
@[simp] theorem z_isTup_any  : V.isTup (.any : V) = false := rfl
@[simp] theorem z_isTup_nils  : V.isTup (.nils : V) = false := rfl
@[simp] theorem z_isTup_int (k : IntKind) (n : Int) : V.isTup (.int k n : V) = false := rfl
@[simp] theorem z_isTup_bool (b : Bool) : V.isTup (.bool b : V) = false := rfl
@[simp] theorem z_isTup_str (s : List UInt8) : V.isTup (.str s : V) = false := rfl
@[simp] theorem z_isTup_nilp  : V.isTup (.nilp : V) = false := rfl
@[simp] theorem z_isTup_nilfn  : V.isTup (.nilfn : V) = false := rfl
@[simp] theorem z_isTup_fn (f : FuncId) : V.isTup (.fn f : V) = false := rfl
@[simp] theorem z_isTup_agg (cs : List V) : V.isTup (.agg cs : V) = false := rfl
@[simp] theorem z_isTup_slice (sz : Nat) (xs : List V) : V.isTup (.slice sz xs : V) = false := rfl
@[simp] theorem z_isTup_own (sz : Nat) (xs : List V) : V.isTup (.own sz xs : V) = false := rfl
@[simp] theorem z_isTup_ref (o : Oid) (off : Nat) : V.isTup (.ref o off : V) = false := rfl
@[simp] theorem z_isTup_eptr (cs : List V) (off : Nat) : V.isTup (.eptr cs off : V) = false := rfl
@[simp] theorem z_isTup_clo (f : FuncId) (a b : List V) : V.isTup (.clo f a b : V) = false := rfl
@[simp] theorem z_isTup_tup (vs : List V) : V.isTup (.tup vs : V) = true := rfl
@[simp] theorem z_storable_any  : V.storable (.any : V) = false := rfl
@[simp] theorem z_storable_nils  : V.storable (.nils : V) = true := rfl
@[simp] theorem z_storable_int (k : IntKind) (n : Int) : V.storable (.int k n : V) = true := rfl
@[simp] theorem z_storable_bool (b : Bool) : V.storable (.bool b : V) = true := rfl
@[simp] theorem z_storable_str (s : List UInt8) : V.storable (.str s : V) = true := rfl
@[simp] theorem z_storable_nilp  : V.storable (.nilp : V) = true := rfl
@[simp] theorem z_storable_nilfn  : V.storable (.nilfn : V) = true := rfl
@[simp] theorem z_storable_fn (f : FuncId) : V.storable (.fn f : V) = true := rfl
@[simp] theorem z_storable_agg (cs : List V) : V.storable (.agg cs : V) = true := rfl
@[simp] theorem z_storable_slice (sz : Nat) (xs : List V) : V.storable (.slice sz xs : V) = true := rfl
@[simp] theorem z_storable_own (sz : Nat) (xs : List V) : V.storable (.own sz xs : V) = true := rfl
@[simp] theorem z_storable_ref (o : Oid) (off : Nat) : V.storable (.ref o off : V) = true := rfl
@[simp] theorem z_storable_eptr (cs : List V) (off : Nat) : V.storable (.eptr cs off : V) = true := rfl
@[simp] theorem z_storable_clo (f : FuncId) (a b : List V) : V.storable (.clo f a b : V) = false := rfl
@[simp] theorem z_storable_tup (vs : List V) : V.storable (.tup vs : V) = false := rfl
@[simp] theorem z_scells_any  : V.scells (.any : V) = [(.any : V)] := rfl
@[simp] theorem z_scells_nils  : V.scells (.nils : V) = [(.nils : V)] := rfl
@[simp] theorem z_scells_int (k : IntKind) (n : Int) : V.scells (.int k n : V) = [(.int k n : V)] := rfl
@[simp] theorem z_scells_bool (b : Bool) : V.scells (.bool b : V) = [(.bool b : V)] := rfl
@[simp] theorem z_scells_str (s : List UInt8) : V.scells (.str s : V) = [(.str s : V)] := rfl
@[simp] theorem z_scells_nilp  : V.scells (.nilp : V) = [(.nilp : V)] := rfl
@[simp] theorem z_scells_nilfn  : V.scells (.nilfn : V) = [(.nilfn : V)] := rfl
@[simp] theorem z_scells_fn (f : FuncId) : V.scells (.fn f : V) = [(.fn f : V)] := rfl
@[simp] theorem z_scells_agg (cs : List V) : V.scells (.agg cs : V) = cs.map V.weak1 := rfl
@[simp] theorem z_scells_slice (sz : Nat) (xs : List V) : V.scells (.slice sz xs : V) = [(.slice sz xs : V)] := rfl
@[simp] theorem z_scells_own (sz : Nat) (xs : List V) : V.scells (.own sz xs : V) = [(.own sz xs : V)] := rfl
@[simp] theorem z_scells_ref (o : Oid) (off : Nat) : V.scells (.ref o off : V) = [(.ref o off : V)] := rfl
@[simp] theorem z_scells_eptr (cs : List V) (off : Nat) : V.scells (.eptr cs off : V) = [(.eptr cs off : V)] := rfl
@[simp] theorem z_scells_clo (f : FuncId) (a b : List V) : V.scells (.clo f a b : V) = [(.clo f a b : V)] := rfl
@[simp] theorem z_scells_tup (vs : List V) : V.scells (.tup vs : V) = [(.tup vs : V)] := rfl
@[simp] theorem z_cells_any  : V.cells (.any : V) = [(.any : V)] := rfl
@[simp] theorem z_cells_nils  : V.cells (.nils : V) = [(.nils : V)] := rfl
@[simp] theorem z_cells_int (k : IntKind) (n : Int) : V.cells (.int k n : V) = [(.int k n : V)] := rfl
@[simp] theorem z_cells_bool (b : Bool) : V.cells (.bool b : V) = [(.bool b : V)] := rfl
@[simp] theorem z_cells_str (s : List UInt8) : V.cells (.str s : V) = [(.str s : V)] := rfl
@[simp] theorem z_cells_nilp  : V.cells (.nilp : V) = [(.nilp : V)] := rfl
@[simp] theorem z_cells_nilfn  : V.cells (.nilfn : V) = [(.nilfn : V)] := rfl
@[simp] theorem z_cells_fn (f : FuncId) : V.cells (.fn f : V) = [(.fn f : V)] := rfl
@[simp] theorem z_cells_agg (cs : List V) : V.cells (.agg cs : V) = cs := rfl
@[simp] theorem z_cells_slice (sz : Nat) (xs : List V) : V.cells (.slice sz xs : V) = [(.slice sz xs : V)] := rfl
@[simp] theorem z_cells_own (sz : Nat) (xs : List V) : V.cells (.own sz xs : V) = [(.own sz xs : V)] := rfl
@[simp] theorem z_cells_ref (o : Oid) (off : Nat) : V.cells (.ref o off : V) = [(.ref o off : V)] := rfl
@[simp] theorem z_cells_eptr (cs : List V) (off : Nat) : V.cells (.eptr cs off : V) = [(.eptr cs off : V)] := rfl
@[simp] theorem z_cells_clo (f : FuncId) (a b : List V) : V.cells (.clo f a b : V) = [(.clo f a b : V)] := rfl
@[simp] theorem z_cells_tup (vs : List V) : V.cells (.tup vs : V) = [(.tup vs : V)] := rfl
@[simp] theorem z_pure1_any  : V.pure1 (.any : V) = false := rfl
@[simp] theorem z_pure1_nils  : V.pure1 (.nils : V) = false := rfl
@[simp] theorem z_pure1_int (k : IntKind) (n : Int) : V.pure1 (.int k n : V) = true := rfl
@[simp] theorem z_pure1_bool (b : Bool) : V.pure1 (.bool b : V) = true := rfl
@[simp] theorem z_pure1_str (s : List UInt8) : V.pure1 (.str s : V) = true := rfl
@[simp] theorem z_pure1_nilp  : V.pure1 (.nilp : V) = true := rfl
@[simp] theorem z_pure1_nilfn  : V.pure1 (.nilfn : V) = true := rfl
@[simp] theorem z_pure1_fn (f : FuncId) : V.pure1 (.fn f : V) = true := rfl
@[simp] theorem z_pure1_agg (cs : List V) : V.pure1 (.agg cs : V) = false := rfl
@[simp] theorem z_pure1_slice (sz : Nat) (xs : List V) : V.pure1 (.slice sz xs : V) = true := rfl
@[simp] theorem z_pure1_own (sz : Nat) (xs : List V) : V.pure1 (.own sz xs : V) = true := rfl
@[simp] theorem z_pure1_ref (o : Oid) (off : Nat) : V.pure1 (.ref o off : V) = false := rfl
@[simp] theorem z_pure1_eptr (cs : List V) (off : Nat) : V.pure1 (.eptr cs off : V) = false := rfl
@[simp] theorem z_pure1_clo (f : FuncId) (a b : List V) : V.pure1 (.clo f a b : V) = false := rfl
@[simp] theorem z_pure1_tup (vs : List V) : V.pure1 (.tup vs : V) = false := rfl
@[simp] theorem z_pure_any  : V.pure (.any : V) = false := rfl
@[simp] theorem z_pure_nils  : V.pure (.nils : V) = false := rfl
@[simp] theorem z_pure_int (k : IntKind) (n : Int) : V.pure (.int k n : V) = true := rfl
@[simp] theorem z_pure_bool (b : Bool) : V.pure (.bool b : V) = true := rfl
@[simp] theorem z_pure_str (s : List UInt8) : V.pure (.str s : V) = true := rfl
@[simp] theorem z_pure_nilp  : V.pure (.nilp : V) = true := rfl
@[simp] theorem z_pure_nilfn  : V.pure (.nilfn : V) = true := rfl
@[simp] theorem z_pure_fn (f : FuncId) : V.pure (.fn f : V) = true := rfl
@[simp] theorem z_pure_agg (cs : List V) : V.pure (.agg cs : V) = cs.all V.pure1 := rfl
@[simp] theorem z_pure_slice (sz : Nat) (xs : List V) : V.pure (.slice sz xs : V) = true := rfl
@[simp] theorem z_pure_own (sz : Nat) (xs : List V) : V.pure (.own sz xs : V) = true := rfl
@[simp] theorem z_pure_ref (o : Oid) (off : Nat) : V.pure (.ref o off : V) = false := rfl
@[simp] theorem z_pure_eptr (cs : List V) (off : Nat) : V.pure (.eptr cs off : V) = false := rfl
@[simp] theorem z_pure_clo (f : FuncId) (a b : List V) : V.pure (.clo f a b : V) = false := rfl
@[simp] theorem z_pure_tup (vs : List V) : V.pure (.tup vs : V) = false := rfl
@[simp] theorem z_elems_any  : V.elems (.any : V) = none := rfl
@[simp] theorem z_elems_nils  : V.elems (.nils : V) = none := rfl
@[simp] theorem z_elems_int (k : IntKind) (n : Int) : V.elems (.int k n : V) = none := rfl
@[simp] theorem z_elems_bool (b : Bool) : V.elems (.bool b : V) = none := rfl
@[simp] theorem z_elems_str (s : List UInt8) : V.elems (.str s : V) = none := rfl
@[simp] theorem z_elems_nilp  : V.elems (.nilp : V) = none := rfl
@[simp] theorem z_elems_nilfn  : V.elems (.nilfn : V) = none := rfl
@[simp] theorem z_elems_fn (f : FuncId) : V.elems (.fn f : V) = none := rfl
@[simp] theorem z_elems_agg (cs : List V) : V.elems (.agg cs : V) = none := rfl
@[simp] theorem z_elems_slice (sz : Nat) (xs : List V) : V.elems (.slice sz xs : V) = some (sz, xs) := rfl
@[simp] theorem z_elems_own (sz : Nat) (xs : List V) : V.elems (.own sz xs : V) = some (sz, xs) := rfl
@[simp] theorem z_elems_ref (o : Oid) (off : Nat) : V.elems (.ref o off : V) = none := rfl
@[simp] theorem z_elems_eptr (cs : List V) (off : Nat) : V.elems (.eptr cs off : V) = none := rfl
@[simp] theorem z_elems_clo (f : FuncId) (a b : List V) : V.elems (.clo f a b : V) = none := rfl
@[simp] theorem z_elems_tup (vs : List V) : V.elems (.tup vs : V) = none := rfl
@[simp] theorem z_fixE_any (e : Option Nat)  : fixE e (.any : V) = (.any : V) := by cases e <;> rfl
@[simp] theorem z_fixE_nils (n : Nat) : fixE (some n) .nils = .own n [] := rfl
@[simp] theorem z_fixE_int (e : Option Nat) (k : IntKind) (n : Int) : fixE e (.int k n : V) = (.int k n : V) := by cases e <;> rfl
@[simp] theorem z_fixE_bool (e : Option Nat) (b : Bool) : fixE e (.bool b : V) = (.bool b : V) := by cases e <;> rfl
@[simp] theorem z_fixE_str (e : Option Nat) (s : List UInt8) : fixE e (.str s : V) = (.str s : V) := by cases e <;> rfl
@[simp] theorem z_fixE_nilp (e : Option Nat)  : fixE e (.nilp : V) = (.nilp : V) := by cases e <;> rfl
@[simp] theorem z_fixE_nilfn (e : Option Nat)  : fixE e (.nilfn : V) = (.nilfn : V) := by cases e <;> rfl
@[simp] theorem z_fixE_fn (e : Option Nat) (f : FuncId) : fixE e (.fn f : V) = (.fn f : V) := by cases e <;> rfl
@[simp] theorem z_fixE_agg (e : Option Nat) (cs : List V) : fixE e (.agg cs : V) = (.agg cs : V) := by cases e <;> rfl
@[simp] theorem z_fixE_slice (e : Option Nat) (sz : Nat) (xs : List V) : fixE e (.slice sz xs : V) = (.slice sz xs : V) := by cases e <;> rfl
@[simp] theorem z_fixE_own (e : Option Nat) (sz : Nat) (xs : List V) : fixE e (.own sz xs : V) = (.own sz xs : V) := by cases e <;> rfl
@[simp] theorem z_fixE_ref (e : Option Nat) (o : Oid) (off : Nat) : fixE e (.ref o off : V) = (.ref o off : V) := by cases e <;> rfl
@[simp] theorem z_fixE_eptr (e : Option Nat) (cs : List V) (off : Nat) : fixE e (.eptr cs off : V) = (.eptr cs off : V) := by cases e <;> rfl
@[simp] theorem z_fixE_clo (e : Option Nat) (f : FuncId) (a b : List V) : fixE e (.clo f a b : V) = (.clo f a b : V) := by cases e <;> rfl
@[simp] theorem z_fixE_tup (e : Option Nat) (vs : List V) : fixE e (.tup vs : V) = (.tup vs : V) := by cases e <;> rfl
@[simp] theorem z_fixE_none (v : V) : fixE none v = v := rfl
@[simp] theorem z_refs1_any  : refs1 (.any : V) = [] := rfl
@[simp] theorem z_refs1_nils  : refs1 (.nils : V) = [] := rfl
@[simp] theorem z_refs1_int (k : IntKind) (n : Int) : refs1 (.int k n : V) = [] := rfl
@[simp] theorem z_refs1_bool (b : Bool) : refs1 (.bool b : V) = [] := rfl
@[simp] theorem z_refs1_str (s : List UInt8) : refs1 (.str s : V) = [] := rfl
@[simp] theorem z_refs1_nilp  : refs1 (.nilp : V) = [] := rfl
@[simp] theorem z_refs1_nilfn  : refs1 (.nilfn : V) = [] := rfl
@[simp] theorem z_refs1_fn (f : FuncId) : refs1 (.fn f : V) = [] := rfl
@[simp] theorem z_refs1_agg (cs : List V) : refs1 (.agg cs : V) = [] := rfl
@[simp] theorem z_refs1_slice (sz : Nat) (xs : List V) : refs1 (.slice sz xs : V) = [] := rfl
@[simp] theorem z_refs1_own (sz : Nat) (xs : List V) : refs1 (.own sz xs : V) = [] := rfl
@[simp] theorem z_refs1_ref (o : Oid) (off : Nat) : refs1 (.ref o off : V) = [o] := rfl
@[simp] theorem z_refs1_eptr (cs : List V) (off : Nat) : refs1 (.eptr cs off : V) = [] := rfl
@[simp] theorem z_refs1_clo (f : FuncId) (a b : List V) : refs1 (.clo f a b : V) = [] := rfl
@[simp] theorem z_refs1_tup (vs : List V) : refs1 (.tup vs : V) = [] := rfl
@[simp] theorem z_refsV_any  : refsV (.any : V) = [] := rfl
@[simp] theorem z_refsV_nils  : refsV (.nils : V) = [] := rfl
@[simp] theorem z_refsV_int (k : IntKind) (n : Int) : refsV (.int k n : V) = [] := rfl
@[simp] theorem z_refsV_bool (b : Bool) : refsV (.bool b : V) = [] := rfl
@[simp] theorem z_refsV_str (s : List UInt8) : refsV (.str s : V) = [] := rfl
@[simp] theorem z_refsV_nilp  : refsV (.nilp : V) = [] := rfl
@[simp] theorem z_refsV_nilfn  : refsV (.nilfn : V) = [] := rfl
@[simp] theorem z_refsV_fn (f : FuncId) : refsV (.fn f : V) = [] := rfl
@[simp] theorem z_refsV_agg (cs : List V) : refsV (.agg cs : V) = cs.flatMap refs1 := rfl
@[simp] theorem z_refsV_slice (sz : Nat) (xs : List V) : refsV (.slice sz xs : V) = [] := rfl
@[simp] theorem z_refsV_own (sz : Nat) (xs : List V) : refsV (.own sz xs : V) = [] := rfl
@[simp] theorem z_refsV_ref (o : Oid) (off : Nat) : refsV (.ref o off : V) = [o] := rfl
@[simp] theorem z_refsV_eptr (cs : List V) (off : Nat) : refsV (.eptr cs off : V) = [] := rfl
@[simp] theorem z_refsV_clo (f : FuncId) (a b : List V) : refsV (.clo f a b : V) = a.flatMap refs1 ++ b.flatMap refs1 := rfl
@[simp] theorem z_refsV_tup (vs : List V) : refsV (.tup vs : V) = [] := rfl
@[simp] theorem z_ren1_any (g : Oid → Option Oid)  : ren1 g (.any : V) = (.any : V) := rfl
@[simp] theorem z_ren1_nils (g : Oid → Option Oid)  : ren1 g (.nils : V) = (.nils : V) := rfl
@[simp] theorem z_ren1_int (g : Oid → Option Oid) (k : IntKind) (n : Int) : ren1 g (.int k n : V) = (.int k n : V) := rfl
@[simp] theorem z_ren1_bool (g : Oid → Option Oid) (b : Bool) : ren1 g (.bool b : V) = (.bool b : V) := rfl
@[simp] theorem z_ren1_str (g : Oid → Option Oid) (s : List UInt8) : ren1 g (.str s : V) = (.str s : V) := rfl
@[simp] theorem z_ren1_nilp (g : Oid → Option Oid)  : ren1 g (.nilp : V) = (.nilp : V) := rfl
@[simp] theorem z_ren1_nilfn (g : Oid → Option Oid)  : ren1 g (.nilfn : V) = (.nilfn : V) := rfl
@[simp] theorem z_ren1_fn (g : Oid → Option Oid) (f : FuncId) : ren1 g (.fn f : V) = (.fn f : V) := rfl
@[simp] theorem z_ren1_agg (g : Oid → Option Oid) (cs : List V) : ren1 g (.agg cs : V) = (.agg cs : V) := rfl
@[simp] theorem z_ren1_slice (g : Oid → Option Oid) (sz : Nat) (xs : List V) : ren1 g (.slice sz xs : V) = (.slice sz xs : V) := rfl
@[simp] theorem z_ren1_own (g : Oid → Option Oid) (sz : Nat) (xs : List V) : ren1 g (.own sz xs : V) = (.own sz xs : V) := rfl
@[simp] theorem z_ren1_ref (g : Oid → Option Oid) (o : Oid) (off : Nat) : ren1 g (.ref o off : V) = (match g o with | some u => .ref u off | none => .any) := rfl
@[simp] theorem z_ren1_eptr (g : Oid → Option Oid) (cs : List V) (off : Nat) : ren1 g (.eptr cs off : V) = (.eptr cs off : V) := rfl
@[simp] theorem z_ren1_clo (g : Oid → Option Oid) (f : FuncId) (a b : List V) : ren1 g (.clo f a b : V) = (.clo f a b : V) := rfl
@[simp] theorem z_ren1_tup (g : Oid → Option Oid) (vs : List V) : ren1 g (.tup vs : V) = (.tup vs : V) := rfl
@[simp] theorem z_ren2_any (g : Oid → Option Oid)  : ren2 g (.any : V) = (.any : V) := rfl
@[simp] theorem z_ren2_nils (g : Oid → Option Oid)  : ren2 g (.nils : V) = (.nils : V) := rfl
@[simp] theorem z_ren2_int (g : Oid → Option Oid) (k : IntKind) (n : Int) : ren2 g (.int k n : V) = (.int k n : V) := rfl
@[simp] theorem z_ren2_bool (g : Oid → Option Oid) (b : Bool) : ren2 g (.bool b : V) = (.bool b : V) := rfl
@[simp] theorem z_ren2_str (g : Oid → Option Oid) (s : List UInt8) : ren2 g (.str s : V) = (.str s : V) := rfl
@[simp] theorem z_ren2_nilp (g : Oid → Option Oid)  : ren2 g (.nilp : V) = (.nilp : V) := rfl
@[simp] theorem z_ren2_nilfn (g : Oid → Option Oid)  : ren2 g (.nilfn : V) = (.nilfn : V) := rfl
@[simp] theorem z_ren2_fn (g : Oid → Option Oid) (f : FuncId) : ren2 g (.fn f : V) = (.fn f : V) := rfl
@[simp] theorem z_ren2_agg (g : Oid → Option Oid) (cs : List V) : ren2 g (.agg cs : V) = .agg (cs.map (ren1 g)) := rfl
@[simp] theorem z_ren2_slice (g : Oid → Option Oid) (sz : Nat) (xs : List V) : ren2 g (.slice sz xs : V) = (.slice sz xs : V) := rfl
@[simp] theorem z_ren2_own (g : Oid → Option Oid) (sz : Nat) (xs : List V) : ren2 g (.own sz xs : V) = (.own sz xs : V) := rfl
@[simp] theorem z_ren2_ref (g : Oid → Option Oid) (o : Oid) (off : Nat) : ren2 g (.ref o off : V) = (match g o with | some u => .ref u off | none => .any) := rfl
@[simp] theorem z_ren2_eptr (g : Oid → Option Oid) (cs : List V) (off : Nat) : ren2 g (.eptr cs off : V) = (.eptr cs off : V) := rfl
@[simp] theorem z_ren2_clo (g : Oid → Option Oid) (f : FuncId) (a b : List V) : ren2 g (.clo f a b : V) = .clo f (a.map (ren1 g)) (b.map (ren1 g)) := rfl
@[simp] theorem z_ren2_tup (g : Oid → Option Oid) (vs : List V) : ren2 g (.tup vs : V) = (.tup vs : V) := rfl
@[simp] theorem z_renV_any (g : Oid → Option Oid)  : renV g (.any : V) = (.any : V) := rfl
@[simp] theorem z_renV_nils (g : Oid → Option Oid)  : renV g (.nils : V) = (.nils : V) := rfl
@[simp] theorem z_renV_int (g : Oid → Option Oid) (k : IntKind) (n : Int) : renV g (.int k n : V) = (.int k n : V) := rfl
@[simp] theorem z_renV_bool (g : Oid → Option Oid) (b : Bool) : renV g (.bool b : V) = (.bool b : V) := rfl
@[simp] theorem z_renV_str (g : Oid → Option Oid) (s : List UInt8) : renV g (.str s : V) = (.str s : V) := rfl
@[simp] theorem z_renV_nilp (g : Oid → Option Oid)  : renV g (.nilp : V) = (.nilp : V) := rfl
@[simp] theorem z_renV_nilfn (g : Oid → Option Oid)  : renV g (.nilfn : V) = (.nilfn : V) := rfl
@[simp] theorem z_renV_fn (g : Oid → Option Oid) (f : FuncId) : renV g (.fn f : V) = (.fn f : V) := rfl
@[simp] theorem z_renV_agg (g : Oid → Option Oid) (cs : List V) : renV g (.agg cs : V) = .agg (cs.map (ren1 g)) := rfl
@[simp] theorem z_renV_slice (g : Oid → Option Oid) (sz : Nat) (xs : List V) : renV g (.slice sz xs : V) = (.slice sz xs : V) := rfl
@[simp] theorem z_renV_own (g : Oid → Option Oid) (sz : Nat) (xs : List V) : renV g (.own sz xs : V) = (.own sz xs : V) := rfl
@[simp] theorem z_renV_ref (g : Oid → Option Oid) (o : Oid) (off : Nat) : renV g (.ref o off : V) = (match g o with | some u => .ref u off | none => .any) := rfl
@[simp] theorem z_renV_eptr (g : Oid → Option Oid) (cs : List V) (off : Nat) : renV g (.eptr cs off : V) = (.eptr cs off : V) := rfl
@[simp] theorem z_renV_clo (g : Oid → Option Oid) (f : FuncId) (a b : List V) : renV g (.clo f a b : V) = .clo f (a.map (ren1 g)) (b.map (ren1 g)) := rfl
@[simp] theorem z_renV_tup (g : Oid → Option Oid) (vs : List V) : renV g (.tup vs : V) = .tup (vs.map (ren2 g)) := rfl
@[simp] theorem giveA_v (x v : V) : giveA (.v x) v = [] := rfl
@[simp] theorem giveA_t (t : Nat) (v : V) : giveA (.t t) v = if v.isOwn then [.t t v.weak] else [] := rfl
@[simp] theorem run_srcsB {α : Type} (st : St) (l : List Src) (f : List V → Rd α) : ((srcs l).bind f).run st = (f (l.map (Src.val st))).run st := by rw [run_bind, run_srcs]; rfl
@[simp] theorem run_srcO0 {α : Type} (st : St) (f : Option V → Rd α) : ((srcO none).bind f).run st = (f none).run st := rfl
@[simp] theorem run_srcO1 {α : Type} (st : St) (x : Src) (f : Option V → Rd α) : ((srcO (some x)).bind f).run st = (f (some (x.val st))).run st := by
  cases x <;> rfl
@[simp] theorem rOpt_some {α β : Type} (a : α) (f : α → Rd β) : (rOpt (some a)).bind f = f a := rfl
theorem brV_bool (x b : Bool) (A B : Prop) : brV (.bool x) b A B = if b then br x A B else br x B A := rfl
theorem brV_tup (b : Bool) (A B : Prop) : brV (.tup []) b A B = B := rfl
theorem wsB {α : Type} (st : St) (x : Rd Ws) (f : Ws → Rd α) : (x.bind f).run st = (x.run st).bind fun a => (f a).run st := run_bind st x f
section
variable (d : Option Nat) (st : St)
def wsO : Option V → Option Res := Option.map fun v => .ws (out d v)
@[simp] theorem wsO_some (v : V) : wsO d (some v) = some (.ws (out d v)) := rfl
theorem run_ws (k : AK) (h : k.notCall = true) : (evA d k).run st = ((evS d k).run st).map fun | .ws l => .ws l := by
  rw [evA_not h, bind_rd, run_bind]
  cases (evS d k).run st with
  | none => rfl
  | some x => cases x; rfl
@[simp] theorem run_mv (e : Option Nat) (x : Src) : (evA d (.mv e x)).run st = some (.ws (out d (fixE e (x.val st)).weak)) := by cases x <;> rfl
@[simp] theorem run_mvS (e : Option Nat) (x : Src) : (evA d (.mvS e x)).run st = some (.ws (giveA x (fixE e (x.val st)) ++ out d (fixE e (x.val st)))) := by cases x <;> rfl
def pickR : V → V → V → Option Res
  | .bool c, a, b => some (.ws (out d (mrg c a.weak b.weak)))
  | _, _, _ => none
@[simp] theorem run_pick (c a b : Src) : (evA d (.pick c a b)).run st = pickR d (c.val st) (a.val st) (b.val st) := by
  rw [run_ws _ _ _ rfl]
  simp only [evS, bind_rd, run_rd]
  cases c.val st <;> first | rfl | (simp only [run_rd]; rfl)
@[simp] theorem pickR_bool (c : Bool) (a b : V) : pickR d (.bool c) a b = some (.ws (out d (mrg c a.weak b.weak))) := rfl
@[simp] theorem run_alloc (t : Nat) (z : List V) : (evA (some t) (.alloc z)).run st = match st.ob (.loc t) with | none => some (.ws [.o (.loc t) (.cells z), .t t (.ref (.loc t) 0)]) | some _ => none := by
  rw [run_ws _ _ _ rfl]; simp only [evS, Rd.run]; cases st.ob (.loc t) <;> rfl
@[simp] theorem run_box (t n : Nat) (x : Src) : (evA (some t) (.box n x)).run st = match st.ob (.loc t) with
    | none => if (x.val st).weak.scells.length = n ∧ (x.val st).storable = true then some (.ws [.o (.loc t) (.cells (x.val st).weak.scells), .t t (.ref (.loc t) 0)]) else none | some _ => none := by
  rw [run_ws _ _ _ rfl]; simp only [evS, bind_rd, run_rd, Rd.run]
  cases st.ob (.loc t) with
  | none => simp only; split <;> rfl
  | some _ => rfl
@[simp] theorem run_build (flds : List (Nat × Nat)) (zero : List V) (is : List Nat) (xs : List Src) : (evA d (.build flds zero is xs)).run st = wsO d ((buildS flds zero (is.zip (xs.map (Src.val st)))).map fun cs => .agg (cs.map V.weak1)) := by
  rw [run_ws _ _ _ rfl]; simp only [evS, bind_rd, run_srcsB]
  cases buildS flds zero (is.zip (xs.map (Src.val st))) <;> rfl
@[simp] theorem run_buildSl (sz : Nat) (xs : List Src) : (evA d (.buildSl sz xs)).run st = if (xs.map (Src.val st)).all (fun v => v.cells.length == sz && v.pure) = true then some (.ws (out d (.own sz ((xs.map (Src.val st)).map V.weak)))) else none := by
  rw [run_ws _ _ _ rfl]; simp only [evS, bind_rd, run_srcsB]
  split <;> rfl
def loadR (agg : Option Nat) (s : Bool) (st : St) : V → Option Res
  | .eptr cs off => wsO d ((getA agg cs off).map V.weak)
  | .ref u off => match st.ob u with
    | some (.cells cs) => match getA agg cs off with
      | some v => if s && v.isOwn then some (.ws (.o u (.cells (cs.set off v.weak)) :: out d v)) else some (.ws (out d v.weak))
      | none => none
    | none => none
  | _ => none
@[simp] theorem run_load (agg : Option Nat) (s : Bool) (a : Src) : (evA d (.load agg s a)).run st = loadR d agg s st (a.val st) := by
  rw [run_ws _ _ _ rfl]; simp only [evS, bind_rd, run_rd]
  cases a.val st <;> try rfl
  · rename_i u off
    simp only [Rd.run, loadR]
    cases st.ob u with
    | none => rfl
    | some x => cases x with
      | cells cs =>
        simp only
        cases getA agg cs off with
        | none => rfl
        | some v => simp only [rOpt, Rd.bind]; split <;> rfl
  · rename_i cs off
    simp only [loadR]
    cases getA agg cs off <;> rfl
@[simp] theorem loadR_eptr (agg : Option Nat) (s : Bool) (cs : List V) (off : Nat) : loadR d agg s st (.eptr cs off) = wsO d ((getA agg cs off).map V.weak) := rfl
@[simp] theorem loadR_ref (agg : Option Nat) (s : Bool) (u : Oid) (off : Nat) : loadR d agg s st (.ref u off) = match st.ob u with
    | some (.cells cs) => match getA agg cs off with
      | some v => if s && v.isOwn then some (.ws (.o u (.cells (cs.set off v.weak)) :: out d v)) else some (.ws (out d v.weak))
      | none => none
    | none => none := rfl
def storeR (n : Nat) (x : Src) (st : St) : V → V → Option Res
  | .ref u off, v => match st.ob u with
      | some (.cells cs) =>
        if v.scells.length = n ∧ off + v.scells.length ≤ cs.length ∧ d.isNone = true ∧ v.storable = true then
          some (.ws (giveA x v ++ [.o u (.cells (setAll cs off v.scells))]))
        else none
      | none => none
  | _, _ => none
@[simp] theorem run_store (n : Nat) (e : Option Nat) (a x : Src) : (evA d (.store n e a x)).run st = storeR d n x st (a.val st) (fixE e (x.val st)) := by
  rw [run_ws _ _ _ rfl]; simp only [evS, bind_rd, run_rd]
  cases a.val st <;> try rfl
  rename_i u off
  simp only [Rd.run, storeR]
  cases st.ob u with
  | none => rfl
  | some x => cases x with
    | cells cs => simp only; split <;> rfl
@[simp] theorem storeR_ref (n : Nat) (x : Src) (u : Oid) (off : Nat) (v : V) : storeR d n x st (.ref u off) v = match st.ob u with
      | some (.cells cs) =>
        if v.scells.length = n ∧ off + v.scells.length ≤ cs.length ∧ d.isNone = true ∧ v.storable = true then
          some (.ws (giveA x v ++ [.o u (.cells (setAll cs off v.scells))]))
        else none
      | none => none := rfl
def nilcR : V → Option V
  | .ref u off => some (.ref u off)
  | .eptr cs off => some (.eptr cs off)
  | _ => none
@[simp] theorem run_nilc (x : Src) : (evA d (.nilc x)).run st = wsO d (nilcR (x.val st)) := by
  rw [run_ws _ _ _ rfl]; simp only [evS, bind_rd, run_rd]
  cases x.val st <;> rfl
@[simp] theorem nilcR_ref (u : Oid) (off : Nat) : nilcR (.ref u off) = some (.ref u off) := rfl
@[simp] theorem nilcR_eptr (cs : List V) (off : Nat) : nilcR (.eptr cs off) = some (.eptr cs off) := rfl
@[simp] theorem run_bin (isB : List Nat) (op : BinOp) (x y : Src) : (evA d (.bin isB op x y)).run st = wsO d (binS isB op (x.val st) (y.val st)) := by
  rw [run_ws _ _ _ rfl]; simp only [evS, bind_rd, run_rd]
  cases binS isB op (x.val st) (y.val st) <;> rfl
@[simp] theorem run_un (op : UnOp) (x : Src) : (evA d (.un op x)).run st = wsO d (unS op (x.val st)) := by
  rw [run_ws _ _ _ rfl]; simp only [evS, bind_rd, run_rd]
  cases unS op (x.val st) <;> rfl
@[simp] theorem run_slc (isStr : Bool) (sz : Option Nat) (x : Src) (lo hi : Option Src) : (evA d (.slc isStr sz x lo hi)).run st = wsO d (sliceA isStr sz (x.val st) (lo.map (Src.val st)) (hi.map (Src.val st))) := by
  rw [run_ws _ _ _ rfl]; cases lo <;> cases hi <;> simp only [evS, bind_rd, run_rd, run_srcO0, run_srcO1, Option.map] <;>
  (generalize sliceA _ _ _ _ _ = q; cases q <;> rfl)
def faR (off : Nat) : V → Option V
  | .ref u o' => some (.ref u (o' + off))
  | .eptr cs o' => some (.eptr cs (o' + off))
  | _ => none
@[simp] theorem run_fa (off : Nat) (x : Src) : (evA d (.fa off x)).run st = wsO d (faR off (x.val st)) := by
  rw [run_ws _ _ _ rfl]; simp only [evS, bind_rd, run_rd]
  cases x.val st <;> rfl
@[simp] theorem faR_ref (off : Nat) (u : Oid) (o' : Nat) : faR off (.ref u o') = some (.ref u (o' + off)) := rfl
@[simp] theorem faR_eptr (off : Nat) (cs : List V) (o' : Nat) : faR off (.eptr cs o') = some (.eptr cs (o' + off)) := rfl
def iaR (sz : Nat) : V → V → Option V
  | a, .int _ i => match a.elems with
    | some (s, xs) => if sz = s then (idx xs i).map fun x => .eptr x.cells 0 else none
    | none => none
  | _, _ => none
@[simp] theorem run_ia (sz : Nat) (x i : Src) : (evA d (.ia sz x i)).run st = wsO d (iaR sz (x.val st) (i.val st)) := by
  rw [run_ws _ _ _ rfl]; simp only [evS, bind_rd, run_rd]
  cases i.val st with
  | int k n =>
    simp only [iaR]
    cases (x.val st).elems with
    | none => rfl
    | some p =>
      obtain ⟨s, xs⟩ := p
      simp only [Option.some.injEq]
      cases idx xs n <;> simp only [rOpt, Rd.bind] <;> split <;> rfl
  | _ => simp only [iaR]; cases (x.val st).elems <;> rfl
@[simp] theorem iaR_slice (sz s : Nat) (xs : List V) (k : IntKind) (i : Int) : iaR sz (.slice s xs) (.int k i) = if sz = s then (idx xs i).map fun x => .eptr x.cells 0 else none := rfl
@[simp] theorem iaR_own (sz s : Nat) (xs : List V) (k : IntKind) (i : Int) : iaR sz (.own s xs) (.int k i) = if sz = s then (idx xs i).map fun x => .eptr x.cells 0 else none := rfl
def ixR : V → V → Option V
  | .str s, .int _ i => (idxB s i).map fun b => .int .u8 b.toNat
  | _, _ => none
@[simp] theorem run_ix (x i : Src) : (evA d (.ix x i)).run st = wsO d (ixR (x.val st) (i.val st)) := by
  rw [run_ws _ _ _ rfl]; simp only [evS, bind_rd, run_rd]
  cases x.val st <;> cases i.val st <;> try rfl
  rename_i s k i
  simp only [ixR]
  cases idxB s i <;> rfl
@[simp] theorem ixR_str (s : List UInt8) (k : IntKind) (i : Int) : ixR (.str s) (.int k i) = (idxB s i).map fun b => .int .u8 b.toNat := rfl
def extR (i : Nat) : V → Option V
  | .tup vs => (vs[i]?).map V.weak
  | _ => none
@[simp] theorem run_ext (x : Src) (i : Nat) : (evA d (.ext x i)).run st = wsO d (extR i (x.val st)) := by
  rw [run_ws _ _ _ rfl]; simp only [evS, bind_rd, run_rd]
  cases x.val st <;> try rfl
  rename_i vs
  simp only [extR]
  cases vs[i]? <;> rfl
@[simp] theorem extR_tup (i : Nat) (vs : List V) : extR i (.tup vs) = (vs[i]?).map V.weak := rfl
def lenR : V → Option V
  | .str s => some (.int .i64 s.length)
  | _ => none
@[simp] theorem run_lenStr (x : Src) : (evA d (.lenStr x)).run st = wsO d (lenR (x.val st)) := by
  rw [run_ws _ _ _ rfl]; simp only [evS, bind_rd, run_rd]
  cases x.val st <;> rfl
@[simp] theorem lenR_str (s : List UInt8) : lenR (.str s) = some (.int .i64 s.length) := rfl
def lenL (v : V) : Option V := v.elems.map fun p => .int .i64 p.2.length
@[simp] theorem run_lenSl (x : Src) : (evA d (.lenSl x)).run st = wsO d (lenL (x.val st)) := by
  rw [run_ws _ _ _ rfl]; simp only [evS, bind_rd, run_rd]
  cases x.val st <;> rfl
@[simp] theorem lenL_slice (sz : Nat) (xs : List V) : lenL (.slice sz xs) = some (.int .i64 xs.length) := rfl
@[simp] theorem lenL_own (sz : Nat) (xs : List V) : lenL (.own sz xs) = some (.int .i64 xs.length) := rfl
def appR (sz bytes : Nat) (x : Src) : V → V → Option Res
  | .own s xs, y => match y.elems with
    | some (s', ys) => if s = sz ∧ s' = sz ∧ (xs.length + ys.length) * bytes ≤ 140737488355328 then some (.ws (giveA x (.own s xs) ++ out d (.own sz (xs ++ ys)))) else none
    | none => none
  | _, _ => none
@[simp] theorem run_app (sz bytes : Nat) (x y : Src) : (evA d (.app sz bytes x y)).run st = appR d sz bytes x (fixE (some sz) (x.val st)) (fixE (some sz) (y.val st)) := by
  rw [run_ws _ _ _ rfl]; simp only [evS, bind_rd, run_rd]
  cases fixE (some sz) (x.val st) <;> try rfl
  simp only [appR]
  cases (fixE (some sz) (y.val st)).elems with
  | none => rfl
  | some p => simp only [rOpt, Rd.bind]; split <;> rfl
@[simp] theorem appR_own (sz bytes : Nat) (x : Src) (s : Nat) (xs : List V) (y : V) : appR d sz bytes x (.own s xs) y = match y.elems with
    | some (s', ys) => if s = sz ∧ s' = sz ∧ (xs.length + ys.length) * bytes ≤ 140737488355328 then some (.ws (giveA x (.own s xs) ++ out d (.own sz (xs ++ ys)))) else none
    | none => none := rfl
def callR (n : Nat) (st : St) (vs : List V) : V → Option Res
  | .fn f => if vs.length = n then (callS f vs d).run st else none
  | .clo f first caps => if vs.length = n then (callS f (first ++ vs ++ caps) d).run st else none
  | _ => none
@[simp] theorem run_call (es : List (Option Nat)) (f : Src) (xs : List Src) : (evA d (.call es f xs)).run st = callR d xs.length st ((xs.map (Src.val st)).zipWith (fun v e => fixE e v) es) (f.val st) := by
  simp only [evA, bind_rd, run_rd, run_srcsB]
  cases f.val st <;> simp only [callR] <;> split <;> rfl
@[simp] theorem callR_fn (n : Nat) (vs : List V) (f : FuncId) : callR d n st vs (.fn f) = if vs.length = n then (callS f vs d).run st else none := rfl
@[simp] theorem callR_clo (n : Nat) (vs : List V) (f : FuncId) (first caps : List V) : callR d n st vs (.clo f first caps) = if vs.length = n then (callS f (first ++ vs ++ caps) d).run st else none := rfl
end
section
variable (isB : List Nat) (k : IntKind) (a b : Int) (s t : List UInt8) (x y : Bool)
@[simp] theorem bin_add : binS isB .add (.int k a) (.int k b) = some (.int k (k.wrap (a + b))) := by simp [binS]
@[simp] theorem bin_sub : binS isB .sub (.int k a) (.int k b) = some (.int k (k.wrap (a - b))) := by simp [binS]
@[simp] theorem bin_mul : binS isB .mul (.int k a) (.int k b) = some (.int k (k.wrap (a * b))) := by simp [binS]
@[simp] theorem bin_quo : binS isB .quo (.int k a) (.int k b) = if b ≠ 0 then some (.int k (k.wrap (a.tdiv b))) else none := by simp [binS]
@[simp] theorem bin_rem : binS isB .rem (.int k a) (.int k b) = if b ≠ 0 then some (.int k (a.tmod b)) else none := by simp [binS]
@[simp] theorem bin_eql : binS isB .eql (.int k a) (.int k b) = some (.bool (decide (a = b))) := by simp [binS]; rfl
@[simp] theorem bin_neq : binS isB .neq (.int k a) (.int k b) = some (.bool (!decide (a = b))) := by simp [binS]; rfl
@[simp] theorem bin_lss : binS isB .lss (.int k a) (.int k b) = some (.bool (decide (a < b))) := by simp [binS]
@[simp] theorem bin_leq : binS isB .leq (.int k a) (.int k b) = some (.bool (decide (a ≤ b))) := by simp [binS]
@[simp] theorem bin_gtr : binS isB .gtr (.int k a) (.int k b) = some (.bool (decide (b < a))) := by simp [binS]
@[simp] theorem bin_geq : binS isB .geq (.int k a) (.int k b) = some (.bool (decide (b ≤ a))) := by simp [binS]
@[simp] theorem bin_sadd : binS isB .add (.str s) (.str t) = if s.length + t.length ≤ 1000000000000000000 then some (.str (s ++ t)) else none := rfl
@[simp] theorem bin_seql : binS isB .eql (.str s) (.str t) = some (.bool (decide (s = t))) := by
  simp only [binS]; by_cases h : s = t <;> simp [h]
@[simp] theorem bin_sneq : binS isB .neq (.str s) (.str t) = some (.bool (!decide (s = t))) := by
  simp only [binS]; by_cases h : s = t <;> simp [h]
@[simp] theorem bin_agg (xs ys : List V) : binS isB .eql (.agg xs) (.agg ys) = (eqAgg isB xs ys).map .bool := rfl
@[simp] theorem bin_nagg (xs ys : List V) : binS isB .neq (.agg xs) (.agg ys) = (eqAgg isB xs ys).map (fun r => .bool (!r)) := rfl
@[simp] theorem eqAgg_10 (ks : List Nat) (xs ys : List V) : eqAgg (10 :: ks) xs ys = eqCells ks xs ys := rfl
@[simp] theorem bin_ref (o : Oid) (off : Nat) : binS [3] .eql (.ref o off) .nilp = some (.bool false) := rfl
@[simp] theorem bin_nref (o : Oid) (off : Nat) : binS [3] .neq (.ref o off) .nilp = some (.bool true) := rfl
@[simp] theorem bin_nilp : binS [3] .eql .nilp .nilp = some (.bool true) := rfl
@[simp] theorem bin_nnilp : binS [3] .neq .nilp .nilp = some (.bool false) := rfl
@[simp] theorem eqCells_nil : eqCells [] [] [] = some true := rfl
@[simp] theorem eqCells_cons (n : Nat) (ks : List Nat) (u v : V) (xs ys : List V) : eqCells (n :: ks) (u :: xs) (v :: ys) = (eq1 n u v).bind fun r => (eqCells ks xs ys).map (r && ·) := by
  simp only [eqCells]
  cases eq1 n u v <;> cases eqCells ks xs ys <;> rfl
@[simp] theorem eq1_int : eq1 2 (.int k a) (.int k b) = some (decide (a = b)) := by simp [eq1]; rfl
@[simp] theorem eq1_str : eq1 4 (.str s) (.str t) = some (decide (s = t)) := by simp only [eq1]; congr 1; exact Bool.eq_iff_iff.2 (by simp)
@[simp] theorem eq1_bool : eq1 1 (.bool x) (.bool y) = some (x == y) := rfl
@[simp] theorem bin_slss : binS isB .lss (.str s) (.str t) = some (.bool (Op.bytesLess s t)) := rfl
@[simp] theorem bin_beql : binS [1] .eql (.bool x) (.bool y) = some (.bool (x == y)) := rfl
@[simp] theorem bin_bneq : binS [1] .neq (.bool x) (.bool y) = some (.bool (!(x == y))) := rfl
@[simp] theorem un_not : unS .not (.bool x) = some (.bool !x) := rfl
@[simp] theorem un_neg : unS .neg (.int k a) = some (.int k (k.wrap (0 - a))) := rfl
end
@[simp ↓] theorem look_hit (t : Nat) (v : V) (r : List (Nat × V)) : look t ((t, v) :: r) = v := by simp [look]
@[simp ↓] theorem look_miss (t u : Nat) (v : V) (r : List (Nat × V)) (h : (u == t) = false) : look t ((u, v) :: r) = look t r := by simp at h; simp [look, h]
@[simp] theorem look_nil (t : Nat) : look t [] = .any := rfl
@[simp ↓] theorem lookO_hit (t : Oid) (v : Ob) (r : List (Oid × Ob)) : lookO t ((t, v) :: r) = some v := by simp [lookO]
@[simp ↓] theorem lookO_ll (t u : Nat) (v : Ob) (r : List (Oid × Ob)) (h : (u == t) = false) : lookO (.loc t) ((.loc u, v) :: r) = lookO (.loc t) r := by simp at h; simp [lookO, h]
@[simp ↓] theorem lookO_pp (t u : Nat) (v : Ob) (r : List (Oid × Ob)) (h : (u == t) = false) : lookO (.par t) ((.par u, v) :: r) = lookO (.par t) r := by simp at h; simp [lookO, h]
@[simp ↓] theorem lookO_lp (t u : Nat) (v : Ob) (r : List (Oid × Ob)) : lookO (.loc t) ((.par u, v) :: r) = lookO (.loc t) r := by simp [lookO]
@[simp ↓] theorem lookO_pl (t u : Nat) (v : Ob) (r : List (Oid × Ob)) : lookO (.par t) ((.loc u, v) :: r) = lookO (.par t) r := by simp [lookO]
@[simp] theorem lookO_nil (t : Oid) : lookO t [] = none := rfl
attribute [simp] Rd.run Rd.bind St.tm St.ob St.put St.putO St.app out
  sliceA bndS getObs dedup place toPar ofPar keep restrict callS setAll buildS getA Ob.ren Ob.refs initSt argsFrom parObs parObsFrom
  resS resL parsOf parOnly Wr.wh Src.val Src.rds back Rd.reads
/-- The byte, the element at a place. -/
def byteAt (s : List UInt8) (n : Nat) : UInt8 := s.getD n 0
def nth {α : Type} [Inhabited α] (l : List α) (n : Nat) : α := l.getD n default
@[simp] theorem idxB_nat {s : List UInt8} {n : Nat} (h : n < s.length) : idxB s (n : Int) = some (byteAt s n) := by
  simp [idxB, h, byteAt]
@[simp] theorem idxB_0 {s : List UInt8} (h : 0 < s.length) : idxB s 0 = some (byteAt s 0) := idxB_nat (n := 0) h
@[simp] theorem idx_map {α : Type} [Inhabited α] {l : List α} {f : α → V} {n : Nat} (h : n < l.length) : idx (l.map f) (n : Int) = some (f (nth l n)) := by
  simp [idx, h, nth]
@[simp] theorem idx_map0 {α : Type} [Inhabited α] {l : List α} {f : α → V} (h : 0 < l.length) : idx (l.map f) 0 = some (f (nth l 0)) := idx_map (n := 0) h
@[simp] theorem brP_same (p A : Prop) : brP p A A = A := by by_cases h : p <;> simp [brP, h]
theorem wrapN {n : Int} {m : Nat} (h : n = m) (hm : m < 9223372036854775808) : IntKind.wrap .i64 n = m := by
  subst h
  simp only [IntKind.wrap, IntKind.bits, IntKind.signed]
  simp
  omega
section
variable (d : Option Nat) (st : St)
theorem reads_bind {α β : Type} (x : Rd α) (f : α → Rd β) : (x.bind f).reads st = x.reads st ++ (match x.run st with | some a => (f a).reads st | none => []) := by
  induction x with
  | ret a => rfl
  | fail => rfl
  | tm t k ih => simp only [Rd.bind, Rd.reads, Rd.run, ih, List.cons_append]
  | ob o k ih => simp only [Rd.bind, Rd.reads, Rd.run, ih, List.cons_append]
theorem reads_ret {α : Type} (a : α) : (Rd.ret a).reads st = [] := rfl
theorem reads_fail {α : Type} : (Rd.fail : Rd α).reads st = [] := rfl
theorem reads_ws (k : AK) (h : k.notCall = true) : (evA d k).reads st = (evS d k).reads st := by
  rw [evA_not h, bind_rd, reads_bind]
  cases (evS d k).run st with
  | none => simp
  | some x => cases x; simp [Rd.reads]
theorem reads_rOpt {α β : Type} (x : Option α) (f : α → Rd β) (h : ∀ a, (f a).reads st = []) : ((rOpt x).bind f).reads st = [] := by cases x <;> simp [rOpt, Rd.bind, Rd.reads, h]
theorem reads_srcs : ∀ l : List Src, (srcs l).reads st = l.flatMap Src.rds
  | [] => rfl
  | x :: r => by
    simp only [srcs, bind_rd, pure_rd, reads_bind, reads_srcs r, List.flatMap_cons, run_srcs]
    cases x <;> simp [Rd.reads, Src.rd, Src.rds, Rd.run]
@[simp] theorem reads_mv (e : Option Nat) (x : Src) : (evA d (.mv e x)).reads st = x.rds := by cases x <;> rfl
@[simp] theorem reads_mvS (e : Option Nat) (x : Src) : (evA d (.mvS e x)).reads st = x.rds := by cases x <;> rfl
@[simp] theorem reads_pick (c : Bool) (x a b : Src) (h : x.val st = .bool c) : (evA d (.pick x a b)).reads st = x.rds ++ (a.rds ++ b.rds) := by
  rw [reads_ws _ _ _ rfl]; simp only [evS, bind_rd, reads_rd, h, pure_rd, Rd.reads, List.append_nil]
@[simp] theorem reads_alloc (t : Nat) (z : List V) : (evA (some t) (.alloc z)).reads st = [.o (.loc t)] := by
  rw [reads_ws _ _ _ rfl]; simp only [evS, Rd.reads]; cases st.ob (.loc t) <;> rfl
@[simp] theorem reads_box (t n : Nat) (x : Src) : (evA (some t) (.box n x)).reads st = x.rds ++ [.o (.loc t)] := by
  rw [reads_ws _ _ _ rfl]; simp only [evS, bind_rd, reads_rd, Rd.reads]
  cases st.ob (.loc t) with
  | none => simp only; split <;> rfl
  | some _ => rfl
@[simp] theorem reads_build (flds : List (Nat × Nat)) (zero : List V) (is : List Nat) (xs : List Src) : (evA d (.build flds zero is xs)).reads st = xs.flatMap Src.rds := by
  rw [reads_ws _ _ _ rfl]; simp only [evS, bind_rd, reads_bind, reads_srcs, run_srcs]
  cases buildS flds zero (is.zip (xs.map (Src.val st))) <;> simp [rOpt, Rd.reads, Rd.run]
@[simp] theorem reads_buildSl (sz : Nat) (xs : List Src) : (evA d (.buildSl sz xs)).reads st = xs.flatMap Src.rds := by
  rw [reads_ws _ _ _ rfl]; simp only [evS, bind_rd, reads_bind, reads_srcs, run_srcs]
  split <;> simp [Rd.reads]
def obOf : V → List Wh
  | .ref u _ => [.o u]
  | _ => []
@[simp] theorem obOf_ref (u : Oid) (off : Nat) : obOf (.ref u off) = [.o u] := rfl
@[simp] theorem obOf_eptr (cs : List V) (off : Nat) : obOf (.eptr cs off) = [] := rfl
@[simp] theorem reads_load (agg : Option Nat) (s : Bool) (a : Src) : (evA d (.load agg s a)).reads st = a.rds ++ obOf (a.val st) := by
  rw [reads_ws _ _ _ rfl]; simp only [evS, bind_rd, reads_rd]
  cases a.val st <;> simp only [obOf, Rd.reads]
  · rename_i u off
    cases st.ob u with
    | none => rfl
    | some x => cases x with
      | cells cs => rw [reads_rOpt]; intro v; split <;> rfl
  · rw [reads_rOpt]; intro v; rfl
@[simp] theorem reads_store (n : Nat) (e : Option Nat) (a x : Src) : (evA d (.store n e a x)).reads st = a.rds ++ (x.rds ++ obOf (a.val st)) := by
  rw [reads_ws _ _ _ rfl]; simp only [evS, bind_rd, reads_rd]
  cases a.val st <;> simp only [obOf, Rd.reads]
  rename_i u off
  cases st.ob u with
  | none => rfl
  | some x => cases x with
    | cells cs => simp only; split <;> rfl
@[simp] theorem reads_nilc (x : Src) : (evA d (.nilc x)).reads st = x.rds := by
  rw [reads_ws _ _ _ rfl]; simp only [evS, bind_rd, reads_rd]
  cases x.val st <;> simp [Rd.reads]
@[simp] theorem reads_bin (isB : List Nat) (op : BinOp) (x y : Src) : (evA d (.bin isB op x y)).reads st = x.rds ++ y.rds := by
  rw [reads_ws _ _ _ rfl]; simp only [evS, bind_rd, reads_rd]
  rw [reads_rOpt]; simp; intro v; rfl
@[simp] theorem reads_un (op : UnOp) (x : Src) : (evA d (.un op x)).reads st = x.rds := by
  rw [reads_ws _ _ _ rfl]; simp only [evS, bind_rd, reads_rd]
  rw [reads_rOpt]; simp; intro v; rfl
def Src.rdO : Option Src → List Wh
  | none => []
  | some x => x.rds
@[simp] theorem rdO_none : Src.rdO none = [] := rfl
@[simp] theorem rdO_some (x : Src) : Src.rdO (some x) = x.rds := rfl
@[simp] theorem reads_slc (isStr : Bool) (sz : Option Nat) (x : Src) (lo hi : Option Src) : (evA d (.slc isStr sz x lo hi)).reads st = x.rds ++ (Src.rdO lo ++ Src.rdO hi) := by
  rw [reads_ws _ _ _ rfl]; cases lo <;> cases hi <;> simp only [evS, bind_rd, pure_rd, reads_rd, srcO, Src.rdO, Rd.bind, Rd.bind_assoc] <;>
    (rw [reads_rOpt] <;> first | (intro v; rfl) | simp)
@[simp] theorem reads_fa (off : Nat) (x : Src) : (evA d (.fa off x)).reads st = x.rds := by
  rw [reads_ws _ _ _ rfl]; simp only [evS, bind_rd, reads_rd]
  cases x.val st <;> simp [Rd.reads]
@[simp] theorem reads_ia (sz : Nat) (x i : Src) : (evA d (.ia sz x i)).reads st = x.rds ++ i.rds := by
  rw [reads_ws _ _ _ rfl]; simp only [evS, bind_rd, reads_rd]
  cases (x.val st).elems with
  | none => simp [Rd.reads]
  | some p =>
    obtain ⟨s, xs⟩ := p
    cases i.val st <;> simp only [Rd.reads, List.append_nil]
    rw [reads_rOpt]; simp; intro v; split <;> rfl
@[simp] theorem reads_ix (x i : Src) : (evA d (.ix x i)).reads st = x.rds ++ i.rds := by
  rw [reads_ws _ _ _ rfl]; simp only [evS, bind_rd, reads_rd]
  cases x.val st <;> cases i.val st <;> simp only [Rd.reads, List.append_nil]
  rw [reads_rOpt]; simp; intro v; rfl
@[simp] theorem reads_ext (x : Src) (i : Nat) : (evA d (.ext x i)).reads st = x.rds := by
  rw [reads_ws _ _ _ rfl]; simp only [evS, bind_rd, reads_rd]
  cases x.val st <;> simp only [Rd.reads, List.append_nil]
  rw [reads_rOpt]; simp; intro v; rfl
@[simp] theorem reads_lenStr (x : Src) : (evA d (.lenStr x)).reads st = x.rds := by
  rw [reads_ws _ _ _ rfl]; simp only [evS, bind_rd, reads_rd]
  cases x.val st <;> simp [Rd.reads]
@[simp] theorem reads_lenSl (x : Src) : (evA d (.lenSl x)).reads st = x.rds := by
  rw [reads_ws _ _ _ rfl]; simp only [evS, bind_rd, reads_rd]
  cases x.val st <;> simp [Rd.reads, V.elems, rOpt, Rd.bind]
@[simp] theorem reads_app (sz bytes : Nat) (x y : Src) : (evA d (.app sz bytes x y)).reads st = x.rds ++ y.rds := by
  rw [reads_ws _ _ _ rfl]; simp only [evS, bind_rd, reads_rd]
  cases fixE (some sz) (x.val st) <;> simp only [Rd.reads, List.append_nil]
  rw [reads_rOpt]; simp; intro v; split <;> rfl
def callD (n : Nat) (st : St) (vs : List V) : V → List Wh
  | .fn f => if vs.length = n then (callS f vs d).reads st else []
  | .clo f first caps => if vs.length = n then (callS f (first ++ vs ++ caps) d).reads st else []
  | _ => []
@[simp] theorem reads_call (es : List (Option Nat)) (f : Src) (xs : List Src) : (evA d (.call es f xs)).reads st = f.rds ++ (xs.flatMap Src.rds ++ callD d xs.length st ((xs.map (Src.val st)).zipWith (fun v e => fixE e v) es) (f.val st)) := by
  simp only [evA, bind_rd, reads_rd]
  rw [reads_bind, reads_srcs, run_srcs]
  simp only
  congr 2
  cases hf : f.val st <;> simp only [callD] <;> split <;> rfl
@[simp] theorem callD_fn (n : Nat) (vs : List V) (f : FuncId) : callD d n st vs (.fn f) = if vs.length = n then (callS f vs d).reads st else [] := rfl
@[simp] theorem callD_clo (n : Nat) (vs : List V) (f : FuncId) (first caps : List V) : callD d n st vs (.clo f first caps) = if vs.length = n then (callS f (first ++ vs ++ caps) d).reads st else [] := rfl
end
section
variable (C : Orc) (h : Hint) (n : Nat) (ps : List (Nat × Nat)) (d : Option Nat) (k : AK) (r : List AO) (st : St) (fs : List Foot) (Q : St → Prop)
@[simp] theorem runB_nil : runB C h n ps [] st fs Q = FinD h fs n ps Q st := by rw [runB]
@[simp] theorem runB_none : runB C h n ps (⟨none, d, k⟩ :: r) st fs Q = resB C h n ps r st fs Q ((evA d k).reads st) ((evA d k).run st) := by rw [runB]
@[simp] theorem resB_ws (rs : List Wh) (l : List Wr) : resB C h n ps r st fs Q rs (some (.ws l)) = runB C h n ps r (st.app l) (fs ++ [⟨rs, l.map Wr.wh⟩]) Q := by rw [resB]
@[simp] theorem resB_call (rs : List Wh) (f : FuncId) (args : List V) (ids : List Oid) (objs : List Ob) (dd : Option Nat) : resB C h n ps r st fs Q rs (some (.call f args ids objs dd)) =
    CallA C f args objs fun v os => runB C h n ps r (st.app (back ids dd v os)) (fs ++ [⟨rs, (back ids dd v os).map Wr.wh⟩]) Q := by rw [resB]
def brH (v : V) (t : Nat) (b : Bool) : Prop := brV v b (resB C h n ps r st fs Q (.t t :: (evA d k).reads st) ((evA d k).run st)) (runB C h n ps r (st.app (out d (.tup []))) (fs ++ [⟨[.t t], (out d (.tup [])).map Wr.wh⟩]) Q)
@[simp] theorem runB_some (t : Nat) (b : Bool) : runB C h n ps (⟨some (t, b), d, k⟩ :: r) st fs Q = brH C h n ps d k r st fs Q (st.tm t) t b := by rw [runB, brH]
@[simp] theorem brH_tup (t : Nat) (b : Bool) : brH C h n ps d k r st fs Q (.tup []) t b = runB C h n ps r (st.app (out d (.tup []))) (fs ++ [⟨[.t t], (out d (.tup [])).map Wr.wh⟩]) Q := rfl
@[simp high] theorem brH_tt (t : Nat) : brH C h n ps d k r st fs Q (.bool true) t true = resB C h n ps r st fs Q (.t t :: (evA d k).reads st) ((evA d k).run st) := by simp [brH, brV]
@[simp high] theorem brH_ff (t : Nat) : brH C h n ps d k r st fs Q (.bool false) t false = resB C h n ps r st fs Q (.t t :: (evA d k).reads st) ((evA d k).run st) := by simp [brH, brV]
@[simp high] theorem brH_tf (t : Nat) : brH C h n ps d k r st fs Q (.bool true) t false = runB C h n ps r (st.app (out d (.tup []))) (fs ++ [⟨[.t t], (out d (.tup [])).map Wr.wh⟩]) Q := by simp [brH, brV]
@[simp high] theorem brH_ft (t : Nat) : brH C h n ps d k r st fs Q (.bool false) t true = runB C h n ps r (st.app (out d (.tup []))) (fs ++ [⟨[.t t], (out d (.tup [])).map Wr.wh⟩]) Q := by simp [brH, brV]
@[simp low] theorem brH_t (t : Nat) (x : Bool) : brH C h n ps d k r st fs Q (.bool x) t true =
    br (id x) (resB C h n ps r st fs Q (.t t :: (evA d k).reads st) ((evA d k).run st)) (runB C h n ps r (st.app (out d (.tup []))) (fs ++ [⟨[.t t], (out d (.tup [])).map Wr.wh⟩]) Q) := rfl
@[simp low] theorem brH_f (t : Nat) (x : Bool) : brH C h n ps d k r st fs Q (.bool x) t false =
    br (id x) (runB C h n ps r (st.app (out d (.tup []))) (fs ++ [⟨[.t t], (out d (.tup [])).map Wr.wh⟩]) Q) (resB C h n ps r st fs Q (.t t :: (evA d k).reads st) ((evA d k).run st)) := rfl
@[simp] theorem brH_tp (t : Nat) (x : Prop) [Decidable x] : brH C h n ps d k r st fs Q (.bool (decide x)) t true =
    brP (id x) (resB C h n ps r st fs Q (.t t :: (evA d k).reads st) ((evA d k).run st)) (runB C h n ps r (st.app (out d (.tup []))) (fs ++ [⟨[.t t], (out d (.tup [])).map Wr.wh⟩]) Q) := br_decide _ _ _
@[simp] theorem brH_fp (t : Nat) (x : Prop) [Decidable x] : brH C h n ps d k r st fs Q (.bool (decide x)) t false =
    brP (id x) (runB C h n ps r (st.app (out d (.tup []))) (fs ++ [⟨[.t t], (out d (.tup [])).map Wr.wh⟩]) Q) (resB C h n ps r st fs Q (.t t :: (evA d k).reads st) ((evA d k).run st)) := br_decide _ _ _
variable {h n ps st fs Q}
theorem finD (h1 : (decide (fs.length = n) && ps.all fun p => !((fs.getD p.1 ⟨[], []⟩).clash (fs.getD p.2 ⟨[], []⟩))) = true) (h3 : Fin Q (restrict h st)) : FinD h fs n ps Q st := by
  simp only [Bool.and_eq_true, decide_eq_true_eq] at h1
  exact ⟨h1, h3⟩
end
attribute [simp] getS_eq resV
@[simp] theorem agg_t (a b : Nat) (c : List V) (d : Option (Nat × Nat)) (e : List (Nat × Nat)) (f : Bool) (g : List Nat) : aggOf ⟨a, b, true, c, d, e, f, g⟩ = some a := rfl
@[simp] theorem agg_f (a b : Nat) (c : List V) (d : Option (Nat × Nat)) (e : List (Nat × Nat)) (f : Bool) (g : List Nat) : aggOf ⟨a, b, false, c, d, e, f, g⟩ = none := rfl
/-! #### the code, part by part -/
section
variable {C : Orc} {a b : AC} {st : St} {Q : X → St → Prop}
theorem c_reg {l : List Nat} {o : List Oid} {ops : List AO} (h : ∀ K : St → Prop, (∀ st, Q .normal st → K st) → runA C ⟨l, o⟩ ops st K) : acwp C (.reg l o ops) st Q := h _ fun _ h => h
theorem c_regD {l : List Nat} {o : List Oid} {ps : List (Nat × Nat)} {ops : List AO} (h : ∀ K : St → Prop, (∀ st, Q .normal st → K st) → runB C ⟨l, o⟩ ops.length ps ops st [] K) : acwp C (.regD l o ps ops) st Q := h _ fun _ h => h
theorem s_reg {l : List Nat} {o : List Oid} {ops : List AO} (h : ∀ K : St → Prop, (∀ st, acwp C b st Q → K st) → runA C ⟨l, o⟩ ops st K) : acwp C (.seq (.reg l o ops) b) st Q := h _ fun _ h => h
theorem s_regD {l : List Nat} {o : List Oid} {ps : List (Nat × Nat)} {ops : List AO} (h : ∀ K : St → Prop, (∀ st, acwp C b st Q → K st) → runB C ⟨l, o⟩ ops.length ps ops st [] K) : acwp C (.seq (.regD l o ps ops) b) st Q := h _ fun _ h => h
theorem s_skip (h : acwp C b st Q) : acwp C (.seq .skip b) st Q := h
theorem s_seq {c : AC} (h : acwp C (.seq a (.seq c b)) st Q) : acwp C (.seq (.seq a c) b) st Q := by
  have e : nextA (fun st => acwp C c st (nextA (fun st => acwp C b st Q) Q)) Q = nextA (fun st => acwp C c st (nextA (fun st => acwp C b st Q) Q)) (nextA (fun st => acwp C b st Q) Q) := by
    funext e s; cases e <;> rfl
  simp only [acwp] at h ⊢
  rw [← e]
  exact h
theorem c_skip (h : Q .normal st) : acwp C .skip st Q := h
theorem c_ret (h : Q .ret st) : acwp C .ret st Q := h
theorem c_exit {i : Nat} (h : Q (.exit i) st) : acwp C (.exit i) st Q := h
theorem s_ret (h : Q .ret st) : acwp C (.seq .ret b) st Q := h
theorem s_exit {i : Nat} (h : Q (.exit i) st) : acwp C (.seq (.exit i) b) st Q := h
theorem c_seq (h : acwp C a st (nextA (fun st => acwp C b st Q) Q)) : acwp C (.seq a b) st Q := h
theorem c_cond {x : Src} {t : Bool} (hx : x.val st = .bool t) (h1 : t = true → acwp C a st Q) (h2 : t = false → acwp C b st Q) : acwp C (.cond x a b) st Q := by
  simp only [acwp, hx, condV]; exact ⟨h1, h2⟩
theorem s_cond {x : Src} {c : AC} {t : Bool} (hx : x.val st = .bool t) (h1 : t = true → acwp C (.seq a c) st Q) (h2 : t = false → acwp C (.seq b c) st Q) : acwp C (.seq (.cond x a b) c) st Q := by
  simp only [acwp, hx, condV]; exact ⟨h1, h2⟩
theorem c_block {i : Nat} (h : acwp C a st (leaveA i Q)) : acwp C (.block i a) st Q := h
theorem s_block {i : Nat} (h : acwp C a st (leaveA i (nextA (fun st => acwp C b st Q) Q))) : acwp C (.seq (.block i a) b) st Q := h
theorem leave_n {i : Nat} (h : Q .normal st) : leaveA i Q .normal st := h
theorem leave_r {i : Nat} (h : Q .ret st) : leaveA i Q .ret st := h
theorem next_n {K : St → Prop} (h : K st) : nextA K Q .normal st := h
theorem next_r {K : St → Prop} (h : Q .ret st) : nextA K Q .ret st := h
theorem next_e {K : St → Prop} {i : Nat} (h : Q (.exit i) st) : nextA K Q (.exit i) st := h
theorem leave_eq {i : Nat} (h : Q .normal st) : leaveA i Q (.exit i) st := by simp only [leaveA, if_true]; exact h
theorem leave_ne {i j : Nat} (hn : j ≠ i) (h : Q (.exit j) st) : leaveA i Q (.exit j) st := by simp only [leaveA, if_neg hn]; exact h
end
/-- A loop by a measure. -/
theorem c_loopI {C : Orc} {a : AC} {st : St} {Q : X → St → Prop} {l : List Nat} {o : List Oid} {α : Type} (S : α → St) (I : α → Prop) (m : α → Nat) (x : α) (h0 : restrict ⟨l, o⟩ st = S x) (hI : I x)
    (hb : ∀ x K, I x → (∀ st y, restrict ⟨l, o⟩ st = S y → I y → m y < m x → K .normal st) → (∀ e st, e ≠ .normal → Q e st → K e st) → acwp C a (S x) K) : acwp C (.loop l o a) st Q := by
  have key : ∀ k x st, m x < k → restrict ⟨l, o⟩ st = S x → I x → ∀ n, k ≤ n → iter (fun st Q => acwp C a (restrict ⟨l, o⟩ st) Q) Q n st := by
    intro k
    induction k with
    | zero => intro x st h; omega
    | succ k ih =>
      intro x st hlt hs hx n hn
      obtain ⟨n, rfl⟩ : ∃ p, n = p + 1 := ⟨n - 1, by omega⟩
      simp only [iter]
      rw [hs]
      refine hb x _ hx (fun st y hs hy hlt' => ih y st (by omega) hs hy n (by omega)) (fun e st he hq => ?_)
      cases e with
      | normal => exact absurd rfl he
      | ret => exact hq
      | exit id => exact hq
  exact ⟨m x + 1, key (m x + 1) x st (by omega) h0 hI _ (Nat.le_refl _)⟩
theorem iter_of {α : Type} (S : α → St) (I : α → Prop) (m : α → Nat) {body : St → (X → St → Prop) → Prop} {Q : X → St → Prop}
    (hb : ∀ x K, I x → (∀ y, I y → m y < m x → K .normal (S y)) → (∀ e st, e ≠ .normal → Q e st → K e st) → body (S x) K) :
    ∀ x, I x → ∃ n, iter body Q n (S x) := by
  intro x hx
  have key : ∀ k x, m x < k → I x → ∀ n, k ≤ n → iter body Q n (S x) := by
    intro k
    induction k with
    | zero => intro x h; omega
    | succ k ih =>
      intro x hlt hx n hn
      obtain ⟨n, rfl⟩ : ∃ p, n = p + 1 := ⟨n - 1, by omega⟩
      simp only [iter]
      refine hb x _ hx (fun y hy hlt' => ih y (by omega) hy n (by omega)) (fun e st he hq => ?_)
      cases e with
      | normal => exact absurd rfl he
      | ret => exact hq
      | exit id => exact hq
  exact ⟨m x + 1, key (m x + 1) x (by omega) hx _ (Nat.le_refl _)⟩
end Go.Ax
