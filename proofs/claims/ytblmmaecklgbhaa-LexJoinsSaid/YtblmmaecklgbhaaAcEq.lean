/- A part of the proof of a law of this seat: no condition. -/
import Derived.Test.YtblmmaecklgbhaaAcCode
set_option linter.unusedVariables false
set_option linter.unusedSimpArgs false
namespace Go.Ax
theorem rdb {α β : Type} (x : Rd α) (f : α → Rd β) : (x >>= f) = x.bind f := rfl
theorem rdp {α : Type} (a : α) : (pure a : Rd α) = .ret a := rfl
theorem rdr {α β : Type} (a : α) (f : α → Rd β) : (Rd.ret a).bind f = f a := rfl
theorem rdf {α β : Type} (f : α → Rd β) : (Rd.fail : Rd α).bind f = .fail := rfl
theorem cOs_head {l : List Operand} {xs : List Src} (h : cOs l = some xs) (v : V) : giveUp (l.headD (.global 0)) v = giveA (xs.headD (.v .any)) v := by
  cases l with
  | nil => simp [cOs] at h; subst h; rfl
  | cons a r =>
    simp only [cOs, Option.bind_eq_bind, Option.bind_eq_some_iff] at h
    obtain ⟨a', g1, l', g2, g3⟩ := h
    simp at g3
    subst g3
    exact cO_give g1 v
theorem cOs_len {l : List Operand} {xs : List Src} (h : cOs l = some xs) : xs.length = l.length := by
  induction l generalizing xs with
  | nil => simp [cOs] at h; subst h; rfl
  | cons a r ih =>
    simp only [cOs, Option.bind_eq_bind, Option.bind_eq_some_iff] at h
    obtain ⟨a', g1, l', g2, g3⟩ := h
    simp at g3
    subst g3
    simp [ih g2]
theorem cS_eq {T : Nat → Option TI} {M : Mode} {o : Oper} {k : AK} (h : cS T M o = some k) : opS T M o = evS o.dst k := by
  obtain ⟨dst, op, type, pos, after, guard⟩ := o
  cases op <;> simp only [cS, Option.bind_eq_bind, Option.bind_eq_some_iff] at h <;> try (simp at h; done)
  case move x =>
    obtain ⟨s, h1, h⟩ := h
    split at h
    · rename_i hs
      injection h with h; subst h
      simp only [opS, evS, cO_eq h1, fixT_eq, hs, cO_give h1, if_true]
    · rename_i hs
      injection h with h; subst h
      simp only [opS, evS, cO_eq h1, fixT_eq, hs, if_false]
      rfl
  case assign x =>
    obtain ⟨s, h1, h⟩ := h
    injection h with h; subst h
    simp only [opS, evS, cO_eq h1, fixT_eq, cO_give h1]
  case pick c a b =>
    obtain ⟨c', h1, a', h2, b', h3, h⟩ := h
    injection h with h; subst h
    simp only [opS, evS, cO_eq h1, cO_eq h2, cO_eq h3, mrg, cond_eq_ite]
    congr 1
  case alloc e =>
    obtain ⟨ti, h1, h⟩ := h
    injection h with h; subst h
    simp only [opS, evS, h1, rOpt, rdb, rdr]
    cases dst <;> rfl
  case box e x =>
    obtain ⟨ti, h1, s, h2, h⟩ := h
    injection h with h; subst h
    simp only [opS, evS, h1, rOpt, rdb, rdr, cO_eq h2]
    cases dst <;> rfl
  case build t parts =>
    obtain ⟨ti, h1, xs, h2, h⟩ := h
    split at h
    · simp at h
    · rename_i hs
      injection h with h; subst h
      simp at hs
      simp only [opS, evS, h1, rOpt, rdb, rdr, cOs_eq h2]
      simp [hs]
  case buildSlice t len parts =>
    obtain ⟨ti, h1, xs, h2, ⟨sz, b⟩, h3, h⟩ := h
    split at h
    · rename_i hs
      split at h
      · rename_i hm
        injection h with h; subst h
        have hl : xs.length = len := by
          have e1 := cOs_len h2
          have e2 := congrArg List.length hs.1
          simp at e1 e2
          omega
        simp only [opS, evS, h1, rOpt, rdb, rdr, cOs_eq h2, h3, hm, if_true, cOs_head h2, hl]
        cases dst with
        | none => simp at hm
        | some d => simp only [hs.1, hs.2, true_and]
      · rename_i hm
        injection h with h; subst h
        simp only [opS, evS, h1, rOpt, rdb, rdr, cOs_eq h2, h3, hm, hs.1, hs.2, true_and]
        rfl
    · simp at h
  case load t a =>
    obtain ⟨ti, h1, s, h2, h⟩ := h
    injection h with h; subst h
    simp only [opS, evS, h1, rOpt, rdb, rdr, cO_eq h2, getS_eq]
    rfl
  case store t a x =>
    obtain ⟨ti, h1, s, h2, y, h3, h⟩ := h
    injection h with h; subst h
    simp only [opS, evS, h1, rOpt, rdb, rdr, cO_eq h2, cO_eq h3, fixT_eq, cO_give h3]
    rfl
  case nilCheck x =>
    obtain ⟨s, h2, h⟩ := h
    injection h with h; subst h
    simp only [opS, evS, cO_eq h2]
    try rfl
  case binOp op t x y u =>
    obtain ⟨ti, h1, s, h2, y, h3, h⟩ := h
    injection h with h; subst h
    simp only [opS, evS, h1, rOpt, rdb, rdr, cO_eq h2, cO_eq h3]
  case unOp op t x =>
    obtain ⟨s, h2, h⟩ := h
    injection h with h; subst h
    simp only [opS, evS, cO_eq h2]
  case slice t x lo hi m =>
    cases m with
    | some m => simp at h
    | none =>
      simp only [Option.bind_eq_some_iff] at h
      obtain ⟨ti, h1, s, h2, l, h3, u, h4, h⟩ := h
      injection h with h; subst h
      simp only [opS, evS, h1, rOpt, rdb, rdr, cO_eq h2, cOO_eq h3, cOO_eq h4, sliceS_eq, cO_give h2]
      try rfl
  case fieldAddr t x f =>
    obtain ⟨ti, h1, s, h2, ⟨p, q⟩, h3, h⟩ := h
    injection h with h; subst h
    simp only [opS, evS, h1, rOpt, rdb, rdr, cO_eq h2, h3]
    try rfl
  case indexAddr t x i =>
    obtain ⟨ti, h1, s, h2, y, h3, h⟩ := h
    injection h with h; subst h
    simp only [opS, evS, h1, rOpt, rdb, rdr, cO_eq h2, cO_eq h3]
    try rfl
  case index t x i =>
    obtain ⟨ti, h1, s, h2, y, h3, h⟩ := h
    split at h
    · rename_i hs
      injection h with h; subst h
      simp only [opS, evS, h1, rOpt, rdb, rdr, cO_eq h2, cO_eq h3, hs, if_true]
      try rfl
    · simp at h
  case extract x i =>
    obtain ⟨s, h2, h⟩ := h
    injection h with h; subst h
    simp only [opS, evS, cO_eq h2]
    try rfl
  case call c =>
    obtain ⟨callee, args, argTypes⟩ := c
    rcases callee with f | ⟨r, m⟩ | b
    · simp at h
    · simp at h
    cases b <;> try (simp at h; done)
    case len =>
      simp only [Option.bind_eq_some_iff] at h
      obtain ⟨xs, h1, t, h2, ti, h3, h⟩ := h
      simp only [opS, evS, h2, h3, rOpt, rdb, rdr, cOs_eq h1]
      split at h
      · rename_i x
        split at h
        · rename_i hs
          split at h
          · rename_i hn
            injection h with h; subst h
            simp at hn
            simp only [srcs, hs, hn, if_true, evS, rdb, rdp]
            cases x with
            | t n => simp only [Src.rd, Rd.bind]; congr 1; funext v; cases v <;> simp [V.elems, Rd.bind, rOpt, hn]
            | v v => simp only [Src.rd, Rd.bind]; cases v <;> simp [V.elems, Rd.bind, rOpt, hn]
          · simp at h
        · rename_i hs
          split at h
          · rename_i hn
            injection h with h; subst h
            simp only [srcs, hs, hn, if_true, evS, rdb, rdp]
            cases x with
            | t n => simp only [Src.rd, Rd.bind]; congr 1; funext v; cases v <;> simp [V.elems, Rd.bind, rOpt]
            | v v => simp only [Src.rd, Rd.bind]; cases v <;> simp [V.elems, Rd.bind, rOpt]
          · simp at h
      · simp at h
    case append =>
      simp only [Option.bind_eq_some_iff] at h
      obtain ⟨xs, h1, t, h2, ti, h3, ⟨sz, by'⟩, h4, h⟩ := h
      simp only [opS, evS, h2, h3, h4, rOpt, rdb, rdr, cOs_eq h1]
      split at h
      · rename_i x y
        have hg : args.getD 0 (.global 0) = args.toList.headD (.global 0) := by
          cases args with | mk l => cases l <;> rfl
        have hx : ∀ v, giveUp (args.getD 0 (.global 0)) v = giveA x v := by
          intro v
          rw [hg]
          cases hl : args.toList with
          | nil => rw [hl] at h1; simp [cOs] at h1
          | cons a r =>
            rw [hl] at h1
            simp only [cOs, Option.bind_eq_bind, Option.bind_eq_some_iff] at h1
            obtain ⟨a', g1, l', g2, g3⟩ := h1
            simp at g3
            exact g3.1 ▸ cO_give g1 v
        have he : eOf (some ti) = some sz := by simp [eOf, h4]
        split at h
        · rename_i ha
          injection h with h; subst h
          have hsa : strArg T [t, t] = false := by simp [strArg]
          simp only [srcs, evS, rdb, rdp, fixT_eq, he, ha, hsa, Bool.false_eq_true, if_false, and_true, true_and, hx]
          rcases x with n | a <;> rcases y with n' | b <;> simp only [Src.rd, Rd.bind]
          · congr 1; funext a; congr 1; funext b
            simp only [List.map, fixT_eq, he]
            cases fixE (some sz) a <;> rfl
          · congr 1; funext a
            simp only [List.map, fixT_eq, he]
            cases fixE (some sz) a <;> rfl
          · congr 1; funext b
            simp only [List.map, fixT_eq, he]
            cases fixE (some sz) a <;> rfl
          · simp only [List.map, fixT_eq, he]
            cases fixE (some sz) a <;> rfl
        · split at h
          · rename_i hb
            injection h with h; subst h
            obtain ⟨b1, rfl, b3⟩ := hb
            simp only [srcs, evS, rdb, rdp, b1, if_true, appStr, fixT_eq, he, true_and, hx]
            rcases x with n | a <;> rcases y with n' | b <;> simp only [Src.rd, Rd.bind]
            · congr 1; funext a; congr 1; funext b
              simp only [List.map, fixT_eq, he]
              cases fixE (some 1) a <;> cases fixE (some 1) b <;> rfl
            · congr 1; funext a
              simp only [List.map, fixT_eq, he]
              cases fixE (some 1) a <;> cases fixE (some 1) b <;> rfl
            · congr 1; funext b
              simp only [List.map, fixT_eq, he]
              cases fixE (some 1) a <;> cases fixE (some 1) b <;> rfl
            · simp only [List.map, fixT_eq, he]
              cases fixE (some 1) a <;> cases fixE (some 1) b <;> rfl
          · simp at h
      · simp at h
    case clear =>
      simp only [Option.bind_eq_some_iff] at h
      obtain ⟨xs, h1, t, h2, ti, h3, h⟩ := h
      split at h
      · rename_i x
        injection h with h; subst h
        simp only [opS, evS, h2, h3, rOpt, rdb, rdr, cOs_eq h1, srcs, rdp]
        rcases x with n | a <;> simp only [Src.rd, Rd.bind]
        · congr 1; funext v; cases v <;> rfl
        · cases a <;> rfl
      · simp at h
    case min =>
      simp only [Option.bind_eq_some_iff] at h
      obtain ⟨xs, h1, h⟩ := h
      split at h
      · rename_i x y
        injection h with h; subst h
        simp only [opS, evS, rOpt, rdb, rdr, cOs_eq h1, srcs, rdp]
        rcases x with n | a <;> rcases y with m | b <;> simp only [Src.rd, Rd.bind]
        · congr 1; funext v; congr 1; funext u; cases v <;> cases u <;> rfl
        · congr 1; funext v; cases v <;> cases b <;> rfl
        · congr 1; funext u; cases a <;> cases u <;> rfl
        · cases a <;> cases b <;> rfl
      · simp at h
    case max =>
      simp only [Option.bind_eq_some_iff] at h
      obtain ⟨xs, h1, h⟩ := h
      split at h
      · rename_i x y
        injection h with h; subst h
        simp only [opS, evS, rOpt, rdb, rdr, cOs_eq h1, srcs, rdp]
        rcases x with n | a <;> rcases y with m | b <;> simp only [Src.rd, Rd.bind]
        · congr 1; funext v; congr 1; funext u; cases v <;> cases u <;> rfl
        · congr 1; funext v; cases v <;> cases b <;> rfl
        · congr 1; funext u; cases a <;> cases u <;> rfl
        · cases a <;> cases b <;> rfl
      · simp at h
    all_goals simp at h
  case convert src dst' x =>
    obtain ⟨ti, h1, tj, h2, s, h3, h⟩ := h
    injection h with h; subst h
    simp only [opS, evS, h1, h2, rOpt, rdb, rdr, cO_eq h3, Bool.and_eq_true, and_assoc]
    rfl
  case makeSlice t l c =>
    obtain ⟨ti, h1, s, h2, y, h3, ⟨sz, b⟩, h4, h⟩ := h
    split at h
    · rename_i hs
      injection h with h; subst h
      simp only [opS, evS, h1, rOpt, rdb, rdr, cO_eq h2, cO_eq h3, h4]
      rw [h4] at hs
      cases dst with
      | none => rfl
      | some d => simp only [hs.1, hs.2, and_true]; rfl
    · simp at h
  case mapUpdate t m k v =>
    obtain ⟨ti, h1, s, h2, y, h3, z, h4, p, h5, h⟩ := h
    injection h with h; subst h
    simp only [opS, mapPut, evS, h1, rOpt, rdb, rdr, cO_eq h2, cO_eq h3, cO_eq h4, h5]
    rfl
  case insert t m k v =>
    obtain ⟨ti, h1, s, h2, y, h3, z, h4, p, h5, h⟩ := h
    injection h with h; subst h
    simp only [opS, mapPut, evS, h1, rOpt, rdb, rdr, cO_eq h2, cO_eq h3, cO_eq h4, h5]
    rfl
  case mapEntry t m k =>
    obtain ⟨ti, h1, s, h2, y, h3, p, h5, h⟩ := h
    injection h with h; subst h
    simp only [opS, evS, h1, rOpt, rdb, rdr, cO_eq h2, cO_eq h3, h5]
    rfl
  case entryStore t m s v =>
    obtain ⟨s, h2, y, h3, z, h4, h⟩ := h
    injection h with h; subst h
    simp only [opS, evS, rdb, rdr, cO_eq h2, cO_eq h3, cO_eq h4]
    rfl
  case makeMap t r =>
    cases r with
    | none =>
      injection h with h; subst h
      simp only [opS, evS]
      try rfl
    | some r => simp at h
  case lookup t x k ok =>
    obtain ⟨ti, h1, s, h2, y, h3, p, h5, h⟩ := h
    injection h with h; subst h
    simp only [opS, evS, h1, rOpt, rdb, rdr, cO_eq h2, cO_eq h3, h5]
    rfl
end Go.Ax
