/- 'EufExplains' of suretylaw05 holds for every input: no condition. -/
import Derived.Test.YtjabgfnljbnmmaaDoorEB
import Derived.Test.YtjabgfnljbnmmaaDoorD9
import Derived.SevenTiedAt
import Derived.Test.YtjabgfnljbnmmaaDoorTie
import Derived.Test.YtjabgfnljbnmmaaDoorCards
import Derived.WalkKit
import Derived.ProofKit
import Derived.OpenShut
import Derived.ChangeOld
import Derived.Below
import Derived.SizedLaws
import Derived.Handed
import Derived.Stop.Joined
namespace Go.Proofs.YtjabgfnljbnmmaaDoor.eufExplains
open Go.ChangeShapes Go.WideShapes Go.ChangeAt Go.RowKit
open Go.Ax
set_option linter.unusedVariables false
theorem sorted_next {l : List Nat} (h : l.Pairwise (· < ·)) : ∀ j, j + 1 < l.length → nth l j < nth l (j + 1) := fun j hj => by
  have := List.pairwise_iff_getElem.1 h j (j + 1) (by omega) hj (by omega)
  rwa [getElem_nthN, getElem_nthN] at this
theorem law {K} (sc : List OpS) (a b : Int) (hf : ∀ o ∈ sc, o.f.length ≤ 140737488355328) : Ok (bs K) 3 [.slice 5 (sc.map opV), iV a, iV b] [] (.bool true) [] [] := by
  obtain ⟨G, hp, hP⟩ := played_ex (K := K) hf
  obtain ⟨c, k, hc1, hc2⟩ := hp.told
  by_cases h : isN G a ∧ isN G b
  · obtain ⟨x, rfl⟩ := Int.eq_ofNat_of_zero_le h.1.1
    obtain ⟨y, rfl⟩ := Int.eq_ofNat_of_zero_le h.2.1
    have hx : x < G.N.length := by have := h.1.2; omega
    have hy : y < G.N.length := by have := h.2.2; omega
    have hnm := hp.nm
    have hem := hp.em
    by_cases he : nth c x = nth c y
    · obtain ⟨l, l1, l2, l3, l4⟩ := hp.expl (B := bs K) (by omega) hx hy ((hc2.iff hx hy).1 he)
      have hnd : l.Nodup := l3.imp fun h => Nat.ne_of_lt h
      have hll := nodup_len G.E.length l hnd l2
      obtain ⟨ρ, H, hI⟩ := hp.ex
      have hEb : ∀ e ∈ l.map (nth G.E), e.1 < G.N.length ∧ e.2 < G.N.length := fun e he => by
        obtain ⟨i, hi, rfl⟩ := List.mem_map.1 he
        obtain ⟨g1, g2, _⟩ := hI.eb _ (nth_memE (l2 i hi))
        exact ⟨g1, g2⟩
      obtain ⟨d, k2, d1, d2⟩ := closed_ex (N := G.N) (E := l.map (nth G.E)) (fun u hu => (hI.nf u hu).2.2) hEb
      exact explains_ok awake_ok hP hx hy hc2.1.len d2.1.len l1 (hp.closed (by omega) hc1) he l2 (by omega) (sorted_next l3) (only_ok2 l2 (by omega))
        (closed_ok (by omega) hEb (by simp; omega) (fun i hi => ⟨by have := (hI.nf i hi).2.1; omega, fun a ha => Nat.lt_trans ((hI.nf i hi).2.2 a ha) hi⟩) d1) (d2.2 _ _ l4)
    · exact explains_apart awake_ok hP hx hy hc2.1.len (hp.apart hx hy fun e => he ((hc2.iff hx hy).2 e)) (hp.closed (by omega) hc1) he
  · exact explains_bad awake_ok hP rfl h
set_option maxRecDepth 100000 in
theorem lifted (os : Os) (started : os.Started) (H : Type) (enc : TypeId × Value → H) :
    ReturnsInHanded {} Tryd.checked os 3 .any (fun w args => (Rows.eufExplainsSpec.pre enc Tryd.prog Tryd.f3 Rows.eufExplainsRow.domain false w args ∧ laidMetH Tryd.prog laid3 w) ∧ sizedMet enc Tryd.prog Tryd.f3 (OpenSpec.ofChange Rows.eufExplainsSpec) false w args)
      (Rows.eufExplainsSpec.post enc Tryd.prog Tryd.f3 false true false false) := by
  refine returnsInHanded_of_change_and (C := Tryd.checked) (X := fun w _ => laidMetH Tryd.prog laid3 w) (fun _ _ _ hh h => h.of_heap hh) own started (by kernel_rfl) Tryd.func3
    (ChangeSpec.witness_shaped (enc := enc) (C := Tryd.checked) (os := os) (X := fun w _ => laidMetH Tryd.prog laid3 w) false (World.laidAll Tryd.prog os laid3) #[.slice none 0 0, .int .i64 0, .int .i64 0] 8 (World.laidAll_os _ _ _)
      (World.shaped_of_ZipB (by kernel_rfl) (by kernel_rfl)) (by kernel_rfl) (by kernel_rfl) (by kernel_rfl)
      (by rw [MakeChecks.laidMetH_plain _ _ _ (by kernel_rfl)]; exact laidMet_laidAll _ (by kernel_rfl) (by kernel_rfl))) ?_
  intro W base args ds gs before hval0 hW hc hsz hL _
  have hval : ∀ (j : Nat) t v, Tryd.f3.params[j]? = some t → args[j]? = some v → Value.okWide Tryd.prog W .any base t v := hval0
  have hW' := hW
  obtain ⟨p, q, hA0, hV, rfl, _, _⟩ := hW
  have hA : DataW.TrodAll enc Tryd.prog W 0 (fun _ => true) true Tryd.f3.params.toList args.toList ds p := hA0
  rw [Tryd.params3] at hA hval
  obtain ⟨v0, v1, v2, d0, d1, d2, p0, p1, p2, rfl, rfl, rfl, h0, h1, h2⟩ := trodAll_three hA
  obtain ⟨rfl, rfl⟩ := trodVars_none hV
  have hlt : ∀ x ∈ p0, x.block < W.heap.size := fun x hx => by simpa using hW'.lt x (by simp [hx])
  obtain ⟨sc, hf, hr0⟩ := open_ops (hval 0 22 v0 rfl rfl) h0 (fun n hn => by have := List.all_eq_true.1 hsz n (DataW.weights_mem_each (j := 0) rfl rfl n hn); simpa using this)
  obtain ⟨a1, rfl, rfl, rfl, w1⟩ := open_int Tryd.underlying3 (hval 1 3 v1 rfl rfl) h1
  obtain ⟨a2, rfl, rfl, rfl, w2⟩ := open_int Tryd.underlying3 (hval 2 3 v2 rfl rfl) h2
  obtain ⟨K, hK⟩ := base_of_laid hL
  refine (below_of W (law (K := K) sc a1 a2 hf) (vs := [v0, .int .i64 a1, .int .i64 a2]) (u := .bool true) ⟨rfl, fun j hj hj' => ?_⟩ (by simp [V.isOwn]) (fun H μ v hv => hv.bool) (fun b o v h => by cases h) (fun b => Nat.zero_le _) (base_ok hK)).mono fun e W' ⟨he, bel⟩ => ?_
  · match j, hj, hj' with
    | 0, _, _ => exact .two _ _ (.one _ _ (.data _ _ hr0))
    | 1, _, _ => exact .two _ _ (.one _ _ (.data _ _ (.int _ _)))
    | 2, _, _ => exact .two _ _ (.one _ _ (.data _ _ (.int _ _)))
  · subst he
    exact ⟨_, rfl, _, _, _, [], _, [], hW', trodAll_mk1 (shut_bool Tryd.underlying4 _), trodAll_mk3 (Below.trod laidOut (by kernel_rfl) (of_decide_eq_true (by kernel_rfl)) h0 bel hlt) (shut_int Tryd.underlying3 w1) (shut_int Tryd.underlying3 w2), rfl, bel.frame _, fun h => by cases h⟩
theorem over : Rows.eufExplainsRow.holds Tryd.pinned (OpenSpec.ofChange Rows.eufExplainsSpec) :=
  OpenClaim.holds_of_wide 3 Tryd.f3 rfl rfl rfl rfl rfl rfl rfl ⟨rfl, rfl, rfl, rfl, rfl⟩ rfl rfl rfl rfl rfl (by kernel_rfl) Tryd.func3 (by kernel_rfl)
    (of_decide_eq_true (by kernel_rfl)) (by unfold Func.isWrapper; first | (rw [if_pos (by decide +kernel)]; kernel_rfl) | (rw [if_neg (by decide +kernel)]; exact ⟨rfl, rfl⟩))
    (fun os started H enc _ => lifted os started H enc)
end Go.Proofs.YtjabgfnljbnmmaaDoor.eufExplains
namespace Go.Proofs.YtjabgfnljbnmmaaDoor
theorem eufExplains_holds : Rows.EufExplainsCardSaid :=
  Claim7.holds_tied_plain_at .later [] [.data, .data, .data] true (true, "f0e185ff6017987945a297fe5d0eac8124a69dbff48b3e4e9b161e79e362512c") false
    eufExplains.over (fun _ h => by cases h) (by kernel_rfl) (fun _ h => by cases h) eufExplains_row_tie rfl ⟨rfl, rfl⟩ (by kernel_rfl) rfl
    (fun f fn hf hfn => by
      obtain rfl : f = 3 := Option.some.inj ((show Tryd.prog.funcNamed "surety/suretylaw05.EufExplains" = some 3 by kernel_rfl).symm.trans hf) |>.symm
      obtain rfl : fn = Tryd.f3 := (Option.some.inj (Tryd.func3.symm.trans hfn)).symm
      exact ⟨by kernel_rfl, fun j t ht => by
        rw [Tryd.params3] at ht
        have hm : t ∈ [22, 3, 3] := by simpa using Array.mem_of_getElem? ht
        have hall : ([22, 3, 3].all fun u => !Tryd.prog.wantsStandIn u) = true := by kernel_rfl
        exact (show Tryd.prog.wantsStandIn t = false by simpa using List.all_eq_true.1 hall t hm)⟩)
    (by kernel_rfl)
#print axioms eufExplains_holds
end Go.Proofs.YtjabgfnljbnmmaaDoor
