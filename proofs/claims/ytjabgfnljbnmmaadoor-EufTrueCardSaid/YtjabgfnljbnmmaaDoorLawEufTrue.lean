/- 'EufTrue' of suretylaw05 holds for every input: no condition. -/
import Derived.Test.YtjabgfnljbnmmaaDoorEB
import Derived.Test.YtjabgfnljbnmmaaDoorTB5
import Derived.Test.YtjabgfnljbnmmaaDoorD14
import Derived.Test.YtjabgfnljbnmmaaDoorTBF
import Derived.SevenTiedAt
import Derived.Test.YtjabgfnljbnmmaaDoorTie
import Derived.Test.YtjabgfnljbnmmaaDoorCards
import Derived.WalkKit
import Derived.ProofKit
import Derived.OpenShut
import Derived.ChangeOld
import Derived.Below
import Derived.SizedLaws
import Derived.Handed
import Derived.Stop.Joined
namespace Go.Proofs.YtjabgfnljbnmmaaDoor.eufTrue
open Go.ChangeShapes Go.WideShapes Go.ChangeAt Go.RowKit
open Go.Ax
set_option linter.unusedVariables false
theorem law {K} (sc : List OpS) (seed : List Int) (hf : ∀ o ∈ sc, o.f.length ≤ 140737488355328) (hs : seed.length < 9223372036854775808) : Ok (bs K) 6 [.slice 5 (sc.map opV), .slice 1 (seed.map iV)] [] (.bool true) [] [] := by
  obtain ⟨G, hp, hP⟩ := played_ex (K := K) hf
  obtain ⟨c, k, hc1, hc2⟩ := hp.told
  have hnm := hp.nm
  have hem := hp.em
  obtain ⟨ρ, H, hI⟩ := hp.ex
  refine true_law (vs := vsL G.N seed G.N.length) awake_ok hP hc2.1.len (vsL_len _ _ _) (by omega) (by omega) (fun e he => ⟨(hI.eb e he).1, (hI.eb e he).2.1⟩) (fun j hj => ?_) (fun a ha => hp.find (by omega) hc2 ha) hc2.1.le (fun hall a ha => ?_)
  · obtain ⟨n1, n2, n3⟩ := hI.nf j hj
    rw [vsL_take _ _ (Nat.le_of_lt hj), vsL_get _ _ hj]
    exact value_ok hj n1 (fun a ha => by rw [vsL_len]; exact n3 a ha) (by omega) (vsL_le _ _ _) hs
  · refine vals_eqv (fun u hu => (hI.nf u hu).2.2) (fun e he => ?_) ((hc2.iff (by have := hc2.1.le a ha; omega) ha).1 (hc2.1.idem a ha))
    obtain ⟨i, hi, e2⟩ := mem_nth he
    rw [← e2]; exact hall i hi
set_option maxRecDepth 100000 in
theorem lifted (os : Os) (started : os.Started) (H : Type) (enc : TypeId × Value → H) :
    ReturnsInHanded {} Tryd.checked os 6 .any (fun w args => (Rows.eufTrueSpec.pre enc Tryd.prog Tryd.f6 Rows.eufTrueRow.domain false w args ∧ laidMetH Tryd.prog laid3 w) ∧ sizedMet enc Tryd.prog Tryd.f6 (OpenSpec.ofChange Rows.eufTrueSpec) false w args)
      (Rows.eufTrueSpec.post enc Tryd.prog Tryd.f6 false true false false) := by
  refine returnsInHanded_of_change_and (C := Tryd.checked) (X := fun w _ => laidMetH Tryd.prog laid3 w) (fun _ _ _ hh h => h.of_heap hh) own started (by kernel_rfl) Tryd.func6
    (ChangeSpec.witness_shaped (enc := enc) (C := Tryd.checked) (os := os) (X := fun w _ => laidMetH Tryd.prog laid3 w) false (World.laidAll Tryd.prog os laid3) #[.slice none 0 0, .slice none 0 0] 8 (World.laidAll_os _ _ _)
      (World.shaped_of_ZipB (by kernel_rfl) (by kernel_rfl)) (by kernel_rfl) (by kernel_rfl) (by kernel_rfl)
      (by rw [MakeChecks.laidMetH_plain _ _ _ (by kernel_rfl)]; exact laidMet_laidAll _ (by kernel_rfl) (by kernel_rfl))) ?_
  intro W base args ds gs before hval0 hW hc hsz hL _
  have hval : ∀ (j : Nat) t v, Tryd.f6.params[j]? = some t → args[j]? = some v → Value.okWide Tryd.prog W .any base t v := hval0
  have hW' := hW
  obtain ⟨p, q, hA0, hV, rfl, _, _⟩ := hW
  have hA : DataW.TrodAll enc Tryd.prog W 0 (fun _ => true) true Tryd.f6.params.toList args.toList ds p := hA0
  rw [Tryd.params6] at hA hval
  obtain ⟨v0, v1, d0, d1, p0, p1, rfl, rfl, rfl, h0, h1⟩ := trodAll_two hA
  obtain ⟨rfl, rfl⟩ := trodVars_none hV
  have hlt : ∀ x ∈ p0, x.block < W.heap.size := fun x hx => by simpa using hW'.lt x (by simp [hx])
  obtain ⟨sc, hf, hr0⟩ := open_ops (hval 0 22 v0 rfl rfl) h0 (fun n hn => by have := List.all_eq_true.1 hsz n (DataW.weights_mem_each (j := 0) rfl rfl n hn); simpa using this)
  have hlt1 : ∀ x ∈ p1, x.block < W.heap.size := fun x hx => by simpa using hW'.lt x (by simp [hx])
  obtain ⟨u1, lu1, cu1, rfl⟩ := okWide_slice Tryd.underlying31 (hval 1 31 v1 rfl rfl)
  obtain ⟨fuel1, hfu1⟩ := h1
  obtain ⟨l1, vv1, hcv1, hr1, hll1⟩ := open_nums hfu1
  obtain rfl : .slice u1 lu1 cu1 = vv1 := by simpa [Value.cells] using hcv1
  obtain ⟨K, hK⟩ := base_of_laid hL
  refine (below_of W (law (K := K) sc l1 hf hll1) (vs := [v0, .slice u1 lu1 cu1]) (u := .bool true) ⟨rfl, fun j hj hj' => ?_⟩ (by simp [V.isOwn]) (fun H μ v hv => hv.bool) (fun b o v h => by cases h) (fun b => Nat.zero_le _) (base_ok hK)).mono fun e W' ⟨he, bel⟩ => ?_
  · match j, hj, hj' with
    | 0, _, _ => exact .two _ _ (.one _ _ (.data _ _ hr0))
    | 1, _, _ => exact .two _ _ (.one _ _ (.data _ _ hr1))
  · subst he
    exact ⟨_, rfl, _, _, _, [], _, [], hW', trodAll_mk1 (shut_bool Tryd.underlying4 _), trodAll_mk2 (Below.trod laidOut (by kernel_rfl) (of_decide_eq_true (by kernel_rfl)) h0 bel hlt) (Below.trod laidOut (by kernel_rfl) (of_decide_eq_true (by kernel_rfl)) ⟨fuel1, hfu1⟩ bel hlt1), rfl, bel.frame _, fun h => by cases h⟩
theorem over : Rows.eufTrueRow.holds Tryd.pinned (OpenSpec.ofChange Rows.eufTrueSpec) :=
  OpenClaim.holds_of_wide 6 Tryd.f6 rfl rfl rfl rfl rfl rfl rfl ⟨rfl, rfl, rfl, rfl, rfl⟩ rfl rfl rfl rfl rfl (by kernel_rfl) Tryd.func6 (by kernel_rfl)
    (of_decide_eq_true (by kernel_rfl)) (by unfold Func.isWrapper; first | (rw [if_pos (by decide +kernel)]; kernel_rfl) | (rw [if_neg (by decide +kernel)]; exact ⟨rfl, rfl⟩))
    (fun os started H enc _ => lifted os started H enc)
end Go.Proofs.YtjabgfnljbnmmaaDoor.eufTrue
namespace Go.Proofs.YtjabgfnljbnmmaaDoor
theorem eufTrue_holds : Rows.EufTrueCardSaid :=
  Claim7.holds_tied_plain_at .later [] [.data, .data, .data] true (true, "f0e185ff6017987945a297fe5d0eac8124a69dbff48b3e4e9b161e79e362512c") false
    eufTrue.over (fun _ h => by cases h) (by kernel_rfl) (fun _ h => by cases h) eufTrue_row_tie rfl ⟨rfl, rfl⟩ (by kernel_rfl) rfl
    (fun f fn hf hfn => by
      obtain rfl : f = 6 := Option.some.inj ((show Tryd.prog.funcNamed "surety/suretylaw05.EufTrue" = some 6 by kernel_rfl).symm.trans hf) |>.symm
      obtain rfl : fn = Tryd.f6 := (Option.some.inj (Tryd.func6.symm.trans hfn)).symm
      exact ⟨by kernel_rfl, fun j t ht => by
        rw [Tryd.params6] at ht
        have hm : t ∈ [22, 31] := by simpa using Array.mem_of_getElem? ht
        have hall : ([22, 31].all fun u => !Tryd.prog.wantsStandIn u) = true := by kernel_rfl
        exact (show Tryd.prog.wantsStandIn t = false by simpa using List.all_eq_true.1 hall t hm)⟩)
    (by kernel_rfl)
#print axioms eufTrue_holds
end Go.Proofs.YtjabgfnljbnmmaaDoor
