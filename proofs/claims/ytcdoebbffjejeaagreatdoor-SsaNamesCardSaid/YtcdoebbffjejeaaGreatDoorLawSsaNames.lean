/- 'SsaNames' of suretylaw14 holds for every input: no condition. -/
import Derived.Test.YtcdoebbffjejeaaGreatDoorSEB
import Derived.Test.YtcdoebbffjejeaaGreatDoorSX
import Derived.SevenTiedAt
import Derived.Test.YtcdoebbffjejeaaGreatDoorTie
import Derived.Test.YtcdoebbffjejeaaGreatDoorCards
import Derived.Handed
import Derived.Stop.Joined
namespace Go.Proofs.YtcdoebbffjejeaaGreatDoor.ssaNames
open Go.ChangeShapes Go.WideShapes Go.ChangeAt Go.RowKit
open Go.ChangeMaps (open_string shut_string)
open Go.Ax
set_option linter.unusedVariables false
theorem law {K} {s : List UInt8} (hs : s.length ≤ 140737488355328) : Ok (bs K) 5 [.str s] [] (.bool true) [] [] := names_ok awake_ok hs
set_option maxRecDepth 100000 in
theorem lifted (os : Os) (started : os.Started) (H : Type) (enc : TypeId × Value → H) :
    ReturnsInHanded {} Tryz.checked os 5 .any (fun w args => (Rows.ssaNamesSpec.pre enc Tryz.prog Tryz.f5 Rows.ssaNamesRow.domain false w args ∧ laidMetH Tryz.prog laid3 w) ∧ sizedMet enc Tryz.prog Tryz.f5 (OpenSpec.ofChange Rows.ssaNamesSpec) false w args)
      (Rows.ssaNamesSpec.post enc Tryz.prog Tryz.f5 false true false false) := by
  refine returnsInHanded_of_change_and (C := Tryz.checked) (X := fun w _ => laidMetH Tryz.prog laid3 w) (fun _ _ _ hh h => h.of_heap hh) own started (by kernel_rfl) Tryz.func5
    (ChangeSpec.witness_shaped (enc := enc) (C := Tryz.checked) (os := os) (X := fun w _ => laidMetH Tryz.prog laid3 w) false (World.laidAll Tryz.prog os laid3) #[.string ⟨#[]⟩] 8 (World.laidAll_os _ _ _)
      (World.shaped_of_ZipB (by kernel_rfl) (by kernel_rfl)) (by kernel_rfl) (by kernel_rfl) (by kernel_rfl)
      (by rw [MakeChecks.laidMetH_plain _ _ _ (by kernel_rfl)]; exact laidMet_laidAll _ (by kernel_rfl) (by kernel_rfl))) ?_
  intro W base args ds gs before hval0 hW hc hsz hL _
  have hval : ∀ (j : Nat) t v, Tryz.f5.params[j]? = some t → args[j]? = some v → Value.okWide Tryz.prog W .any base t v := hval0
  have hW' := hW
  obtain ⟨p, q, hA0, hV, rfl, _, _⟩ := hW
  have hA : DataW.TrodAll enc Tryz.prog W 0 (fun _ => true) true Tryz.f5.params.toList args.toList ds p := hA0
  rw [Tryz.params5] at hA hval
  obtain ⟨v0, d0, rfl, rfl, h0⟩ := trodAll_one hA
  obtain ⟨rfl, rfl⟩ := trodVars_none hV
  obtain ⟨a0, rfl, rfl, rfl, y0⟩ := open_string Tryz.underlying9 (hval 0 9 v0 rfl rfl) h0
  have hs0 : a0.data.toList.length ≤ 140737488355328 := by
    have := List.all_eq_true.1 hsz _ (DataW.weights_mem_each (j := 0) (t := 9) rfl rfl a0.data.toList.length (by simp [DataW.weights]))
    have e : reachBytes = 140737488351232 := rfl
    simp only [e, decide_eq_true_eq] at this
    omega
  obtain ⟨K, hK⟩ := base_of_laid hL
  refine (below_of W (law (K := K) hs0) (vs := [.string ⟨a0.data.toList.toArray⟩]) (u := .bool true) ⟨rfl, fun j hj hj' => ?_⟩ (by simp [V.isOwn]) (fun H μ v hv => hv.bool) (fun b o v h => by cases h) (fun b => Nat.zero_le _) (blk_ok hK)).mono fun e W' ⟨he, bel⟩ => ?_
  · match j, hj, hj' with
    | 0, _, _ => exact .two _ _ (.one _ _ (.data _ _ (.str _)))
  · subst he
    exact ⟨_, rfl, _, _, _, [], _, [], hW', trodAll_mk1 (shut_bool Tryz.underlying4 _), trodAll_cons_mk (shut_string Tryz.underlying9 y0) trodAll_mk0, rfl, bel.frame _, fun h => by cases h⟩
theorem over : Rows.ssaNamesRow.holds Tryz.pinned (OpenSpec.ofChange Rows.ssaNamesSpec) :=
  OpenClaim.holds_of_wide 5 Tryz.f5 rfl rfl rfl rfl rfl rfl rfl ⟨rfl, rfl, rfl, rfl, rfl⟩ rfl rfl rfl rfl rfl (by kernel_rfl) Tryz.func5 (by kernel_rfl)
    (of_decide_eq_true (by kernel_rfl)) (by unfold Func.isWrapper; first | (rw [if_pos (by decide +kernel)]; kernel_rfl) | (rw [if_neg (by decide +kernel)]; exact ⟨rfl, rfl⟩))
    (fun os started H enc _ => lifted os started H enc)
end Go.Proofs.YtcdoebbffjejeaaGreatDoor.ssaNames
namespace Go.Proofs.YtcdoebbffjejeaaGreatDoor
theorem ssaNames_holds : Rows.SsaNamesCardSaid :=
  Claim7.holds_tied_plain_at .later [] [.data, .data, .data] true (true, "1c77238b0d54a205fdf1cb816ceae2cf22435d76ba2134f1737092eb3146e3f0") false
    ssaNames.over (fun _ h => by cases h) (by kernel_rfl) (fun _ h => by cases h) ssaNames_row_tie rfl ⟨rfl, rfl⟩ (by kernel_rfl) rfl
    (fun f fn hf hfn => by
      obtain rfl : f = 5 := Option.some.inj ((show Tryz.prog.funcNamed "surety/suretylaw14.SsaNames" = some 5 by kernel_rfl).symm.trans hf) |>.symm
      obtain rfl : fn = Tryz.f5 := (Option.some.inj (Tryz.func5.symm.trans hfn)).symm
      exact ⟨by kernel_rfl, fun j t ht => by
        rw [Tryz.params5] at ht
        have hm : t ∈ [9] := by simpa using Array.mem_of_getElem? ht
        have hall : ([9].all fun u => !Tryz.prog.wantsStandIn u) = true := by kernel_rfl
        exact (show Tryz.prog.wantsStandIn t = false by simpa using List.all_eq_true.1 hall t hm)⟩)
    (by kernel_rfl)
#print axioms ssaNames_holds
end Go.Proofs.YtcdoebbffjejeaaGreatDoor
