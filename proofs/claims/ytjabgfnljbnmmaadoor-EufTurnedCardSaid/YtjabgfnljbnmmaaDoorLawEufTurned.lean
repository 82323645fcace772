/- 'EufTurned' of suretylaw05 holds for every input: no condition. -/
import Derived.Test.YtjabgfnljbnmmaaDoorEB
import Derived.Test.YtjabgfnljbnmmaaDoorTB4
import Derived.Test.YtjabgfnljbnmmaaDoorTBF
import Derived.SevenTiedAt
import Derived.Test.YtjabgfnljbnmmaaDoorTie
import Derived.Test.YtjabgfnljbnmmaaDoorCards
import Derived.WalkKit
import Derived.ProofKit
import Derived.OpenShut
import Derived.ChangeOld
import Derived.Below
import Derived.SizedLaws
import Derived.Handed
import Derived.Stop.Joined
namespace Go.Proofs.YtjabgfnljbnmmaaDoor.eufTurned
open Go.ChangeShapes Go.WideShapes Go.ChangeAt Go.RowKit
open Go.Ax
set_option linter.unusedVariables false
theorem law {K} (sc : List OpS) (hf : ∀ o ∈ sc, o.f.length ≤ 140737488355328) : Ok (bs K) 7 [.slice 5 (sc.map opV)] [] (.bool true) [] [] := by
  obtain ⟨G, hp, hP⟩ := played_ex (K := K) hf
  obtain ⟨c, k, hc1, hc2⟩ := hp.told
  have hnm := hp.nm
  have hem := hp.em
  obtain ⟨ρ, H, hI⟩ := hp.ex
  obtain ⟨H1, a1, a2, a3, a4⟩ := nrun_ex (K := K) hnm hp.ds hI.nf _ 0 gs0 rfl (Nat.zero_le _) (gs0_play.mono (Nat.zero_le _)) rfl rfl
  obtain ⟨H2, b1, b2, b3, b4⟩ := rrun_ex (K := K) hnm hem (fun e he => ⟨(hI.eb e he).1, (hI.eb e he).2.1⟩) _ H1 (Nat.le_refl _) a2 a3 (by rw [a4, List.drop_length]; rfl)
  have hc3 : Told H2.N H2.E c := by rw [b3, b4]; exact hc2.swp
  exact turned_law awake_ok hP hc2.1.len (by omega) (by omega) a1 b1 (fun a ha => hp.find (by omega) hc2 ha) (fun a ha => b2.find (by omega) hc3 (by rw [b3]; exact ha))
set_option maxRecDepth 100000 in
theorem lifted (os : Os) (started : os.Started) (H : Type) (enc : TypeId × Value → H) :
    ReturnsInHanded {} Tryd.checked os 7 .any (fun w args => (Rows.eufTurnedSpec.pre enc Tryd.prog Tryd.f7 Rows.eufTurnedRow.domain false w args ∧ laidMetH Tryd.prog laid3 w) ∧ sizedMet enc Tryd.prog Tryd.f7 (OpenSpec.ofChange Rows.eufTurnedSpec) false w args)
      (Rows.eufTurnedSpec.post enc Tryd.prog Tryd.f7 false true false false) := by
  refine returnsInHanded_of_change_and (C := Tryd.checked) (X := fun w _ => laidMetH Tryd.prog laid3 w) (fun _ _ _ hh h => h.of_heap hh) own started (by kernel_rfl) Tryd.func7
    (ChangeSpec.witness_shaped (enc := enc) (C := Tryd.checked) (os := os) (X := fun w _ => laidMetH Tryd.prog laid3 w) false (World.laidAll Tryd.prog os laid3) #[.slice none 0 0] 8 (World.laidAll_os _ _ _)
      (World.shaped_of_ZipB (by kernel_rfl) (by kernel_rfl)) (by kernel_rfl) (by kernel_rfl) (by kernel_rfl)
      (by rw [MakeChecks.laidMetH_plain _ _ _ (by kernel_rfl)]; exact laidMet_laidAll _ (by kernel_rfl) (by kernel_rfl))) ?_
  intro W base args ds gs before hval0 hW hc hsz hL _
  have hval : ∀ (j : Nat) t v, Tryd.f7.params[j]? = some t → args[j]? = some v → Value.okWide Tryd.prog W .any base t v := hval0
  have hW' := hW
  obtain ⟨p, q, hA0, hV, rfl, _, _⟩ := hW
  have hA : DataW.TrodAll enc Tryd.prog W 0 (fun _ => true) true Tryd.f7.params.toList args.toList ds p := hA0
  rw [Tryd.params7] at hA hval
  obtain ⟨v0, d0, rfl, rfl, h0⟩ := trodAll_one hA
  obtain ⟨rfl, rfl⟩ := trodVars_none hV
  have hlt : ∀ x ∈ p, x.block < W.heap.size := fun x hx => by simpa using hW'.lt x (by simp [hx])
  obtain ⟨sc, hf, hr0⟩ := open_ops (hval 0 22 v0 rfl rfl) h0 (fun n hn => by have := List.all_eq_true.1 hsz n (DataW.weights_mem_each (j := 0) rfl rfl n hn); simpa using this)
  obtain ⟨K, hK⟩ := base_of_laid hL
  refine (below_of W (law (K := K) sc  hf) (vs := [v0]) (u := .bool true) ⟨rfl, fun j hj hj' => ?_⟩ (by simp [V.isOwn]) (fun H μ v hv => hv.bool) (fun b o v h => by cases h) (fun b => Nat.zero_le _) (base_ok hK)).mono fun e W' ⟨he, bel⟩ => ?_
  · match j, hj, hj' with
    | 0, _, _ => exact .two _ _ (.one _ _ (.data _ _ hr0))
  · subst he
    exact ⟨_, rfl, _, _, _, [], _, [], hW', trodAll_mk1 (shut_bool Tryd.underlying4 _), trodAll_mk1 (Below.trod laidOut (by kernel_rfl) (of_decide_eq_true (by kernel_rfl)) h0 bel hlt), rfl, bel.frame _, fun h => by cases h⟩
theorem over : Rows.eufTurnedRow.holds Tryd.pinned (OpenSpec.ofChange Rows.eufTurnedSpec) :=
  OpenClaim.holds_of_wide 7 Tryd.f7 rfl rfl rfl rfl rfl rfl rfl ⟨rfl, rfl, rfl, rfl, rfl⟩ rfl rfl rfl rfl rfl (by kernel_rfl) Tryd.func7 (by kernel_rfl)
    (of_decide_eq_true (by kernel_rfl)) (by unfold Func.isWrapper; first | (rw [if_pos (by decide +kernel)]; kernel_rfl) | (rw [if_neg (by decide +kernel)]; exact ⟨rfl, rfl⟩))
    (fun os started H enc _ => lifted os started H enc)
end Go.Proofs.YtjabgfnljbnmmaaDoor.eufTurned
namespace Go.Proofs.YtjabgfnljbnmmaaDoor
theorem eufTurned_holds : Rows.EufTurnedCardSaid :=
  Claim7.holds_tied_plain_at .later [] [.data, .data, .data] true (true, "f0e185ff6017987945a297fe5d0eac8124a69dbff48b3e4e9b161e79e362512c") false
    eufTurned.over (fun _ h => by cases h) (by kernel_rfl) (fun _ h => by cases h) eufTurned_row_tie rfl ⟨rfl, rfl⟩ (by kernel_rfl) rfl
    (fun f fn hf hfn => by
      obtain rfl : f = 7 := Option.some.inj ((show Tryd.prog.funcNamed "surety/suretylaw05.EufTurned" = some 7 by kernel_rfl).symm.trans hf) |>.symm
      obtain rfl : fn = Tryd.f7 := (Option.some.inj (Tryd.func7.symm.trans hfn)).symm
      exact ⟨by kernel_rfl, fun j t ht => by
        rw [Tryd.params7] at ht
        have hm : t ∈ [22] := by simpa using Array.mem_of_getElem? ht
        have hall : ([22].all fun u => !Tryd.prog.wantsStandIn u) = true := by kernel_rfl
        exact (show Tryd.prog.wantsStandIn t = false by simpa using List.all_eq_true.1 hall t hm)⟩)
    (by kernel_rfl)
#print axioms eufTurned_holds
end Go.Proofs.YtjabgfnljbnmmaaDoor
