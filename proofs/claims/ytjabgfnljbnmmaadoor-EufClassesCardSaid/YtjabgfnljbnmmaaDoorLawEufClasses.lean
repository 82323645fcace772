/- 'EufClasses' of suretylaw05 holds for every input: no condition. -/
import Derived.Test.YtjabgfnljbnmmaaDoorEB
import Derived.Test.YtjabgfnljbnmmaaDoorXE
import Derived.SevenTiedAt
import Derived.Test.YtjabgfnljbnmmaaDoorTie
import Derived.Test.YtjabgfnljbnmmaaDoorCards
import Derived.WalkKit
import Derived.ProofKit
import Derived.OpenShut
import Derived.ChangeOld
import Derived.Below
import Derived.SizedLaws
import Derived.Handed
import Derived.Stop.Joined
namespace Go.Proofs.YtjabgfnljbnmmaaDoor.eufClasses
open Go.ChangeShapes Go.WideShapes Go.ChangeAt Go.RowKit
open Go.Ax
set_option linter.unusedVariables false
theorem law {K} (sc : List OpS) (a : Int) (hf : ∀ o ∈ sc, o.f.length ≤ 140737488355328) : Ok (bs K) 10 [.slice 5 (sc.map opV), iV a] [] (.bool true) [] [] := by
 obtain ⟨G, hp, hP⟩ := played_ex (K := K) hf
 obtain ⟨c, k, hc1, hc2⟩ := hp.told
 have hnm := hp.nm
 have hcl : c.length = G.N.length := hc2.1.len
 exact classes10 awake_ok hP rfl hcl (by omega) (hp.closed (by omega) hc1) (hp.cls (by omega) hc2 hcl)
set_option maxRecDepth 100000 in
theorem lifted (os : Os) (started : os.Started) (H : Type) (enc : TypeId × Value → H) :
  ReturnsInHanded {} Tryd.checked os 10 .any (fun w args => (Rows.eufClassesSpec.pre enc Tryd.prog Tryd.f10 Rows.eufClassesRow.domain false w args ∧ laidMetH Tryd.prog laid3 w) ∧ sizedMet enc Tryd.prog Tryd.f10 (OpenSpec.ofChange Rows.eufClassesSpec) false w args)
   (Rows.eufClassesSpec.post enc Tryd.prog Tryd.f10 false true false false) := by
 refine returnsInHanded_of_change_and (C := Tryd.checked) (X := fun w _ => laidMetH Tryd.prog laid3 w) (fun _ _ _ hh h => h.of_heap hh) own started (by kernel_rfl) Tryd.func10
  (ChangeSpec.witness_shaped (enc := enc) (C := Tryd.checked) (os := os) (X := fun w _ => laidMetH Tryd.prog laid3 w) false (World.laidAll Tryd.prog os laid3) #[.slice none 0 0, .int .i64 0] 8 (World.laidAll_os _ _ _)
   (World.shaped_of_ZipB (by kernel_rfl) (by kernel_rfl)) (by kernel_rfl) (by kernel_rfl) (by kernel_rfl)
   (by rw [MakeChecks.laidMetH_plain _ _ _ (by kernel_rfl)]; exact laidMet_laidAll _ (by kernel_rfl) (by kernel_rfl))) ?_
 intro W base args ds gs before hval0 hW hc hsz hL _
 have hval : ∀ (j : Nat) t v, Tryd.f10.params[j]? = some t → args[j]? = some v → Value.okWide Tryd.prog W .any base t v := hval0
 have hW' := hW
 obtain ⟨p, q, hA0, hV, rfl, _, _⟩ := hW
 have hA : DataW.TrodAll enc Tryd.prog W 0 (fun _ => true) true Tryd.f10.params.toList args.toList ds p := hA0
 rw [Tryd.params10] at hA hval
 obtain ⟨v0, v1, d0, d1, p0, p1, rfl, rfl, rfl, h0, h1⟩ := trodAll_two hA
 obtain ⟨rfl, rfl⟩ := trodVars_none hV
 have hlt : ∀ x ∈ p0, x.block < W.heap.size := fun x hx => by simpa using hW'.lt x (by simp [hx])
 obtain ⟨sc, hf, hr0⟩ := open_ops (hval 0 22 v0 rfl rfl) h0 (fun n hn => by have := List.all_eq_true.1 hsz n (DataW.weights_mem_each (j := 0) rfl rfl n hn); simpa using this)
 obtain ⟨a1, rfl, rfl, rfl, w1⟩ := open_int Tryd.underlying3 (hval 1 3 v1 rfl rfl) h1
 obtain ⟨K, hK⟩ := base_of_laid hL
 refine (below_of W (law (K := K) sc a1 hf) (vs := [v0, .int .i64 a1]) (u := .bool true) ⟨rfl, fun j hj hj' => ?_⟩ (by simp [V.isOwn]) (fun H μ v hv => hv.bool) (fun b o v h => by cases h) (fun b => Nat.zero_le _) (base_ok hK)).mono fun e W' ⟨he, bel⟩ => ?_
 ·match j, hj, hj' with
  | 0, _, _ => exact .two _ _ (.one _ _ (.data _ _ hr0))
  | 1, _, _ => exact .two _ _ (.one _ _ (.data _ _ (.int _ _)))
 ·subst he
  exact ⟨_, rfl, _, _, _, [], _, [], hW', trodAll_mk1 (shut_bool Tryd.underlying4 _), trodAll_mk2 (Below.trod laidOut (by kernel_rfl) (of_decide_eq_true (by kernel_rfl)) h0 bel hlt) (shut_int Tryd.underlying3 w1), rfl, bel.frame _, fun h => by cases h⟩
theorem over : Rows.eufClassesRow.holds Tryd.pinned (OpenSpec.ofChange Rows.eufClassesSpec) :=
 OpenClaim.holds_of_wide 10 Tryd.f10 rfl rfl rfl rfl rfl rfl rfl ⟨rfl, rfl, rfl, rfl, rfl⟩ rfl rfl rfl rfl rfl (by kernel_rfl) Tryd.func10 (by kernel_rfl)
  (of_decide_eq_true (by kernel_rfl)) (by unfold Func.isWrapper; first | (rw [if_pos (by decide +kernel)]; kernel_rfl) | (rw [if_neg (by decide +kernel)]; exact ⟨rfl, rfl⟩))
  (fun os started H enc _ => lifted os started H enc)
end Go.Proofs.YtjabgfnljbnmmaaDoor.eufClasses
namespace Go.Proofs.YtjabgfnljbnmmaaDoor
theorem eufClasses_holds : Rows.EufClassesCardSaid :=
 Claim7.holds_tied_plain_at .later [] [.data, .data, .data] true (true, "f0e185ff6017987945a297fe5d0eac8124a69dbff48b3e4e9b161e79e362512c") false
  eufClasses.over (fun _ h => by cases h) (by kernel_rfl) (fun _ h => by cases h) eufClasses_row_tie rfl ⟨rfl, rfl⟩ (by kernel_rfl) rfl
  (fun f fn hf hfn => by
   obtain rfl : f = 10 := Option.some.inj ((show Tryd.prog.funcNamed "surety/suretylaw05.EufClasses" = some 10 by kernel_rfl).symm.trans hf) |>.symm
   obtain rfl : fn = Tryd.f10 := (Option.some.inj (Tryd.func10.symm.trans hfn)).symm
   exact ⟨by kernel_rfl, fun j t ht => by
    rw [Tryd.params10] at ht
    have hm : t ∈ [22, 3] := by simpa using Array.mem_of_getElem? ht
    have hall : ([22, 3].all fun u => !Tryd.prog.wantsStandIn u) = true := by kernel_rfl
    exact (show Tryd.prog.wantsStandIn t = false by simpa using List.all_eq_true.1 hall t hm)⟩)
  (by kernel_rfl)
#print axioms eufClasses_holds
end Go.Proofs.YtjabgfnljbnmmaaDoor
