/- 'EufBack' of suretylaw05 holds for every input: no condition. -/
import Derived.Test.YtjabgfnljbnmmaaDoorEB
import Derived.Test.YtjabgfnljbnmmaaDoorTB3
import Derived.Test.YtjabgfnljbnmmaaDoorTBF
import Derived.SevenTiedAt
import Derived.Test.YtjabgfnljbnmmaaDoorTie
import Derived.Test.YtjabgfnljbnmmaaDoorCards
import Derived.WalkKit
import Derived.ProofKit
import Derived.OpenShut
import Derived.ChangeOld
import Derived.Below
import Derived.SizedLaws
import Derived.Handed
import Derived.Stop.Joined
namespace Go.Proofs.YtjabgfnljbnmmaaDoor.eufBack
open Go.ChangeShapes Go.WideShapes Go.ChangeAt Go.RowKit
open Go.Ax
set_option linter.unusedVariables false
theorem law {K} (sc : List OpS) (a : Int) (hf : ∀ o ∈ sc, o.f.length ≤ 140737488355328) : Ok (bs K) 8 [.slice 5 (sc.map opV), iV a] [] (.bool true) [] [] := by
  obtain ⟨G, hp, hP⟩ := played_ex (K := K) hf
  obtain ⟨c, k, hc1, hc2⟩ := hp.told
  have hnm := hp.nm
  have hem := hp.em
  by_cases h : a < 0 ∨ (G.E.length : Int) < a
  · exact back_law_bad awake_ok hP rfl h
  · obtain ⟨n, rfl⟩ := Int.eq_ofNat_of_zero_le (a := a) (by omega)
    have hn : n ≤ G.E.length := by omega
    obtain ⟨G1, b1, b2, b3, b4⟩ := back_play (K := K) hp (by omega) hn
    obtain ⟨ρ, H, hI⟩ := hp.ex
    obtain ⟨G2, e1, e2, e3, e4⟩ := erun_ex (K := K) hnm hem (fun e he => ⟨(hI.eb e he).1, (hI.eb e he).2.1⟩) _ n G1 rfl hn b2 b3 b4
    have hQ : Ok (bs K) 27 [gR] (gObs G1) (nV n) (gObs G1) [] := by
      have := eqs_ok (B := bs K) (G := G1)
      rw [b4, List.length_take, Nat.min_eq_left hn] at this
      have e : (nV n : V) = nV n := rfl
      simpa [b4] using this
    have hL : Ok (bs K) 20 [gR] (gObs G1) (nV G.N.length) (gObs G1) [] := by rw [← b3]; exact len_ok
    have hc3 : Told G2.N G2.E c := by rw [e3, e4]; exact hc2
    exact back_law awake_ok hP hn hc2.1.len (by omega) (by omega) b1 hQ hL e1 (fun a ha => hp.find (by omega) hc2 ha) (fun a ha => e2.find (by omega) hc3 (by rw [e3]; exact ha))
set_option maxRecDepth 100000 in
theorem lifted (os : Os) (started : os.Started) (H : Type) (enc : TypeId × Value → H) :
    ReturnsInHanded {} Tryd.checked os 8 .any (fun w args => (Rows.eufBackSpec.pre enc Tryd.prog Tryd.f8 Rows.eufBackRow.domain false w args ∧ laidMetH Tryd.prog laid3 w) ∧ sizedMet enc Tryd.prog Tryd.f8 (OpenSpec.ofChange Rows.eufBackSpec) false w args)
      (Rows.eufBackSpec.post enc Tryd.prog Tryd.f8 false true false false) := by
  refine returnsInHanded_of_change_and (C := Tryd.checked) (X := fun w _ => laidMetH Tryd.prog laid3 w) (fun _ _ _ hh h => h.of_heap hh) own started (by kernel_rfl) Tryd.func8
    (ChangeSpec.witness_shaped (enc := enc) (C := Tryd.checked) (os := os) (X := fun w _ => laidMetH Tryd.prog laid3 w) false (World.laidAll Tryd.prog os laid3) #[.slice none 0 0, .int .i64 0] 8 (World.laidAll_os _ _ _)
      (World.shaped_of_ZipB (by kernel_rfl) (by kernel_rfl)) (by kernel_rfl) (by kernel_rfl) (by kernel_rfl)
      (by rw [MakeChecks.laidMetH_plain _ _ _ (by kernel_rfl)]; exact laidMet_laidAll _ (by kernel_rfl) (by kernel_rfl))) ?_
  intro W base args ds gs before hval0 hW hc hsz hL _
  have hval : ∀ (j : Nat) t v, Tryd.f8.params[j]? = some t → args[j]? = some v → Value.okWide Tryd.prog W .any base t v := hval0
  have hW' := hW
  obtain ⟨p, q, hA0, hV, rfl, _, _⟩ := hW
  have hA : DataW.TrodAll enc Tryd.prog W 0 (fun _ => true) true Tryd.f8.params.toList args.toList ds p := hA0
  rw [Tryd.params8] at hA hval
  obtain ⟨v0, v1, d0, d1, p0, p1, rfl, rfl, rfl, h0, h1⟩ := trodAll_two hA
  obtain ⟨rfl, rfl⟩ := trodVars_none hV
  have hlt : ∀ x ∈ p0, x.block < W.heap.size := fun x hx => by simpa using hW'.lt x (by simp [hx])
  obtain ⟨sc, hf, hr0⟩ := open_ops (hval 0 22 v0 rfl rfl) h0 (fun n hn => by have := List.all_eq_true.1 hsz n (DataW.weights_mem_each (j := 0) rfl rfl n hn); simpa using this)
  obtain ⟨a1, rfl, rfl, rfl, w1⟩ := open_int Tryd.underlying3 (hval 1 3 v1 rfl rfl) h1
  obtain ⟨K, hK⟩ := base_of_laid hL
  refine (below_of W (law (K := K) sc a1 hf) (vs := [v0, .int .i64 a1]) (u := .bool true) ⟨rfl, fun j hj hj' => ?_⟩ (by simp [V.isOwn]) (fun H μ v hv => hv.bool) (fun b o v h => by cases h) (fun b => Nat.zero_le _) (base_ok hK)).mono fun e W' ⟨he, bel⟩ => ?_
  · match j, hj, hj' with
    | 0, _, _ => exact .two _ _ (.one _ _ (.data _ _ hr0))
    | 1, _, _ => exact .two _ _ (.one _ _ (.data _ _ (.int _ _)))
  · subst he
    exact ⟨_, rfl, _, _, _, [], _, [], hW', trodAll_mk1 (shut_bool Tryd.underlying4 _), trodAll_mk2 (Below.trod laidOut (by kernel_rfl) (of_decide_eq_true (by kernel_rfl)) h0 bel hlt) (shut_int Tryd.underlying3 w1), rfl, bel.frame _, fun h => by cases h⟩
theorem over : Rows.eufBackRow.holds Tryd.pinned (OpenSpec.ofChange Rows.eufBackSpec) :=
  OpenClaim.holds_of_wide 8 Tryd.f8 rfl rfl rfl rfl rfl rfl rfl ⟨rfl, rfl, rfl, rfl, rfl⟩ rfl rfl rfl rfl rfl (by kernel_rfl) Tryd.func8 (by kernel_rfl)
    (of_decide_eq_true (by kernel_rfl)) (by unfold Func.isWrapper; first | (rw [if_pos (by decide +kernel)]; kernel_rfl) | (rw [if_neg (by decide +kernel)]; exact ⟨rfl, rfl⟩))
    (fun os started H enc _ => lifted os started H enc)
end Go.Proofs.YtjabgfnljbnmmaaDoor.eufBack
namespace Go.Proofs.YtjabgfnljbnmmaaDoor
theorem eufBack_holds : Rows.EufBackCardSaid :=
  Claim7.holds_tied_plain_at .later [] [.data, .data, .data] true (true, "f0e185ff6017987945a297fe5d0eac8124a69dbff48b3e4e9b161e79e362512c") false
    eufBack.over (fun _ h => by cases h) (by kernel_rfl) (fun _ h => by cases h) eufBack_row_tie rfl ⟨rfl, rfl⟩ (by kernel_rfl) rfl
    (fun f fn hf hfn => by
      obtain rfl : f = 8 := Option.some.inj ((show Tryd.prog.funcNamed "surety/suretylaw05.EufBack" = some 8 by kernel_rfl).symm.trans hf) |>.symm
      obtain rfl : fn = Tryd.f8 := (Option.some.inj (Tryd.func8.symm.trans hfn)).symm
      exact ⟨by kernel_rfl, fun j t ht => by
        rw [Tryd.params8] at ht
        have hm : t ∈ [22, 3] := by simpa using Array.mem_of_getElem? ht
        have hall : ([22, 3].all fun u => !Tryd.prog.wantsStandIn u) = true := by kernel_rfl
        exact (show Tryd.prog.wantsStandIn t = false by simpa using List.all_eq_true.1 hall t hm)⟩)
    (by kernel_rfl)
#print axioms eufBack_holds
end Go.Proofs.YtjabgfnljbnmmaaDoor
