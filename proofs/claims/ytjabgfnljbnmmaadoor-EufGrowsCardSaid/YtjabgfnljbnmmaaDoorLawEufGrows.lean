/- 'EufGrows' of suretylaw05 holds for every input: no condition. -/
import Derived.Test.YtjabgfnljbnmmaaDoorEB
import Derived.Test.YtjabgfnljbnmmaaDoorD11
import Derived.Test.YtjabgfnljbnmmaaDoorTBF
import Derived.SevenTiedAt
import Derived.Test.YtjabgfnljbnmmaaDoorTie
import Derived.Test.YtjabgfnljbnmmaaDoorCards
import Derived.WalkKit
import Derived.ProofKit
import Derived.OpenShut
import Derived.ChangeOld
import Derived.Below
import Derived.SizedLaws
import Derived.Handed
import Derived.Stop.Joined
namespace Go.Proofs.YtjabgfnljbnmmaaDoor.eufGrows
open Go.ChangeShapes Go.WideShapes Go.ChangeAt Go.RowKit
open Go.Ax
set_option linter.unusedVariables false
theorem law {K} (sc : List OpS) (a b : Int) (hf : ∀ o ∈ sc, o.f.length ≤ 140737488355328) : Ok (bs K) 9 [.slice 5 (sc.map opV), iV a, iV b] [] (.bool true) [] [] := by
  obtain ⟨G, hp, hP⟩ := played_ex (K := K) hf
  obtain ⟨c, k, hc1, hc2⟩ := hp.told
  have hnm := hp.nm
  by_cases h0 : G.N = []
  · exact grows_none awake_ok hP h0
  · obtain ⟨G1, n1, e1, a1, _, a3, a4, _, _, a7⟩ := equal_play (K := K) (a := a) (b := b) hp (by omega)
    obtain ⟨G2, n2, e2, b1, _, b3, b4, b5, _⟩ := node_play (K := K) (f := [102]) (l := [0]) a3 (by omega) (by decide) (by decide)
    obtain ⟨c2, k2, _, hd2⟩ := b3.told
    have hle : G.N.length ≤ G2.N.length := by
      rcases b4 with g | ⟨g, _⟩
      · rw [g, a4]; exact Nat.le_refl _
      · rw [g, a4]; simp
    refine grows_law (r1 := .nils) (r2 := .nils) (S := fun i k => decide (nth c2 i = nth c2 k)) awake_ok hP hc2.1.len (by omega) h0 ⟨n1, e1, a1⟩ ⟨n2, e2, b1⟩ (fun a ha => hp.find (by omega) hc2 ha)
      (fun i k hi hk => b3.same hd2 (by omega) (by omega)) (fun i k hi hk he => ?_)
    have h1 := a7 i k hi hk ((hc2.iff hi hk).1 he)
    have h2 := b5 i k (by rw [a4]; exact hi) (by rw [a4]; exact hk) h1
    exact decide_eq_true (hd2.2 _ _ h2)
set_option maxRecDepth 100000 in
theorem lifted (os : Os) (started : os.Started) (H : Type) (enc : TypeId × Value → H) :
    ReturnsInHanded {} Tryd.checked os 9 .any (fun w args => (Rows.eufGrowsSpec.pre enc Tryd.prog Tryd.f9 Rows.eufGrowsRow.domain false w args ∧ laidMetH Tryd.prog laid3 w) ∧ sizedMet enc Tryd.prog Tryd.f9 (OpenSpec.ofChange Rows.eufGrowsSpec) false w args)
      (Rows.eufGrowsSpec.post enc Tryd.prog Tryd.f9 false true false false) := by
  refine returnsInHanded_of_change_and (C := Tryd.checked) (X := fun w _ => laidMetH Tryd.prog laid3 w) (fun _ _ _ hh h => h.of_heap hh) own started (by kernel_rfl) Tryd.func9
    (ChangeSpec.witness_shaped (enc := enc) (C := Tryd.checked) (os := os) (X := fun w _ => laidMetH Tryd.prog laid3 w) false (World.laidAll Tryd.prog os laid3) #[.slice none 0 0, .int .i64 0, .int .i64 0] 8 (World.laidAll_os _ _ _)
      (World.shaped_of_ZipB (by kernel_rfl) (by kernel_rfl)) (by kernel_rfl) (by kernel_rfl) (by kernel_rfl)
      (by rw [MakeChecks.laidMetH_plain _ _ _ (by kernel_rfl)]; exact laidMet_laidAll _ (by kernel_rfl) (by kernel_rfl))) ?_
  intro W base args ds gs before hval0 hW hc hsz hL _
  have hval : ∀ (j : Nat) t v, Tryd.f9.params[j]? = some t → args[j]? = some v → Value.okWide Tryd.prog W .any base t v := hval0
  have hW' := hW
  obtain ⟨p, q, hA0, hV, rfl, _, _⟩ := hW
  have hA : DataW.TrodAll enc Tryd.prog W 0 (fun _ => true) true Tryd.f9.params.toList args.toList ds p := hA0
  rw [Tryd.params9] at hA hval
  obtain ⟨v0, v1, v2, d0, d1, d2, p0, p1, p2, rfl, rfl, rfl, h0, h1, h2⟩ := trodAll_three hA
  obtain ⟨rfl, rfl⟩ := trodVars_none hV
  have hlt : ∀ x ∈ p0, x.block < W.heap.size := fun x hx => by simpa using hW'.lt x (by simp [hx])
  obtain ⟨sc, hf, hr0⟩ := open_ops (hval 0 22 v0 rfl rfl) h0 (fun n hn => by have := List.all_eq_true.1 hsz n (DataW.weights_mem_each (j := 0) rfl rfl n hn); simpa using this)
  obtain ⟨a1, rfl, rfl, rfl, w1⟩ := open_int Tryd.underlying3 (hval 1 3 v1 rfl rfl) h1
  obtain ⟨a2, rfl, rfl, rfl, w2⟩ := open_int Tryd.underlying3 (hval 2 3 v2 rfl rfl) h2
  obtain ⟨K, hK⟩ := base_of_laid hL
  refine (below_of W (law (K := K) sc a1 a2 hf) (vs := [v0, .int .i64 a1, .int .i64 a2]) (u := .bool true) ⟨rfl, fun j hj hj' => ?_⟩ (by simp [V.isOwn]) (fun H μ v hv => hv.bool) (fun b o v h => by cases h) (fun b => Nat.zero_le _) (base_ok hK)).mono fun e W' ⟨he, bel⟩ => ?_
  · match j, hj, hj' with
    | 0, _, _ => exact .two _ _ (.one _ _ (.data _ _ hr0))
    | 1, _, _ => exact .two _ _ (.one _ _ (.data _ _ (.int _ _)))
    | 2, _, _ => exact .two _ _ (.one _ _ (.data _ _ (.int _ _)))
  · subst he
    exact ⟨_, rfl, _, _, _, [], _, [], hW', trodAll_mk1 (shut_bool Tryd.underlying4 _), trodAll_mk3 (Below.trod laidOut (by kernel_rfl) (of_decide_eq_true (by kernel_rfl)) h0 bel hlt) (shut_int Tryd.underlying3 w1) (shut_int Tryd.underlying3 w2), rfl, bel.frame _, fun h => by cases h⟩
theorem over : Rows.eufGrowsRow.holds Tryd.pinned (OpenSpec.ofChange Rows.eufGrowsSpec) :=
  OpenClaim.holds_of_wide 9 Tryd.f9 rfl rfl rfl rfl rfl rfl rfl ⟨rfl, rfl, rfl, rfl, rfl⟩ rfl rfl rfl rfl rfl (by kernel_rfl) Tryd.func9 (by kernel_rfl)
    (of_decide_eq_true (by kernel_rfl)) (by unfold Func.isWrapper; first | (rw [if_pos (by decide +kernel)]; kernel_rfl) | (rw [if_neg (by decide +kernel)]; exact ⟨rfl, rfl⟩))
    (fun os started H enc _ => lifted os started H enc)
end Go.Proofs.YtjabgfnljbnmmaaDoor.eufGrows
namespace Go.Proofs.YtjabgfnljbnmmaaDoor
theorem eufGrows_holds : Rows.EufGrowsCardSaid :=
  Claim7.holds_tied_plain_at .later [] [.data, .data, .data] true (true, "f0e185ff6017987945a297fe5d0eac8124a69dbff48b3e4e9b161e79e362512c") false
    eufGrows.over (fun _ h => by cases h) (by kernel_rfl) (fun _ h => by cases h) eufGrows_row_tie rfl ⟨rfl, rfl⟩ (by kernel_rfl) rfl
    (fun f fn hf hfn => by
      obtain rfl : f = 9 := Option.some.inj ((show Tryd.prog.funcNamed "surety/suretylaw05.EufGrows" = some 9 by kernel_rfl).symm.trans hf) |>.symm
      obtain rfl : fn = Tryd.f9 := (Option.some.inj (Tryd.func9.symm.trans hfn)).symm
      exact ⟨by kernel_rfl, fun j t ht => by
        rw [Tryd.params9] at ht
        have hm : t ∈ [22, 3, 3] := by simpa using Array.mem_of_getElem? ht
        have hall : ([22, 3, 3].all fun u => !Tryd.prog.wantsStandIn u) = true := by kernel_rfl
        exact (show Tryd.prog.wantsStandIn t = false by simpa using List.all_eq_true.1 hall t hm)⟩)
    (by kernel_rfl)
#print axioms eufGrows_holds
end Go.Proofs.YtjabgfnljbnmmaaDoor
