/- A part of the proof of a law of this seat: no condition. -/
import Derived.Test.YtjabgfnljbnmmaaDoorXA
import Derived.Test.YtjabgfnljbnmmaaDoorEufD
import Derived.Shelf.Sort.Plain
import Derived.Shelf.Lays
import Derived.WalkKit
import Derived.Test.YtjabgfnljbnmmaaDoorD3
import Derived.Test.YtjabgfnljbnmmaaDoorT1e
set_option linter.unusedVariables false
set_option linter.unusedSimpArgs false
namespace Go.Ax
section
variable {H H' : Heap} {μ μ' : Oid → Option Nat} {F : Fr} {st st' : St} {tm : Nat → Value} {w w' : World}
abbrev iRow (l : List Int) : List V := l.map fun k => V.int .i64 k
theorem repC_ints (l : List Int) : RepC H μ (iRow l) (l.map fun k => Value.int .i64 k) := by
 induction l with
 | nil => exact .nil
 | cons a r ih => exact .cons _ _ _ _ rfl rfl (.data _ _ (.int _ _)) ih
theorem rowOk_ints (l : List Int) : rowOk (iRow l) = true := by
 unfold rowOk
 simp [iRow]
theorem Rel.setRow (h : Rel H μ F st tm w) {o : Oid} {b : Nat} (hb : μ o = some b) {l l' : List Int} (ho : st.ob o = some (.cells true (iRow l))) {vs vs' : Array Value} {ty : TypeId}
  (hc : w.heap[b]? = some (.cells vs ty (0, 0))) (hc' : w'.heap[b]? = some (.cells vs' ty (0, 0))) (hsz : vs'.size = vs.size) (hs : w'.heap.size = w.heap.size) (hoth : ∀ c, c ≠ b → w'.heap[c]? = w.heap[c]?)
  (hv : vs'.toList.take l'.length = l'.map fun k => Value.int .i64 k) : Rel H μ F (st.putO o (.cells true (iRow l'))) tm w' := by
 have hlv : live st μ o = some b := live_of hb (by rw [ho]; simp)
 have hL : ∀ u, live (st.putO o (.cells true (iRow l'))) μ u = live st μ u := by
  intro u
  unfold live
  rw [St.ob_putO]
  by_cases e : o = u
  ·subst e; rw [if_pos rfl, ho]
  ·rw [if_neg e]
 have hcc : ∀ c k, c ≠ b → w'.cell? ⟨c, k, none⟩ = w.cell? ⟨c, k, none⟩ := fun c k hne => cell?_eq (hoth c hne) k
 have hnoH : ∀ k, H b k = none := h.objH o b hlv
 have ha : ∀ ℓ sz xs v, atL μ (st.putO o (.cells true (iRow l'))) tm w' ℓ (.own sz xs) v → atL μ st tm w ℓ (.own sz xs) v := by
  intro ℓ sz xs v
  cases ℓ with
  | t n => exact id
  | o u j =>
   rintro ⟨row, cs, c, h1, h2, h3, h4⟩
   rw [St.ob_putO] at h1
   by_cases e : o = u
   ·subst e
    rw [if_pos rfl] at h1
    injection h1 with h1
    injection h1 with h1 h1'
    subst h1'
    simp only [iRow, List.getElem?_map, Option.map_eq_some_iff] at h3
    obtain ⟨_, _, h3⟩ := h3
    cases h3
   ·rw [if_neg e] at h1
    refine ⟨row, cs, c, h1, h2, h3, ?_⟩
    rw [← hcc c j]
    ·exact h4
    ·rintro rfl
     exact e (h.inj o u c hlv (live_of h2 (by rw [h1]; simp)))
 refine ⟨h.env, fun c k v hh => ?_, fun c => ?_, fun u hu => ?_, ?_, fun u u' c x y => h.inj u u' c (by rw [← hL]; exact x) (by rw [← hL]; exact y), fun u c x => h.objH u c (by rw [← hL]; exact x), fun u c x => h.objF u c (by rw [← hL]; exact x),
  ⟨fun c hF => by rw [hs]; exact h.Flt.1 c hF, fun c x hx => ⟨(h.Flt.2 c x hx).1, by rw [hoth c (by rintro rfl; exact h.objF o c hlv (h.Flt.2 c x hx).1)]; exact (h.Flt.2 c x hx).2⟩⟩, ?_, ?_, fun j hj => ?_, h.base⟩
 ·have hne : c ≠ b := by rintro rfl; rw [hnoH] at hh; cases hh
  rw [hcc c k hne]; exact h.heap c k v hh
 ·by_cases e : c = b
  ·subst e
   rw [blkSize_of hc', hsz, ← blkSize_of hc]; exact h.size c
  ·rw [blkSize_eq (hoth c e)]; exact h.size c
 ·rw [St.ob_putO] at hu
  split at hu
  ·cases hu
  ·exact h.dom u hu
 ·intro u x hx hax
  rw [St.ob_putO] at hx
  split at hx
  ·rename_i e
   subst e
   injection hx with hx
   subst hx
   refine .inl ⟨b, hb, vs', ty, hc', ?_, fun _ => ?_⟩
   ·rw [List.length_map, hv]; exact repC_ints l'
   ·exact rowOk_ints l'
  ·rename_i hne
   rcases h.obs u x hx hax with ⟨c, h1, h2⟩ | h1
   ·refine .inl ⟨c, h1, h2.keep (hoth c ?_) (Le.refl _) (fun _ _ x => x)⟩
    rintro rfl
    refine hne (h.inj o u c hlv (live_of h1 ?_))
    rw [hx]; intro e; injection e with e; subst e; simp [Ob.alive] at hax
   ·exact .inr h1
 ·intro ℓ sz xs c off n cp hl2
  obtain ⟨⟨us, ty', h1, h1'⟩, h2, h3, h4⟩ := h.own ℓ sz xs c off n cp (ha _ _ _ _ hl2)
  have hne : c ≠ b := by rintro rfl; exact h3 o hlv
  exact ⟨⟨us, ty', by rw [hoth c hne]; exact h1, h1'⟩, h2, fun u => by rw [hL]; exact h3 u, h4⟩
 ·intro ℓ ℓ' c x y
  obtain ⟨sz, xs, off, n, cp, x⟩ := x
  obtain ⟨sz', xs', off', n', cp', y⟩ := y
  exact h.ownInj ℓ ℓ' c ⟨sz, xs, off, n, cp, ha _ _ _ _ x⟩ ⟨sz', xs', off', n', cp', ha _ _ _ _ y⟩
 ·rw [St.ob_putO] at hj
  by_cases e : o = .par j
  ·exact h.par j (by rw [← e, ho]; simp)
  ·rw [if_neg e] at hj; exact h.par j hj
end
end Go.Ax
namespace Go.Proofs
open Go.Shelf
def Tryd.lays189_ren : Go.Shelf.Ren := ⟨fun | 189 => 41 | 125 => 51 | 257 => 50 | 128 => 62 | 129 => 63 | 294 => 53 | 295 => 54 | 296 => 55 | 297 => 56 | 298 => 57 | 299 => 58 | 216 => 59 | 300 => 60 | 301 => 61 | 328 => 65 | 329 => 66 | 330 => 67 | 331 => 68 | 332 => 69 | 215 => 70 | 343 => 75 | n => n, fun | 28 => 31 | 3 => 3 | 46 => 102 | 0 => 0 | 51 => 112 | 53 => 114 | 4 => 4 | 183 => 105 | 182 => 104 | 131 => 81 | 5 => 5 | 9 => 9 | 218 => 116 | 222 => 120 | 228 => 128 | 229 => 129 | n => n, fun | n => n⟩
theorem Tryd.lays189 : Go.Proofs.Lays.n189 Tryd.prog Tryd.lays189_ren where
 mixed := by kernel_rfl
 f125 := Tryd.func51.trans (congrArg some (by kernel_rfl))
 f128 := Tryd.func62.trans (congrArg some (by kernel_rfl))
 f129 := Tryd.func63.trans (congrArg some (by kernel_rfl))
 f189 := Tryd.func41.trans (congrArg some (by kernel_rfl))
 f215 := Tryd.func70.trans (congrArg some (by kernel_rfl))
 f216 := Tryd.func59.trans (congrArg some (by kernel_rfl))
 f257 := Tryd.func50.trans (congrArg some (by kernel_rfl))
 f294 := Tryd.func53.trans (congrArg some (by kernel_rfl))
 f295 := Tryd.func54.trans (congrArg some (by kernel_rfl))
 f296 := Tryd.func55.trans (congrArg some (by kernel_rfl))
 f297 := Tryd.func56.trans (congrArg some (by kernel_rfl))
 f298 := Tryd.func57.trans (congrArg some (by kernel_rfl))
 f299 := Tryd.func58.trans (congrArg some (by kernel_rfl))
 f300 := Tryd.func60.trans (congrArg some (by kernel_rfl))
 f301 := Tryd.func61.trans (congrArg some (by kernel_rfl))
 f328 := Tryd.func65.trans (congrArg some (by kernel_rfl))
 f329 := Tryd.func66.trans (congrArg some (by kernel_rfl))
 f330 := Tryd.func67.trans (congrArg some (by kernel_rfl))
 f331 := Tryd.func68.trans (congrArg some (by kernel_rfl))
 f332 := Tryd.func69.trans (congrArg some (by kernel_rfl))
 f343 := Tryd.func75.trans (congrArg some (by kernel_rfl))
 t0 := Tryd.underlying0
 a0 := Tryd.isAgg0
 z0 := Tryd.sizeOf0
 v0 := Tryd.zeroValue0
 t3 := Tryd.underlying3
 a3 := Tryd.isAgg3
 z3 := Tryd.sizeOf3
 v3 := Tryd.zeroValue3
 t4 := Tryd.underlying4
 a4 := Tryd.isAgg4
 z4 := Tryd.sizeOf4
 v4 := Tryd.zeroValue4
 t5 := Tryd.underlying5
 a5 := Tryd.isAgg5
 z5 := Tryd.sizeOf5
 v5 := Tryd.zeroValue5
 t9 := Tryd.underlying9
 a9 := Tryd.isAgg9
 z9 := Tryd.sizeOf9
 v9 := Tryd.zeroValue9
 t28 := Tryd.underlying31
 a28 := Tryd.isAgg31
 z28 := Tryd.sizeOf31
 v28 := Tryd.zeroValue31
 t46 := Tryd.underlying102
 a46 := Tryd.isAgg102
 z46 := Tryd.sizeOf102
 v46 := Tryd.zeroValue102
 t51 := Tryd.underlying112
 a51 := Tryd.isAgg112
 z51 := Tryd.sizeOf112
 v51 := Tryd.zeroValue112
 t53 := Tryd.underlying114
 a53 := Tryd.isAgg114
 z53 := Tryd.sizeOf114
 v53 := Tryd.zeroValue114
 t131 := Tryd.underlying81
 a131 := Tryd.isAgg81
 z131 := Tryd.sizeOf81
 v131 := Tryd.zeroValue81
 t182 := Tryd.underlying104
 a182 := Tryd.isAgg104
 z182 := Tryd.sizeOf104
 v182 := Tryd.zeroValue104
 t183 := Tryd.underlying105
 a183 := Tryd.isAgg105
 z183 := Tryd.sizeOf105
 v183 := Tryd.zeroValue105
 t218 := Tryd.underlying116
 a218 := Tryd.isAgg116
 z218 := Tryd.sizeOf116
 v218 := Tryd.zeroValue116
 t222 := Tryd.underlying120
 a222 := Tryd.isAgg120
 z222 := Tryd.sizeOf120
 v222 := Tryd.zeroValue120
 t228 := Tryd.underlying128
 a228 := Tryd.isAgg128
 z228 := Tryd.sizeOf128
 v228 := Tryd.zeroValue128
 t229 := Tryd.underlying129
 a229 := Tryd.isAgg129
 z229 := Tryd.sizeOf129
 v229 := Tryd.zeroValue129
end Go.Proofs
namespace Go.Proofs.YtjabgfnljbnmmaaDoor
open Go.Ax Go.RowKit Go.Sort
def srt (l : List Int) : List Int := l.mergeSort fun x y => decide (x ≤ y)
theorem srt_len (l : List Int) : (srt l).length = l.length := List.length_mergeSort _
theorem sort_ok {B : Heap} {l : List Int} (hne : l ≠ []) (hl : l.length ≤ 1000000) : Ok B 41 [.sl 1 (.par 0) l.length] [.cells true (iRow l)] (.tup []) [.cells true (iRow (srt l))] [] := by
 refine ⟨Tryd.call41, rfl, fun H F w μ us hFB hus hr => ?_⟩
 obtain ⟨v, rfl⟩ : ∃ v, us = [v] := by
  cases us with
  | nil => cases hus
  | cons v r => cases r with
   | nil => exact ⟨v, rfl⟩
   | cons _ _ => simp at hus
 have hv := hr.env 0
 rw [conSt_tm] at hv
 obtain ⟨b, c, hb, e1, e2⟩ := sl_inv (v := v) hv (fun e => hne (List.length_eq_zero_iff.1 e))
 have hob : (conSt [.sl 1 (.par 0) l.length] [.cells true (iRow l)] []).ob (.par 0) = some (.cells true (iRow l)) := by rw [conSt_ob]; rfl
 obtain ⟨b', hb', vs, ty, k1, k2, _⟩ : ∃ b', μ (.par 0) = some b' ∧ RepOb H μ w b' (.cells true (iRow l)) := by
  rcases hr.obs _ _ hob rfl with h1 | ⟨h1, _⟩
  ·exact h1
  ·exfalso; apply hne; injection h1 with _ h1; exact List.map_eq_nil_iff.1 h1
 rw [hb] at hb'
 cases hb'
 have hlen : (iRow l).length = l.length := List.length_map ..
 rw [hlen] at k2
 have hl2 := k2.length
 rw [hlen, List.length_take] at hl2
 have hvs : l.length ≤ vs.size := by have : vs.toList.length = vs.size := rfl; omega
 have hval : ∀ j (hj : j < l.length), vs[j]? = some (.int .i64 l[j]) := by
  intro j hj
  obtain ⟨_, _, h3⟩ := k2.get j (by rw [hlen]; exact hj) (by rw [List.length_take]; have : vs.toList.length = vs.size := rfl; omega)
  simp only [iRow, List.getElem_map] at h3
  have h4 := (RepS.two _ _ (.one _ _ h3)).int
  have h5 : (vs.toList.take l.length)[j]? = some (.int .i64 l[j]) := by rw [List.getElem?_eq_getElem (by rw [List.length_take]; have : vs.toList.length = vs.size := rfl; omega), h4]
  rw [List.getElem?_take, if_pos hj] at h5
  simpa using h5
 have hH : Go.Sort.Holds (Value.int .i64) w b 0 l.toArray := by
  intro j hj
  have hj' : j < l.length := by simpa using hj
  refine ⟨?_, ?_⟩
  ·rw [Nat.zero_add, cell?_of k1, hval j hj']
   simp [getElem!_pos, hj']
  ·simp [World.frozen?, k1]
 subst e1
 refine (Any.slices_Sort_int Tryd.lays189 b 0 c l w hH (Array.getElem?_eq_some_iff.1 k1).1 (by omega)).mono ?_
 rintro e w' ⟨rfl, n, os, rfl⟩
 have hsl : (srt l).length = l.length := srt_len l
 have hput : (putRow (Value.int .i64) (Go.Sort.ahead w n) b 0 (srt l).toArray).heap[b]? = some (.cells (putCells (Value.int .i64) 0 (srt l).toArray vs) ty (0, 0)) := by
  simp only [putRow, mapBlock, Go.Sort.ahead, Array.getElem?_modify, if_true, k1]
  rfl
 have hoth : ∀ d, d ≠ b → (putRow (Value.int .i64) (Go.Sort.ahead w n) b 0 (srt l).toArray).heap[d]? = w.heap[d]? := by
  intro d hd
  simp only [putRow, mapBlock, Go.Sort.ahead, Array.getElem?_modify, if_neg (Ne.symm hd)]
 have r1 := hr.setRow (l' := srt l) hb hob k1 hput (by simp [putCells]) (by simp [Go.Sort.ahead]) hoth (by
  apply List.ext_getElem?
  intro j
  rw [List.getElem?_take]
  by_cases hj : j < (srt l).length
  ·rw [if_pos hj]
   have : j < vs.size := by omega
   simp [putCells, hj, this, getElem!_pos]
  ·rw [if_neg hj, List.getElem?_eq_none (by simp; omega)])
 have r2 := r1.grow os.toList (w' := Go.Sort.grow (putRow (Value.int .i64) (Go.Sort.ahead w n) b 0 (srt l).toArray) os) (by simp [Go.Sort.grow])
 have hlv : live (conSt [.sl 1 (.par 0) l.length] [.cells true (iRow l)] []) μ (.par 0) = some b := live_of hb (by rw [hob]; simp)
 have hnoF : ¬ F b := hr.objF _ b hlv
 refine ⟨.tuple #[], H, μ, F, rfl, rfl, rfl, fun _ _ _ => rfl, ?_, ⟨⟨rfl, rfl, rfl⟩, Le.refl _, by simp [Go.Sort.grow, Go.Sort.ahead], fun d hd hlt => ?_, fun _ _ _ _ => rfl⟩⟩
 ·have r3 := r2.put (t := 0) (x := .tup []) (v := .tuple #[]) (.tup _ _ .nil) (fun sz xs b off n c e => by cases e)
  refine (r3.congr (st' := conSt [.tup []] [.cells true (iRow (srt l))] []) (fun t => ?_) (fun o => ?_)).tmCongr fun t => ?_
  ·rw [conSt_tm]
   cases t with
   | zero => rfl
   | succ t => show _ = (conSt [.sl 1 (.par 0) l.length] [.cells true (iRow l)] []).tm (t + 1); rw [conSt_tm]; rfl
  ·rw [conSt_ob]
   show _ = if Oid.par 0 = o then _ else (conSt [.sl 1 (.par 0) l.length] [.cells true (iRow l)] []).ob o
   by_cases e : Oid.par 0 = o
   ·subst e; simp
   ·rw [if_neg e, conSt_ob]
    cases o with
    | par j => cases j with
     | zero => exact absurd rfl e
     | succ j => rfl
    | sub t j => cases t <;> rfl
    | _ => rfl
  ·simp only [upd]
   cases t with
   | zero => rfl
   | succ t => simp [argTm, noTm]
 ·have hne : d ≠ b := by rintro rfl; exact hnoF hd
  simp only [Go.Sort.grow]
  rw [Array.getElem?_append_left (by simp [Go.Sort.ahead]; exact hlt)]
  exact hoth d hne
theorem classes_walk (p : Option Addr) (w : World) : Calls Tryd.prog 28 #[.pointer p] w fun e w' => e = .returned (.func (.func 40) #[] #[.pointer (some ⟨w.heap.size, 0, none⟩)]) ∧ w' = w.alloc (.cells #[.pointer p] 24) := by
 go_enter Tryd.func28, Tryd.ntmps28
 go_wp2
 go_ret
 exact ⟨rfl, rfl⟩
end Go.Proofs.YtjabgfnljbnmmaaDoor
namespace Go.Proofs.YtjabgfnljbnmmaaDoor
open Go.Ax Go.RowKit
theorem classes_ok {B : Heap} {objs : List Ob} : Ok B 28 [.ref (.par 0) 0] objs (.clo 40 [] [.ref (.sub 0 0) 0]) objs [.cells false [.ref (.par 0) 0]] := by
 refine ⟨Tryd.call28, rfl, fun H F w μ us hFB hus hr => ?_⟩
 obtain ⟨v, rfl⟩ : ∃ v, us = [v] := by
  cases us with
  | nil => cases hus
  | cons v r => cases r with
   | nil => exact ⟨v, rfl⟩
   | cons _ _ => simp at hus
 have hv := hr.env 0
 rw [conSt_tm] at hv
 obtain ⟨g, hg, e1⟩ : ∃ g, μ (.par 0) = some g ∧ v = .pointer (some ⟨g, 0, none⟩) := by
  have hv' : RepS H μ (.ref (.par 0) 0) v := hv
  cases hv' with
  | two _ _ h => cases h with | one _ _ h => cases h with
   | data _ _ h => cases h
   | ref _ b _ h => exact ⟨b, h, rfl⟩
 subst e1
 refine (classes_walk _ w).mono ?_
 rintro e w' ⟨rfl, rfl⟩
 have hh : (w.alloc (.cells #[.pointer (some ⟨g, 0, none⟩)] 24)).heap = w.heap.push (.cells #[.pointer (some ⟨g, 0, none⟩)] 24) := rfl
 have r1 := hr.grow [.cells #[.pointer (some ⟨g, 0, none⟩)] 24] (w' := w.alloc (.cells #[.pointer (some ⟨g, 0, none⟩)] 24)) (by rw [hh]; simp)
 have hno : (conSt [.ref (.par 0) 0] objs []).ob (.sub 0 0) = none := by rw [conSt_ob]; rfl
 have hnb : ∀ u, live (conSt [.ref (.par 0) 0] objs []) μ u ≠ some w.heap.size := fun u hu => by
  obtain ⟨_, _, _, _, hlt⟩ := hr.obLt hu
  omega
 have hblk : (w.alloc (.cells #[.pointer (some ⟨g, 0, none⟩)] 24)).heap[w.heap.size]? = some (.cells #[.pointer (some ⟨g, 0, none⟩)] 24) := by rw [hh]; simp
 have r2 := r1.addOb (o := .sub 0 0) (fun j => by simp) hno (x := .cells false [.ref (.par 0) 0]) rfl (b := w.heap.size)
  ⟨_, _, hblk, .cons _ _ _ _ rfl rfl (.ref _ _ _ (by simp [updO, hg])) .nil, fun h => by cases h⟩ hnb (fun k => hr.noNew k) (fun hF => by have := hr.Flt.1 _ hF; omega)
  (fun ℓ => hr.noHold hh ℓ) (fun row cs j sz xs b' off n c e h1 _ => by
   injection e with e1 e2
   subst e2
   cases j with
   | zero => cases h1
   | succ j => simp at h1) (fun j j' b' h1 h2 => by
   obtain ⟨row, cs, sz, xs, off, n, c, e, h1, _⟩ := h1
   injection e with e1 e2
   subst e2
   cases j with
   | zero => cases h1
   | succ j => simp at h1)
 refine ⟨_, H, updO μ (.sub 0 0) (some w.heap.size), F, rfl, rfl, rfl, fun j _ _ => by simp [updO], ?_, ⟨⟨rfl, rfl, rfl⟩, Le.refl _, by rw [hh]; simp, fun d hd hlt => by rw [hh, Array.getElem?_push, if_neg (by omega)], fun _ _ _ _ => rfl⟩⟩
 have r3 := r2.put (t := 0) (x := .clo 40 [] [.ref (.sub 0 0) 0]) (v := .func (.func 40) #[] #[.pointer (some ⟨w.heap.size, 0, none⟩)])
  (.two _ _ (.clo 40 [] [.ref (.sub 0 0) 0] [] [.pointer (some ⟨w.heap.size, 0, none⟩)] .nil (.cons _ _ _ _ rfl rfl (.ref _ _ _ (by simp [updO])) .nil))) (fun sz xs b off n c e => by cases e)
 refine (r3.congr (st' := conSt [.clo 40 [] [.ref (.sub 0 0) 0]] objs [.cells false [.ref (.par 0) 0]]) (fun t => ?_) (fun o => ?_)).tmCongr fun t => ?_
 ·rw [conSt_tm]
  cases t with
  | zero => rfl
  | succ t => show _ = (conSt [.ref (.par 0) 0] objs []).tm (t + 1); rw [conSt_tm]; rfl
 ·rw [conSt_ob]
  show _ = if Oid.sub 0 0 = o then _ else (conSt [.ref (.par 0) 0] objs []).ob o
  by_cases e : Oid.sub 0 0 = o
  ·subst e; simp
  ·rw [if_neg e, conSt_ob]
   cases o with
   | sub t j => cases t with
    | zero => cases j with
     | zero => exact absurd rfl e
     | succ j => rfl
    | succ t => rfl
   | _ => rfl
 ·simp only [upd]
  cases t with
  | zero => rfl
  | succ t => simp [argTm, noTm]
end Go.Proofs.YtjabgfnljbnmmaaDoor
namespace Go.Ax
section
variable {H H' : Heap} {μ μ' : Oid → Option Nat} {F : Fr} {st st' : St} {tm tm' : Nat → Value} {w w' : World}
theorem Rel.tmAny (h : Rel H μ F st tm w) (hh : ∀ t, st.tm t = .any ∨ tm' t = tm t) : Rel H μ F st tm' w := by
 have ha : ∀ ℓ sz xs v, atL μ st tm' w ℓ (.own sz xs) v → atL μ st tm w ℓ (.own sz xs) v := by
  intro ℓ sz xs v h1
  cases ℓ with
  | t n =>
   obtain ⟨h1, h2⟩ := h1
   rcases hh n with e | e
   ·rw [e] at h1; cases h1
   ·exact ⟨h1, e ▸ h2⟩
  | o u j => exact h1
 refine ⟨fun t => ?_, h.heap, h.size, h.dom, h.obs, h.inj, h.objH, h.objF, h.Flt, fun ℓ sz xs b off n c hl => h.own ℓ sz xs b off n c (ha _ _ _ _ hl), ?_, h.par, h.base⟩
 ·rcases hh t with e | e
  ·rw [e]; exact .two _ _ (.one _ _ (.any _))
  ·rw [e]; exact h.env t
 ·intro ℓ ℓ' b x y
  obtain ⟨sz, xs, off, n, cp, x⟩ := x
  obtain ⟨sz', xs', off', n', cp', y⟩ := y
  exact h.ownInj ℓ ℓ' b ⟨sz, xs, off, n, cp, ha _ _ _ _ x⟩ ⟨sz', xs', off', n', cp', ha _ _ _ _ y⟩
def Fr.plus (F : Fr) (l : Nat) : Fr := ⟨fun b => F.F b ∨ b = l, F.G, F.B⟩
theorem Rel.fence (h : Rel H μ F st tm w) {l : Nat} {o : Obj} (hl : w.heap[l]? = some o) (hb : bare o = true) : Rel H μ (F.plus l) st tm w := by
 have hlt : l < w.heap.size := (Array.getElem?_eq_some_iff.1 hl).1
 refine ⟨h.env, h.heap, h.size, h.dom, h.obs, h.inj, h.objH, fun u b hu hf => ?_, ⟨fun b hf => ?_, fun b x hx => ⟨.inl (h.Flt.2 b x hx).1, (h.Flt.2 b x hx).2⟩⟩, fun ℓ sz xs b off n c hl2 => ?_, h.ownInj, h.par, h.base⟩
 ·rcases hf with hf | rfl
  ·exact h.objF u b hu hf
  ·obtain ⟨x, h1, h2, h3, h4⟩ := h.obLt hu
   have hx : ∃ y, st.ob u = some y ∧ y.alive = true ∧ μ u = some b := by
    unfold live at hu
    cases hob : st.ob u with
    | none => rw [hob] at hu; have := h.dom u hob; rw [this] at hu; cases hu
    | some y =>
     rw [hob] at hu
     cases y with
     | dead => cases hu
     | cells r cs => exact ⟨_, rfl, rfl, hu⟩
     | map bs l => exact ⟨_, rfl, rfl, hu⟩
   obtain ⟨y, y1, y2, y3⟩ := hx
   rcases h.obs u y y1 y2 with ⟨c, c1, c2⟩ | ⟨c1, c2⟩
   ·rw [y3] at c1
    cases c1
    cases y with
    | cells r cs => obtain ⟨vs, ty, e, _⟩ := c2; rw [hl] at e; cases e; simp [bare] at hb
    | map bs m => obtain ⟨es, e, _⟩ := c2; rw [hl] at e; cases e; simp [bare] at hb
    | dead => cases y2
   ·rw [y3] at c2; cases c2
 ·rcases hf with hf | rfl
  ·exact h.Flt.1 b hf
  ·exact hlt
 ·obtain ⟨⟨vs, ty, h1, h1'⟩, h2, h3, h4⟩ := h.own ℓ sz xs b off n c hl2
  refine ⟨⟨vs, ty, h1, h1'⟩, h2, h3, fun hf => ?_⟩
  rcases hf with hf | rfl
  ·exact h4 hf
  ·rw [hl] at h1; cases h1; simp [bare] at hb
theorem Rel.unfence {l : Nat} (h : Rel H μ (F.plus l) st tm w) (hB : ∀ b o, F.B.blk b = some o → F.F b) : Rel H μ F st tm w :=
 ⟨h.env, h.heap, h.size, h.dom, h.obs, h.inj, h.objH, fun u b hu hf => h.objF u b hu (.inl hf), ⟨fun b hf => h.Flt.1 b (.inl hf), fun b x hx => ⟨hB b x hx, (h.Flt.2 b x hx).2⟩⟩,
  fun ℓ sz xs b off n c hl => ⟨(h.own ℓ sz xs b off n c hl).blk, (h.own ℓ sz xs b off n c hl).free, (h.own ℓ sz xs b off n c hl).noobj, fun hf => (h.own ℓ sz xs b off n c hl).nofr (.inl hf)⟩, h.ownInj, h.par, h.base⟩
theorem Ext.unplus {l : Nat} (h : Ext (F.plus l) H w H' w') : Ext F H w H' w' := h.sub fun b hb => .inl hb
theorem Rel.turnF (h : Rel H μ F st tm w) {l : Nat} {o o' : Obj} (hl : w.heap[l]? = some o) (hb : bare o = true) (hb' : bare o' = true) (hF : F.B.blk l = none) : Rel H μ F st tm (w.putObj l o') := by
 have hlt : l < w.heap.size := (Array.getElem?_eq_some_iff.1 hl).1
 have ho : ∀ b, b ≠ l → (w.putObj l o').heap[b]? = w.heap[b]? := fun b hne => World.putObj_heap_other hne
 have hl' : (w.putObj l o').heap[l]? = some o' := World.putObj_heap_same hlt
 have hs : (w.putObj l o').heap.size = w.heap.size := World.putObj_size
 generalize w.putObj l o' = w' at *
 have hc : ∀ b k, w'.cell? ⟨b, k, none⟩ = w.cell? ⟨b, k, none⟩ := by
  intro b k
  by_cases e : b = l
  ·subst e
   have h1 : w.cell? ⟨b, k, none⟩ = none := by
    simp only [World.cell?, hl]
    cases o <;> first | rfl | simp [bare] at hb
   have h2 : w'.cell? ⟨b, k, none⟩ = none := by
    simp only [World.cell?, hl']
    cases o' <;> first | rfl | simp [bare] at hb'
   rw [h1, h2]
  ·exact cell?_eq (ho b e) k
 have hz : ∀ b, blkSize w' b = blkSize w b := by
  intro b
  by_cases e : b = l
  ·subst e
   simp only [blkSize, hl, hl']
   cases o <;> cases o' <;> first | rfl | simp [bare] at hb hb'
  ·exact blkSize_eq (ho b e)
 have ha : ∀ ℓ x v, atL μ st tm w' ℓ x v ↔ atL μ st tm w ℓ x v := by
  intro ℓ x v
  cases ℓ <;> simp [atL, hc]
 have hho : ∀ ℓ b, Holds μ st tm w' ℓ b ↔ Holds μ st tm w ℓ b := by simp [Holds, ha]
 refine ⟨h.env, fun b o v x => by rw [hc]; exact h.heap b o v x, fun b => by rw [hz]; exact h.size b, h.dom, ?_, h.inj, h.objH, h.objF,
  ⟨fun b hb => by rw [hs]; exact h.Flt.1 b hb, fun b x hx => ⟨(h.Flt.2 b x hx).1, by rw [ho b (fun e => by rw [e, hF] at hx; cases hx)]; exact (h.Flt.2 b x hx).2⟩⟩, ?_, fun ℓ ℓ' b x y => h.ownInj ℓ ℓ' b ((hho _ _).1 x) ((hho _ _).1 y), h.par, h.base⟩
 ·intro u x hx hax
  rcases h.obs u x hx hax with ⟨b, h1, h2⟩ | h1
  ·refine .inl ⟨b, h1, ?_⟩
   have hne : b ≠ l := by
    rintro rfl
    cases x with
    | cells row cs => obtain ⟨vs, ty, e, _⟩ := h2; rw [hl] at e; cases e; simp [bare] at hb
    | map base m => obtain ⟨es, e, _⟩ := h2; rw [hl] at e; cases e; simp [bare] at hb
    | dead => simp [Ob.alive] at hax
   exact h2.keep (ho b hne) (Le.refl _) (fun _ _ x => x)
  ·exact .inr h1
 ·intro ℓ sz xs b off n c hl2
  obtain ⟨⟨vs, ty, h1, h1'⟩, h2, h3, h4⟩ := h.own ℓ sz xs b off n c ((ha _ _ _).1 hl2)
  have hne : b ≠ l := by rintro rfl; rw [hl] at h1; cases h1; simp [bare] at hb
  exact ⟨⟨vs, ty, by rw [ho b hne]; exact h1, h1'⟩, h2, h3, h4⟩
theorem Ext.turn {l : Nat} (o' : Obj) (hF : ¬ F.F l) : Ext F H w H (w.putObj l o') :=
 ⟨⟨rfl, rfl, rfl⟩, Le.refl _, by rw [World.putObj_size]; exact Nat.le_refl _, fun b hb _ => World.putObj_heap_other (by rintro rfl; exact hF hb), fun _ _ _ _ => rfl⟩
theorem pseudo {P : Program} {T : Nat → Option TI} (hT : TabOk P T) (hr : Rel H μ F st tm w) {f g : FuncId} {vs : List V} {nw nw' d : Nat} {args : List V} {objs : List Ob} {way : Way} {a : Act} {m : Nat} {D : Pin}
  (hvs : RepArgs H μ vs a.tmps.toList) (hsz : a.tmps.size = m) (hdf : a.defers = D.ds) (hfix : ∀ t, D.ks.contains t = true → a.tmps[t]? = some (D.fx t))
  (hc : (callO none nw f vs (some d)).run st = some (.call g args objs nw' way)) :
  ∃ (μ0 : Oid → Option Nat) (F0 : Fr), F0.B = F.B ∧ AtS H μ0 F0 (initM (mvOf args objs) args objs) a w m D ∧
   ∀ (res : Array ResultVar) (r : V) (objs' news : List Ob) (nwl : List Oid) (H' : Heap) (μ' : Oid → Option Nat) (st' : St) (a' : Act) (w' : World), AtS H' μ' F0 st' a' w' m D → Ext F0 H w H' w' → objs'.length = objs.length → news.length ≤ nw' → nwOk nwl = true →
    EndA T res.toList objs.length (mvOf args objs) nwl r objs' news .normal st' → ∀ fn : Func, fn.results = res →
    ∃ u H2 μ2, (results fn a'.tmps).run P w' = .ok u w' ∧ Rel H2 μ2 F (st.app (back way r objs' news)) (after (some d) tm u) w' ∧ Ext F H w H2 w' := by
 obtain ⟨rfl, c1, Fc, μc, c2, c3, c4⟩ := callO_run (P := P) hr hvs (by rintro j t h; cases h) hc
 obtain ⟨μ0, h1, h2⟩ := start_at (D := D) (mv := mvOf args objs) hsz hdf hfix c1 c3
 refine ⟨μ0, ⟨Fc.F, fun j => if j < objs.length then Fc.G j else none, Fc.B⟩, c2, h1, fun res r objs' news nwl H' μ' st' a' w' hat' hx hlen hnw hnwl hend fn hfn => ?_⟩
 subst hfn
 obtain ⟨_, e1, e2, e3⟩ := hend
 obtain ⟨u, k1, v, H2, μ2, F', k2, k3, k4, k5, k6, k7⟩ := fin_at (fn := fn) (μ := μc) (F := Fc) hT hlen hnwl h2 hat' hx e1 e2 e3
 cases k2
 obtain ⟨μ3, m1, m2⟩ := c4 r objs' news u H2 μ2 F' w' hlen hnw k3 (k4.trans c2) k5 k6 k7
 exact ⟨u, H2, μ3, k1, m1, m2⟩
end
end Go.Ax
namespace Go.Ax
def fstC : Code → Code
 | .seq a _ => a
 | c => c
def sndC : Code → Code
 | .seq _ b => b
 | c => c
def inC : Code → Code
 | .block _ c => c
 | .loop c => c
 | c => c
def opsC : Code → Array Oper
 | .region _ ops _ => ops
 | _ => #[]
def rfC (c : Code) : Option (Code × Code × Code × Code) := (cutRF c).map fun q => (q.1, q.2.1.2.2.1, q.2.1.2.2.2, q.2.2.2)
end Go.Ax
namespace Go.Proofs.YtjabgfnljbnmmaaDoor
open Go.Ax
noncomputable def b10 : Code := Tryd.f10.body.getD .skip
noncomputable def pre10 : Code := ((rfC b10).map (·.1)).getD .skip
noncomputable def asg10 : Code := ((rfC b10).map (·.2.1)).getD .skip
noncomputable def bdy10 : Code := ((rfC b10).map (·.2.2.1)).getD .skip
noncomputable def tl10 : Code := ((rfC b10).map (·.2.2.2)).getD .skip
noncomputable def b40 : Code := Tryd.f40.body.getD .skip
noncomputable def lp40 : Code := inC (inC (sndC b40))
noncomputable def i0 : Code := fstC b40
noncomputable def i1 : Code := fstC lp40
noncomputable def r40 : Code := inC (fstC (sndC (sndC lp40)))
noncomputable def i2 : Code := fstC r40
noncomputable def i3 : Code := fstC (sndC r40)
noncomputable def i4 : Code := fstC (sndC (sndC r40))
noncomputable def i5 : Code := fstC (sndC (sndC (sndC r40)))
noncomputable def i6 : Code := sndC (sndC (sndC lp40))
noncomputable def ops5 : List Oper := (opsC i5).toList
def h10 := hints [] [([0, 3, 4], [.loc 3, .loc 4]), ([], []), ([0, 3, 4, 16], [.loc 3, .loc 4]), ([], []), ([4], [.loc 4]), ([], []), ([3, 4, 5, 6, 7], [.sub 19 0, .sub 19 1, .sub 19 2, .sub 19 3, .sub 19 4, .sub 19 5, .sub 19 6, .loc 3, .loc 4, .loc 6]), ([], []), ([3, 4, 5, 6, 24], [.sub 19 0, .sub 19 1, .sub 19 2, .sub 19 3, .sub 19 4, .sub 19 5, .sub 19 6, .loc 3, .loc 4, .loc 6]), ([], []), ([4], [.loc 4]), ([], []), ([3, 4, 5, 8], [.sub 19 0, .sub 19 1, .sub 19 2, .sub 19 3, .sub 19 4, .sub 19 5, .sub 19 6, .sub 26 0, .loc 3, .loc 4]), ([], []), ([3, 4, 5, 8, 9], [.sub 19 0, .sub 19 1, .sub 19 2, .sub 19 3, .sub 19 4, .sub 19 5, .sub 19 6, .sub 26 0, .loc 3, .loc 4, .loc 9]), ([], []), ([3, 4, 5, 8, 9, 10], [.sub 19 0, .sub 19 1, .sub 19 2, .sub 19 3, .sub 19 4, .sub 19 5, .sub 19 6, .sub 26 0, .loc 3, .loc 4, .loc 9]), ([], []), ([3, 4, 5, 8, 9, 10, 30], [.sub 19 0, .sub 19 1, .sub 19 2, .sub 19 3, .sub 19 4, .sub 19 5, .sub 19 6, .sub 26 0, .loc 3, .loc 4, .loc 9]), ([3, 4, 5, 8, 9, 10], [.sub 19 0, .sub 19 1, .sub 19 2, .sub 19 3, .sub 19 4, .sub 19 5, .sub 19 6, .sub 26 0, .loc 3, .loc 4, .loc 9]), ([3, 4, 5, 8, 9, 10], [.sub 19 0, .sub 19 1, .sub 19 2, .sub 19 3, .sub 19 4, .sub 19 5, .sub 19 6, .sub 26 0, .loc 3, .loc 4, .loc 9]), ([], []), ([3, 4, 5, 8, 9, 10, 38], [.sub 19 0, .sub 19 1, .sub 19 2, .sub 19 3, .sub 19 4, .sub 19 5, .sub 19 6, .sub 26 0, .loc 3, .loc 4, .loc 9]), ([], []), ([3, 4, 5, 8, 9, 10, 11], [.sub 19 0, .sub 19 1, .sub 19 2, .sub 19 3, .sub 19 4, .sub 19 5, .sub 19 6, .sub 26 0, .loc 3, .loc 4, .loc 9]), ([], []), ([3, 4, 5, 8, 9, 10, 11, 12], [.sub 19 0, .sub 19 1, .sub 19 2, .sub 19 3, .sub 19 4, .sub 19 5, .sub 19 6, .sub 26 0, .loc 3, .loc 4, .loc 9]), ([], []), ([3, 4, 5, 8, 9, 10, 11, 12, 42], [.sub 19 0, .sub 19 1, .sub 19 2, .sub 19 3, .sub 19 4, .sub 19 5, .sub 19 6, .sub 26 0, .loc 3, .loc 4, .loc 9]), ([3, 4, 5, 8, 9, 10, 11, 12], [.sub 19 0, .sub 19 1, .sub 19 2, .sub 19 3, .sub 19 4, .sub 19 5, .sub 19 6, .sub 26 0, .loc 3, .loc 4, .loc 9]), ([3, 4, 5, 8, 9, 10, 11, 12], [.sub 19 0, .sub 19 1, .sub 19 2, .sub 19 3, .sub 19 4, .sub 19 5, .sub 19 6, .sub 26 0, .loc 3, .loc 4, .loc 9]), ([], []), ([3, 4, 5, 8, 9, 10, 11, 12, 50], [.sub 19 0, .sub 19 1, .sub 19 2, .sub 19 3, .sub 19 4, .sub 19 5, .sub 19 6, .sub 26 0, .loc 3, .loc 4, .loc 9]), ([], []), ([3, 4, 5, 8, 9, 10, 11, 12], [.sub 19 0, .sub 19 1, .sub 19 2, .sub 19 3, .sub 19 4, .sub 19 5, .sub 19 6, .sub 26 0, .loc 3, .loc 4, .loc 9]), ([], []), ([3, 4, 5, 8, 9, 10], [.sub 19 0, .sub 19 1, .sub 19 2, .sub 19 3, .sub 19 4, .sub 19 5, .sub 19 6, .sub 26 0, .loc 3, .loc 4, .loc 9]), ([], []), ([3, 4, 5, 9, 13], [.sub 19 0, .sub 19 1, .sub 19 2, .sub 19 3, .sub 19 4, .sub 19 5, .sub 19 6, .loc 3, .loc 4, .loc 9, .loc 13]), ([], []), ([3, 4, 9, 13, 60], [.sub 19 0, .sub 19 1, .sub 19 2, .sub 19 3, .sub 19 4, .sub 19 5, .sub 19 6, .sub 60 0, .loc 3, .loc 4, .loc 9, .loc 13]), ([], []), ([3, 4, 9, 13, 14, 60], [.sub 19 0, .sub 19 1, .sub 19 2, .sub 19 3, .sub 19 4, .sub 19 5, .sub 19 6, .sub 60 0, .loc 3, .loc 4, .loc 9, .loc 13]), ([], []), ([3, 4, 9, 13, 60, 74], [.sub 19 0, .sub 19 1, .sub 19 2, .sub 19 3, .sub 19 4, .sub 19 5, .sub 19 6, .sub 60 0, .loc 3, .loc 4, .loc 9, .loc 13]), ([], []), ([4], [.loc 4]), ([], []), ([3, 4, 9, 13, 60], [.sub 19 0, .sub 19 1, .sub 19 2, .sub 19 3, .sub 19 4, .sub 19 5, .sub 19 6, .sub 60 0, .loc 3, .loc 4, .loc 9, .loc 13]), ([], []), ([3, 4, 9, 13, 60, 79], [.sub 19 0, .sub 19 1, .sub 19 2, .sub 19 3, .sub 19 4, .sub 19 5, .sub 19 6, .sub 60 0, .loc 3, .loc 4, .loc 9, .loc 13]), ([], []), ([4], [.loc 4]), ([], []), ([3, 4, 9, 13, 60], [.sub 19 0, .sub 19 1, .sub 19 2, .sub 19 3, .sub 19 4, .sub 19 5, .sub 19 6, .sub 60 0, .loc 3, .loc 4, .loc 9, .loc 13]), ([3, 4, 9, 13, 60], [.sub 19 0, .sub 19 1, .sub 19 2, .sub 19 3, .sub 19 4, .sub 19 5, .sub 19 6, .sub 60 0, .loc 3, .loc 4, .loc 9, .loc 13])]
def o10 : Opt := ⟨[4], [], [], [(12, 7), (15, 1), (28, 1)]⟩
def h40 := hints [.par 3, .par 4, .par 5, .par 7] [([0, 1, 9, 10], [.par 0, .par 1, .par 2, .par 3, .par 4, .par 5, .par 6, .par 7]), ([], []), ([0, 1, 9, 10, 11], [.par 0, .par 1, .par 2, .par 3, .par 4, .par 5, .par 6, .par 7]), ([0, 1, 9, 10], [.par 0, .par 1, .par 2, .par 3, .par 4, .par 5, .par 6, .par 7]), ([0, 1, 3, 9, 10], [.par 0, .par 1, .par 2, .par 3, .par 4, .par 5, .par 6, .par 7]), ([], []), ([0, 1, 3, 4, 9, 10], [.par 0, .par 1, .par 2, .par 3, .par 4, .par 5, .par 6, .par 7, .sub 22 0]), ([], []), ([0, 1, 3, 4, 9, 10], [.par 0, .par 1, .par 2, .par 3, .par 4, .par 5, .par 6, .par 7, .sub 22 0]), ([], []), ([0, 1, 9, 10, 35], [.par 0, .par 1, .par 2, .par 3, .par 4, .par 5, .par 6, .par 7]), ([], []), ([0, 1, 9, 10], [.par 0, .par 1, .par 2, .par 3, .par 4, .par 5, .par 6, .par 7]), ([], [])]
def o40 : Opt := ⟨[], [], [], [(31, 1000000), (35, 1)]⟩
def cpre10 : AC :=
 (.seq (.reg (.mk [0, 3, 4] [.loc 3, .loc 4] []) [⟨none, (some 3), (.box 1 [.int .i64 0] (.t 1))⟩,
   ⟨none, (some 4), (.alloc [.bool false])⟩])
 (.seq (.seq (.reg (.mk [0, 3, 4, 16] [.loc 3, .loc 4] []) [⟨none, (some 15), (.call [] none 0 11 [])⟩,
   ⟨none, (some 16), (.un .not (.t 15))⟩])
 (.cond (.t 16) (.seq (.reg (.mk [4] [.loc 4] []) [⟨none, none, (.store 1 none (.t 4) (.v (.bool false)))⟩])
 .ret) .skip))
 (.seq (.reg (.mk [3, 4, 5, 6, 7] [.sub 19 0, .sub 19 1, .sub 19 2, .sub 19 3, .sub 19 4, .sub 19 5, .sub 19 6, .loc 3, .loc 4, .loc 6] []) [⟨none, (some 18), (.mv (some 5) (.t 0))⟩,
   ⟨none, (some 19), (.call [(some 5)] none 7 12 [.t 18])⟩,
   ⟨none, (some 17), (.mv none (.t 19))⟩,
   ⟨none, (some 20), (.ext (.t 17) 0)⟩,
   ⟨none, (some 21), (.ext (.t 17) 1)⟩,
   ⟨none, (some 22), (.ext (.t 17) 2)⟩,
   ⟨none, (some 6), (.alloc [(.own 2 []), (.own 2 [])])⟩,
   ⟨none, (some 5), (.mvS none (.t 20))⟩,
   ⟨none, none, (.store 2 none (.t 6) (.t 21))⟩,
   ⟨none, (some 7), (.mvS none (.t 22))⟩])
 (.seq (.seq (.reg (.mk [3, 4, 5, 6, 24] [.sub 19 0, .sub 19 1, .sub 19 2, .sub 19 3, .sub 19 4, .sub 19 5, .sub 19 6, .loc 3, .loc 4, .loc 6] []) [⟨none, (some 23), (.mv none (.t 7))⟩,
   ⟨none, (some 24), (.un .not (.t 23))⟩])
 (.cond (.t 24) (.seq (.reg (.mk [4] [.loc 4] []) [⟨none, none, (.store 1 none (.t 4) (.v (.bool false)))⟩])
 .ret) .skip))
 (.seq (.reg (.mk [3, 4, 5, 8] [.sub 19 0, .sub 19 1, .sub 19 2, .sub 19 3, .sub 19 4, .sub 19 5, .sub 19 6, .sub 26 0, .loc 3, .loc 4] []) [⟨none, (some 25), (.load (some 2) false (.t 6))⟩,
   ⟨none, (some 26), (.call [none] none 1 15 [.t 25])⟩,
   ⟨none, (some 8), (.mvS (some 1) (.t 26))⟩])
 (.seq (.reg (.mk [3, 4, 5, 8, 9] [.sub 19 0, .sub 19 1, .sub 19 2, .sub 19 3, .sub 19 4, .sub 19 5, .sub 19 6, .sub 26 0, .loc 3, .loc 4, .loc 9] []) [⟨none, (some 9), (.alloc [(.own 1 [])])⟩])
 (.seq (.seq (.reg (.mk [3, 4, 5, 8, 9, 10] [.sub 19 0, .sub 19 1, .sub 19 2, .sub 19 3, .sub 19 4, .sub 19 5, .sub 19 6, .sub 26 0, .loc 3, .loc 4, .loc 9] []) [⟨none, (some 10), (.mvS none (.v (.int .i64 0)))⟩])
 (.block 0 (.loop (.mk [3, 4, 5, 8, 9, 10] [.sub 19 0, .sub 19 1, .sub 19 2, .sub 19 3, .sub 19 4, .sub 19 5, .sub 19 6, .sub 26 0, .loc 3, .loc 4, .loc 9] []) (.seq (.seq (.reg (.mk [3, 4, 5, 8, 9, 10, 30] [.sub 19 0, .sub 19 1, .sub 19 2, .sub 19 3, .sub 19 4, .sub 19 5, .sub 19 6, .sub 26 0, .loc 3, .loc 4, .loc 9] []) [⟨none, (some 27), (.mv none (.t 10))⟩,
   ⟨none, (some 28), (.mv (some 1) (.t 8))⟩,
   ⟨none, (some 29), (.lenSl (.t 28))⟩,
   ⟨none, (some 30), (.bin [] .lss (.t 27) (.t 29))⟩])
 (.cond (.t 30) .skip (.exit 0)))
 (.seq (.block 1 (.seq (.seq (.reg (.mk [3, 4, 5, 8, 9, 10, 38] [.sub 19 0, .sub 19 1, .sub 19 2, .sub 19 3, .sub 19 4, .sub 19 5, .sub 19 6, .sub 26 0, .loc 3, .loc 4, .loc 9] []) [⟨none, (some 33), (.mv (some 1) (.t 8))⟩,
   ⟨none, (some 34), (.mv none (.t 10))⟩,
   ⟨none, (some 35), (.ia (some 1) none (.t 33) (.t 34))⟩,
   ⟨none, (some 36), (.load none false (.t 35))⟩,
   ⟨none, (some 37), (.mv none (.t 10))⟩,
   ⟨none, (some 38), (.bin [] .neq (.t 36) (.t 37))⟩])
 (.cond (.t 38) (.exit 1) .skip))
 (.seq (.reg (.mk [3, 4, 5, 8, 9, 10, 11] [.sub 19 0, .sub 19 1, .sub 19 2, .sub 19 3, .sub 19 4, .sub 19 5, .sub 19 6, .sub 26 0, .loc 3, .loc 4, .loc 9] []) [⟨none, (some 11), (.mvS (some 1) (.v .nils))⟩])
 (.seq (.seq (.reg (.mk [3, 4, 5, 8, 9, 10, 11, 12] [.sub 19 0, .sub 19 1, .sub 19 2, .sub 19 3, .sub 19 4, .sub 19 5, .sub 19 6, .sub 26 0, .loc 3, .loc 4, .loc 9] []) [⟨none, (some 12), (.mvS none (.v (.int .i64 0)))⟩])
 (.block 2 (.loop (.mk [3, 4, 5, 8, 9, 10, 11, 12] [.sub 19 0, .sub 19 1, .sub 19 2, .sub 19 3, .sub 19 4, .sub 19 5, .sub 19 6, .sub 26 0, .loc 3, .loc 4, .loc 9] []) (.seq (.seq (.reg (.mk [3, 4, 5, 8, 9, 10, 11, 12, 42] [.sub 19 0, .sub 19 1, .sub 19 2, .sub 19 3, .sub 19 4, .sub 19 5, .sub 19 6, .sub 26 0, .loc 3, .loc 4, .loc 9] []) [⟨none, (some 39), (.mv none (.t 12))⟩,
   ⟨none, (some 40), (.mv (some 1) (.t 8))⟩,
   ⟨none, (some 41), (.lenSl (.t 40))⟩,
   ⟨none, (some 42), (.bin [] .lss (.t 39) (.t 41))⟩])
 (.cond (.t 42) .skip (.exit 2)))
 (.seq (.block 3 (.seq (.reg (.mk [3, 4, 5, 8, 9, 10, 11, 12, 50] [.sub 19 0, .sub 19 1, .sub 19 2, .sub 19 3, .sub 19 4, .sub 19 5, .sub 19 6, .sub 26 0, .loc 3, .loc 4, .loc 9] []) [⟨none, (some 45), (.mv (some 1) (.t 8))⟩,
   ⟨none, (some 46), (.mv none (.t 12))⟩,
   ⟨none, (some 47), (.ia (some 1) none (.t 45) (.t 46))⟩,
   ⟨none, (some 48), (.load none false (.t 47))⟩,
   ⟨none, (some 49), (.mv none (.t 10))⟩,
   ⟨none, (some 50), (.bin [] .eql (.t 48) (.t 49))⟩])
 (.cond (.t 50) (.reg (.mk [3, 4, 5, 8, 9, 10, 11, 12] [.sub 19 0, .sub 19 1, .sub 19 2, .sub 19 3, .sub 19 4, .sub 19 5, .sub 19 6, .sub 26 0, .loc 3, .loc 4, .loc 9] []) [⟨none, (some 51), (.mvS (some 1) (.t 11))⟩,
   ⟨none, (some 52), (.mv none (.t 12))⟩,
   ⟨none, (some 53), (.buildSl 1 [.t 52])⟩,
   ⟨none, (some 54), (.app 1 8 (.t 51) (.t 53))⟩,
   ⟨none, (some 11), (.mvS (some 1) (.t 54))⟩]) .skip)))
 (.reg (.mk [3, 4, 5, 8, 9, 10, 11, 12] [.sub 19 0, .sub 19 1, .sub 19 2, .sub 19 3, .sub 19 4, .sub 19 5, .sub 19 6, .sub 26 0, .loc 3, .loc 4, .loc 9] []) [⟨none, (some 43), (.mv none (.t 12))⟩,
   ⟨none, (some 44), (.bin [] .add (.t 43) (.v (.int .i64 1)))⟩,
   ⟨none, (some 12), (.mvS none (.t 44))⟩]))))))
 (.reg (.mk [3, 4, 5, 8, 9, 10] [.sub 19 0, .sub 19 1, .sub 19 2, .sub 19 3, .sub 19 4, .sub 19 5, .sub 19 6, .sub 26 0, .loc 3, .loc 4, .loc 9] []) [⟨none, (some 55), (.load none true (.t 9))⟩,
   ⟨none, (some 56), (.mv (some 1) (.t 11))⟩,
   ⟨none, (some 57), (.buildSl 1 [.t 56])⟩,
   ⟨none, (some 58), (.app 1 24 (.t 55) (.t 57))⟩,
   ⟨none, none, (.store 1 (some 1) (.t 9) (.t 58))⟩])))))
 (.reg (.mk [3, 4, 5, 8, 9, 10] [.sub 19 0, .sub 19 1, .sub 19 2, .sub 19 3, .sub 19 4, .sub 19 5, .sub 19 6, .sub 26 0, .loc 3, .loc 4, .loc 9] []) [⟨none, (some 31), (.mv none (.t 10))⟩,
   ⟨none, (some 32), (.bin [] .add (.t 31) (.v (.int .i64 1)))⟩,
   ⟨none, (some 10), (.mvS none (.t 32))⟩]))))))
 (.seq (.reg (.mk [3, 4, 5, 9, 13] [.sub 19 0, .sub 19 1, .sub 19 2, .sub 19 3, .sub 19 4, .sub 19 5, .sub 19 6, .loc 3, .loc 4, .loc 9, .loc 13] []) [⟨none, (some 13), (.alloc [.int .i64 0])⟩,
   ⟨none, none, (.store 1 none (.t 13) (.v (.int .i64 0)))⟩])
 (.reg (.mk [3, 4, 9, 13, 60] [.sub 19 0, .sub 19 1, .sub 19 2, .sub 19 3, .sub 19 4, .sub 19 5, .sub 19 6, .sub 60 0, .loc 3, .loc 4, .loc 9, .loc 13] []) [⟨none, (some 59), (.mv none (.t 5))⟩,
   ⟨none, (some 60), (.call [none] none 1 28 [.t 59])⟩])))))))))
def casg10 : AC :=
 (.reg (.mk [3, 4, 9, 13, 14, 60] [.sub 19 0, .sub 19 1, .sub 19 2, .sub 19 3, .sub 19 4, .sub 19 5, .sub 19 6, .sub 60 0, .loc 3, .loc 4, .loc 9, .loc 13] []) [⟨none, (some 14), (.mvS (some 1) (.t 61))⟩])
def cbdy10 : AC :=
 (.block 5 (.seq (.seq (.reg (.mk [3, 4, 9, 13, 60, 74] [.sub 19 0, .sub 19 1, .sub 19 2, .sub 19 3, .sub 19 4, .sub 19 5, .sub 19 6, .sub 60 0, .loc 3, .loc 4, .loc 9, .loc 13] []) [⟨none, (some 62), (.load none false (.t 13))⟩,
   ⟨none, (some 63), (.load none false (.t 9))⟩,
   ⟨none, (some 64), (.lenSl (.t 63))⟩,
   ⟨none, (some 65), (.bin [] .geq (.t 62) (.t 64))⟩,
   ⟨none, (some 66), (.mv none (.t 65))⟩,
   ⟨(some (66, false)), (some 67), (.mv (some 1) (.t 14))⟩,
   ⟨(some (66, false)), (some 68), (.load none false (.t 9))⟩,
   ⟨(some (66, false)), (some 69), (.load none false (.t 13))⟩,
   ⟨(some (66, false)), (some 70), (.ia (some 1) none (.t 68) (.t 69))⟩,
   ⟨(some (66, false)), (some 71), (.load none false (.t 70))⟩,
   ⟨(some (66, false)), (some 72), (.call [(some 1), (some 1)] none 0 19 [.t 67, .t 71])⟩,
   ⟨(some (66, false)), (some 73), (.un .not (.t 72))⟩,
   ⟨none, (some 74), (.pick (.t 66) (.v (.bool true)) (.t 73))⟩])
 (.cond (.t 74) (.seq (.reg (.mk [4] [.loc 4] []) [⟨none, none, (.store 1 none (.t 4) (.v (.bool false)))⟩])
 .ret) .skip))
 (.seq (.reg (.mk [3, 4, 9, 13, 60] [.sub 19 0, .sub 19 1, .sub 19 2, .sub 19 3, .sub 19 4, .sub 19 5, .sub 19 6, .sub 60 0, .loc 3, .loc 4, .loc 9, .loc 13] []) [⟨none, (some 75), (.load none false (.t 13))⟩,
   ⟨none, (some 76), (.bin [] .add (.t 75) (.v (.int .i64 1)))⟩,
   ⟨none, none, (.store 1 none (.t 13) (.t 76))⟩])
 (.seq (.reg (.mk [3, 4, 9, 13, 60, 79] [.sub 19 0, .sub 19 1, .sub 19 2, .sub 19 3, .sub 19 4, .sub 19 5, .sub 19 6, .sub 60 0, .loc 3, .loc 4, .loc 9, .loc 13] []) [⟨none, (some 77), (.load none false (.t 13))⟩,
   ⟨none, (some 78), (.load none false (.t 3))⟩,
   ⟨none, (some 79), (.bin [] .eql (.t 77) (.t 78))⟩])
 (.cond (.t 79) (.exit 4) .skip)))))
def ctl10 : AC :=
 (.seq (.reg (.mk [4] [.loc 4] []) [⟨none, (some 80), (.load none false (.t 13))⟩,
   ⟨none, (some 81), (.load none false (.t 9))⟩,
   ⟨none, (some 82), (.lenSl (.t 81))⟩,
   ⟨none, (some 83), (.bin [] .eql (.t 80) (.t 82))⟩,
   ⟨none, (some 84), (.mv none (.t 83))⟩,
   ⟨(some (84, false)), (some 85), (.load none false (.t 13))⟩,
   ⟨(some (84, false)), (some 86), (.load none false (.t 3))⟩,
   ⟨(some (84, false)), (some 87), (.bin [] .eql (.t 85) (.t 86))⟩,
   ⟨none, (some 88), (.pick (.t 84) (.v (.bool true)) (.t 87))⟩,
   ⟨none, none, (.store 1 none (.t 4) (.t 88))⟩])
 .ret)
def ci0 : AC :=
 (.reg (.mk [0, 1, 9, 10] [.par 0, .par 1, .par 2, .par 3, .par 4, .par 5, .par 6, .par 7] [.par 3, .par 4, .par 5, .par 7]) [⟨none, (some 5), (.load none false (.t 1))⟩,
   ⟨none, (some 6), (.nilc (.t 5))⟩,
   ⟨none, (some 7), (.fa 0 (.t 6))⟩,
   ⟨none, (some 8), (.load none false (.t 7))⟩,
   ⟨none, (some 9), (.lenSl (.t 8))⟩,
   ⟨none, (some 10), (.mv none (.v (.int .i64 0)))⟩])
def ci1 : AC :=
 (.reg (.mk [0, 1, 9, 10, 11] [.par 0, .par 1, .par 2, .par 3, .par 4, .par 5, .par 6, .par 7] [.par 3, .par 4, .par 5, .par 7]) [⟨none, (some 11), (.bin [] .lss (.t 10) (.t 9))⟩])
def ci2 : AC :=
 (.reg (.mk [0, 1, 3, 9, 10] [.par 0, .par 1, .par 2, .par 3, .par 4, .par 5, .par 6, .par 7] [.par 3, .par 4, .par 5, .par 7]) [⟨none, (some 12), (.mv none (.t 10))⟩,
   ⟨none, (some 3), (.mvS none (.t 12))⟩])
def ci3 : AC :=
 (.regD (.mk [0, 1, 3, 4, 9, 10] [.par 0, .par 1, .par 2, .par 3, .par 4, .par 5, .par 6, .par 7, .sub 22 0] [.par 3, .par 4, .par 5, .par 7]) [(1, 4), (2, 4), (0, 5), (1, 5), (2, 5), (3, 5), (4, 5), (0, 6), (1, 6), (2, 6), (3, 6)] [⟨none, (some 13), (.load none false (.t 1))⟩,
   ⟨none, (some 14), (.nilc (.t 13))⟩,
   ⟨none, (some 15), (.fa 4 (.t 14))⟩,
   ⟨none, (some 16), (.load none false (.t 15))⟩,
   ⟨none, (some 17), (.load none false (.t 1))⟩,
   ⟨none, (some 18), (.mv none (.t 3))⟩,
   ⟨none, (some 19), (.call [none, none] none 1000000 31 [.t 17, .t 18])⟩,
   ⟨none, (some 20), (.ia (some 1) none (.t 16) (.t 19))⟩,
   ⟨none, (some 21), (.load none false (.t 20))⟩,
   ⟨none, (some 22), (.call [(some 1)] none 1 35 [.t 21])⟩,
   ⟨none, (some 4), (.mvS (some 1) (.t 22))⟩])
def ci4 : AC :=
 (.reg (.mk [0, 1, 3, 4, 9, 10] [.par 0, .par 1, .par 2, .par 3, .par 4, .par 5, .par 6, .par 7, .sub 22 0] [.par 3, .par 4, .par 5, .par 7]) [⟨none, (some 23), (.mv (some 1) (.t 4))⟩,
   ⟨none, (some 24), (.call [(some 1)] none 0 41 [.t 23])⟩])
def ci6 : AC :=
 (.reg (.mk [0, 1, 9, 10] [.par 0, .par 1, .par 2, .par 3, .par 4, .par 5, .par 6, .par 7] [.par 3, .par 4, .par 5, .par 7]) [⟨none, (some 36), (.bin [] .add (.t 10) (.v (.int .i64 1)))⟩,
   ⟨none, (some 10), (.mv none (.t 36))⟩])
def c5a : List AO :=
 [⟨none, (some 25), (.mv (some 1) (.t 4))⟩,
   ⟨none, (some 26), (.ia (some 1) none (.t 25) (.v (.int .i64 0)))⟩,
   ⟨none, (some 27), (.load none false (.t 26))⟩,
   ⟨none, (some 28), (.mv none (.t 3))⟩,
   ⟨none, (some 29), (.bin [] .eql (.t 27) (.t 28))⟩,
   ⟨none, (some 30), (.mv none (.t 29))⟩]
end Go.Proofs.YtjabgfnljbnmmaaDoor
