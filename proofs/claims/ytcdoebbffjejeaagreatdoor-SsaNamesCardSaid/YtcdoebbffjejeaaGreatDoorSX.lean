/- A part of the proof of a law of this seat: no condition. -/
import Derived.Test.YtcdoebbffjejeaaGreatDoorSX0
set_option maxRecDepth 1000000
namespace Go.Proofs.YtcdoebbffjejeaaGreatDoor
open Go.Ax
theorem COk.call {B : Heap} {f : FuncId} {a : List V} {o o' n : List Ob} {r : V} (h : COk Tryz.prog B f a o (one r o' n)) (hf : f < 1000000) : Ok B f a o r o' n := by rwa [COk.lt hf] at h
theorem run43 {B : Heap} : exF base0 (less [] (xtab B)) 60 43 a43 b43 = some r43 := by kernel_rfl
theorem known43 {K} : COk Tryz.prog (bs K) 43 a43 b43 (one r43.1 r43.2.1 r43.2.2) := exF_sound base0_ok _ _ _ _ _ _ _ run43
def base43 : Calc := memo 43 a43 b43 r43 base0
theorem base43_ok {K} : CalcOk Tryz.prog (bs K) base43 := memo_ok base0_ok known43
theorem run74a {B : Heap} : exF base43 (less [43] (xtab B)) 60 74 a74a b74a = some r74a := by kernel_rfl
theorem known74a {K} : COk Tryz.prog (bs K) 74 a74a b74a (one r74a.1 r74a.2.1 r74a.2.2) := exF_sound base43_ok _ _ _ _ _ _ _ run74a
def base74a : Calc := memo 74 a74a b74a r74a base43
theorem base74a_ok {K} : CalcOk Tryz.prog (bs K) base74a := memo_ok base43_ok known74a
theorem run74b {B : Heap} : exF base74a (less [43] (xtab B)) 60 74 a74b b74b = some r74b := by kernel_rfl
theorem known74b {K} : COk Tryz.prog (bs K) 74 a74b b74b (one r74b.1 r74b.2.1 r74b.2.2) := exF_sound base74a_ok _ _ _ _ _ _ _ run74b
def base74b : Calc := memo 74 a74b b74b r74b base74a
theorem base74b_ok {K} : CalcOk Tryz.prog (bs K) base74b := memo_ok base74a_ok known74b
theorem run74c {B : Heap} : exF base74b (less [43] (xtab B)) 60 74 a74c b74c = some r74c := by kernel_rfl
theorem known74c {K} : COk Tryz.prog (bs K) 74 a74c b74c (one r74c.1 r74c.2.1 r74c.2.2) := exF_sound base74b_ok _ _ _ _ _ _ _ run74c
def base74c : Calc := memo 74 a74c b74c r74c base74b
theorem base74c_ok {K} : CalcOk Tryz.prog (bs K) base74c := memo_ok base74b_ok known74c
theorem run48 {B : Heap} : exF base74c (less [43, 74] (xtab B)) 60 48 a48 b48 = some r48 := by kernel_rfl
theorem known48 {K} : COk Tryz.prog (bs K) 48 a48 b48 (one r48.1 r48.2.1 r48.2.2) := exF_sound base74c_ok _ _ _ _ _ _ _ run48
def base48 : Calc := memo 48 a48 b48 r48 base74c
theorem base48_ok {K} : CalcOk Tryz.prog (bs K) base48 := memo_ok base74c_ok known48
theorem run25 {B : Heap} : exF base48 (less [43, 74, 48] (xtab B)) 60 25 a25 b25 = some r25 := by kernel_rfl
theorem known25 {K} : COk Tryz.prog (bs K) 25 a25 b25 (one r25.1 r25.2.1 r25.2.2) := exF_sound base48_ok _ _ _ _ _ _ _ run25
def base25 : Calc := memo 25 a25 b25 r25 base48
theorem base25_ok {K} : CalcOk Tryz.prog (bs K) base25 := memo_ok base48_ok known25
theorem run50 {B : Heap} : exF base25 (less [43, 74, 48, 25] (xtab B)) 60 50 a50 b50 = some r50 := by kernel_rfl
theorem known50 {K} : COk Tryz.prog (bs K) 50 a50 b50 (one r50.1 r50.2.1 r50.2.2) := exF_sound base25_ok _ _ _ _ _ _ _ run50
def base50 : Calc := memo 50 a50 b50 r50 base25
theorem base50_ok {K} : CalcOk Tryz.prog (bs K) base50 := memo_ok base25_ok known50
theorem run26 {B : Heap} : exF base50 (less [43, 74, 48, 25, 50] (xtab B)) 60 26 a26 b26 = some r26 := by kernel_rfl
theorem known26 {K} : COk Tryz.prog (bs K) 26 a26 b26 (one r26.1 r26.2.1 r26.2.2) := exF_sound base50_ok _ _ _ _ _ _ _ run26
def base26 : Calc := memo 26 a26 b26 r26 base50
theorem base26_ok {K} : CalcOk Tryz.prog (bs K) base26 := memo_ok base50_ok known26
theorem run9 {B : Heap} : exF base26 (less [43, 74, 48, 25, 50, 26] (xtab B)) 60 9 a9 b9 = some r9 := by kernel_rfl
theorem known9 {K} : COk Tryz.prog (bs K) 9 a9 b9 (one r9.1 r9.2.1 r9.2.2) := exF_sound base26_ok _ _ _ _ _ _ _ run9
def base9 : Calc := memo 9 a9 b9 r9 base26
theorem base9_ok {K} : CalcOk Tryz.prog (bs K) base9 := memo_ok base26_ok known9
theorem run10 {B : Heap} : exF base9 (less [43, 74, 48, 25, 50, 26, 9] (xtab B)) 60 10 a10 b10 = some r10 := by kernel_rfl
theorem known10 {K} : COk Tryz.prog (bs K) 10 a10 b10 (one r10.1 r10.2.1 r10.2.2) := exF_sound base9_ok _ _ _ _ _ _ _ run10
def base10 : Calc := memo 10 a10 b10 r10 base9
theorem base10_ok {K} : CalcOk Tryz.prog (bs K) base10 := memo_ok base9_ok known10
theorem run8 {B : Heap} : exF base10 (less [43, 74, 48, 25, 50, 26, 9, 10] (xtab B)) 60 8 [] [] = some (.bool true, [], []) := by kernel_rfl
theorem awake_ok {K} : Ok (bs K) 8 [] [] (.bool true) [] [] := COk.call (exF_sound base10_ok _ _ _ _ _ _ _ run8) (by decide)
end Go.Proofs.YtcdoebbffjejeaaGreatDoor
