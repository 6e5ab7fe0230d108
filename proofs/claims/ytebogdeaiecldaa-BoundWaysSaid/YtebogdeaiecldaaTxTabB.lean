/- A part of the proof. -/
import Derived.Test.YtebogdeaiecldaaAmDraw4
import Derived.Test.YtebogdeaiecldaaProg
import Derived.KernelRfl
namespace Go.Proofs.Ytebogdeaiecldaa.Tab
open Go.AM
def v3 : VFun := ⟨2, 108, [.tmp 4],
 (.seq (.ops none [
  ⟨(some 2), none, .box false (.tmp 0), .eff⟩,
  ⟨(some 4), none, .move (.const (.bool false)), .eff⟩])
 (.seq (.seq (.ops none [
  ⟨(some 11), none, .load (some 9) (.tmp 2), .eff⟩,
  ⟨(some 12), none, .call 10 [(.tmp 11)], .view⟩])
 (.cond (.tmp 12) (.seq (.ops none [
  ⟨(some 13), none, .call 11 [], .view⟩,
  ⟨(some 4), none, .move (.tmp 13), .eff⟩])
 .ret)
 .skip))
 (.seq (.ops none [
  ⟨(some 15), none, .load (some 9) (.tmp 2), .eff⟩,
  ⟨(some 16), none, .call 12 [(.tmp 15)], .view⟩,
  ⟨(some 14), none, .move (.tmp 16), .eff⟩,
  ⟨(some 17), none, .ext (.tmp 14) 0, .eff⟩,
  ⟨(some 18), none, .ext (.tmp 14) 1, .eff⟩,
  ⟨(some 5), none, .move (.tmp 17), .eff⟩,
  ⟨(some 6), none, .move (.tmp 18), .eff⟩])
 (.seq (.ops none [
  ⟨(some 20), none, .load (some 9) (.tmp 2), .eff⟩,
  ⟨(some 21), none, .call 13 [(.tmp 20)], .view⟩,
  ⟨(some 19), none, .move (.tmp 21), .eff⟩,
  ⟨(some 22), none, .ext (.tmp 19) 0, .eff⟩,
  ⟨(some 23), none, .ext (.tmp 19) 1, .eff⟩,
  ⟨(some 7), none, .move (.tmp 22), .eff⟩,
  ⟨(some 8), none, .move (.tmp 23), .eff⟩])
 (.seq (.seq (.ops (some []) [
  ⟨(some 24), none, .move (.tmp 5), .eff⟩,
  ⟨(some 25), none, .move (.tmp 7), .eff⟩,
  ⟨(some 26), none, .eqv true (.one (.int .i64)) (.tmp 24) (.tmp 25), .eff⟩,
  ⟨(some 27), none, .move (.tmp 26), .eff⟩,
  ⟨(some 28), (some (27, false)), .move (.tmp 6), .eff⟩,
  ⟨(some 29), (some (27, false)), .move (.tmp 8), .eff⟩,
  ⟨(some 30), (some (27, false)), .eqv true (.one (.int .i64)) (.tmp 28) (.tmp 29), .eff⟩,
  ⟨(some 31), none, .pick (.tmp 27) (.const (.bool true)) (.tmp 30), .eff⟩,
  ⟨(some 32), none, .move (.tmp 31), .eff⟩,
  ⟨(some 33), (some (32, false)), .load (some 9) (.tmp 2), .eff⟩,
  ⟨(some 34), (some (32, false)), .call 14 [(.tmp 33)], .view⟩,
  ⟨(some 35), (some (32, false)), .load (some 9) (.tmp 2), .eff⟩,
  ⟨(some 36), (some (32, false)), .call 15 [(.tmp 35)], .view⟩,
  ⟨(some 37), (some (32, false)), .eqv true (.one .bool) (.tmp 34) (.tmp 36), .eff⟩,
  ⟨(some 38), none, .pick (.tmp 32) (.const (.bool true)) (.tmp 37), .eff⟩])
 (.cond (.tmp 38) (.seq (.ops none [
  ⟨(some 4), none, .move (.const (.bool false)), .eff⟩])
 .ret)
 .skip))
 (.seq (.seq (.ops none [
  ⟨(some 39), none, .move (.tmp 1), .eff⟩,
  ⟨(some 40), none, .bslice [(.int .i64 0)] 3 1 [(0, (.tmp 39)), (1, (.const (.int .i64 1))), (2, (.const (.int .i64 2)))], .eff⟩,
  ⟨(some 41), none, .len .slice (.tmp 40), .eff⟩,
  ⟨(some 42), none, .move (.const (.int .i64 0)), .eff⟩])
 (.block 0 (.loop [2, 40, 41, 42] (.seq (.ops none [
  ⟨(some 43), none, .bin .lss (.tmp 42) (.tmp 41), .eff⟩])
 (.seq (.cond (.tmp 43) .skip
 (.exit 0))
 (.seq (.block 1 (.seq (.ops none [
  ⟨(some 44), none, .iaddr 1 none (.tmp 40) (.tmp 42), .eff⟩,
  ⟨(some 45), none, .load none (.tmp 44), .eff⟩,
  ⟨(some 10), none, .move (.tmp 45), .eff⟩])
 (.seq (.ops none [
  ⟨(some 47), none, .load (some 9) (.tmp 2), .eff⟩,
  ⟨(some 48), none, .move (.tmp 10), .eff⟩,
  ⟨(some 49), none, .call 16 [(.tmp 47), (.tmp 48)], .view⟩,
  ⟨(some 46), none, .move (.tmp 49), .eff⟩,
  ⟨(some 50), none, .ext (.tmp 46) 0, .eff⟩,
  ⟨(some 51), none, .ext (.tmp 46) 1, .eff⟩,
  ⟨(some 5), none, .move (.tmp 50), .eff⟩,
  ⟨(some 6), none, .move (.tmp 51), .eff⟩])
 (.seq (.ops none [
  ⟨(some 53), none, .load (some 9) (.tmp 2), .eff⟩,
  ⟨(some 54), none, .move (.tmp 10), .eff⟩,
  ⟨(some 55), none, .call 17 [(.tmp 53), (.tmp 54)], .view⟩,
  ⟨(some 52), none, .move (.tmp 55), .eff⟩,
  ⟨(some 56), none, .ext (.tmp 52) 0, .eff⟩,
  ⟨(some 57), none, .ext (.tmp 52) 1, .eff⟩,
  ⟨(some 7), none, .move (.tmp 56), .eff⟩,
  ⟨(some 8), none, .move (.tmp 57), .eff⟩])
 (.seq (.seq (.ops none [
  ⟨(some 58), none, .move (.tmp 5), .eff⟩,
  ⟨(some 59), none, .move (.tmp 7), .eff⟩,
  ⟨(some 60), none, .eqv true (.one (.int .i64)) (.tmp 58) (.tmp 59), .eff⟩,
  ⟨(some 61), none, .move (.tmp 60), .eff⟩,
  ⟨(some 62), (some (61, false)), .move (.tmp 6), .eff⟩,
  ⟨(some 63), (some (61, false)), .move (.tmp 8), .eff⟩,
  ⟨(some 64), (some (61, false)), .eqv true (.one (.int .i64)) (.tmp 62) (.tmp 63), .eff⟩,
  ⟨(some 65), none, .pick (.tmp 61) (.const (.bool true)) (.tmp 64), .eff⟩])
 (.cond (.tmp 65) (.seq (.ops none [
  ⟨(some 4), none, .move (.const (.bool false)), .eff⟩])
 .ret)
 .skip))
 (.seq (.ops none [
  ⟨(some 67), none, .load (some 9) (.tmp 2), .eff⟩,
  ⟨(some 68), none, .move (.tmp 10), .eff⟩,
  ⟨(some 69), none, .call 18 [(.tmp 67), (.tmp 68)], .view⟩,
  ⟨(some 66), none, .move (.tmp 69), .eff⟩,
  ⟨(some 70), none, .ext (.tmp 66) 0, .eff⟩,
  ⟨(some 71), none, .ext (.tmp 66) 1, .eff⟩,
  ⟨(some 5), none, .move (.tmp 70), .eff⟩,
  ⟨(some 6), none, .move (.tmp 71), .eff⟩])
 (.seq (.ops none [
  ⟨(some 73), none, .load (some 9) (.tmp 2), .eff⟩,
  ⟨(some 74), none, .move (.tmp 10), .eff⟩,
  ⟨(some 75), none, .call 19 [(.tmp 73), (.tmp 74)], .view⟩,
  ⟨(some 72), none, .move (.tmp 75), .eff⟩,
  ⟨(some 76), none, .ext (.tmp 72) 0, .eff⟩,
  ⟨(some 77), none, .ext (.tmp 72) 1, .eff⟩,
  ⟨(some 7), none, .move (.tmp 76), .eff⟩,
  ⟨(some 8), none, .move (.tmp 77), .eff⟩])
 (.seq (.seq (.ops none [
  ⟨(some 78), none, .move (.tmp 5), .eff⟩,
  ⟨(some 79), none, .move (.tmp 7), .eff⟩,
  ⟨(some 80), none, .eqv true (.one (.int .i64)) (.tmp 78) (.tmp 79), .eff⟩,
  ⟨(some 81), none, .move (.tmp 80), .eff⟩,
  ⟨(some 82), (some (81, false)), .move (.tmp 6), .eff⟩,
  ⟨(some 83), (some (81, false)), .move (.tmp 8), .eff⟩,
  ⟨(some 84), (some (81, false)), .eqv true (.one (.int .i64)) (.tmp 82) (.tmp 83), .eff⟩,
  ⟨(some 85), none, .pick (.tmp 81) (.const (.bool true)) (.tmp 84), .eff⟩])
 (.cond (.tmp 85) (.seq (.ops none [
  ⟨(some 4), none, .move (.const (.bool false)), .eff⟩])
 .ret)
 .skip))
 (.seq (.ops none [
  ⟨(some 87), none, .load (some 9) (.tmp 2), .eff⟩,
  ⟨(some 88), none, .move (.tmp 10), .eff⟩,
  ⟨(some 89), none, .call 20 [(.tmp 87), (.tmp 88)], .view⟩,
  ⟨(some 86), none, .move (.tmp 89), .eff⟩,
  ⟨(some 90), none, .ext (.tmp 86) 0, .eff⟩,
  ⟨(some 91), none, .ext (.tmp 86) 1, .eff⟩,
  ⟨(some 5), none, .move (.tmp 90), .eff⟩,
  ⟨(some 6), none, .move (.tmp 91), .eff⟩])
 (.seq (.ops none [
  ⟨(some 93), none, .load (some 9) (.tmp 2), .eff⟩,
  ⟨(some 94), none, .move (.tmp 10), .eff⟩,
  ⟨(some 95), none, .call 21 [(.tmp 93), (.tmp 94)], .view⟩,
  ⟨(some 92), none, .move (.tmp 95), .eff⟩,
  ⟨(some 96), none, .ext (.tmp 92) 0, .eff⟩,
  ⟨(some 97), none, .ext (.tmp 92) 1, .eff⟩,
  ⟨(some 7), none, .move (.tmp 96), .eff⟩,
  ⟨(some 8), none, .move (.tmp 97), .eff⟩])
 (.seq (.ops none [
  ⟨(some 98), none, .move (.tmp 5), .eff⟩,
  ⟨(some 99), none, .move (.tmp 7), .eff⟩,
  ⟨(some 100), none, .eqv true (.one (.int .i64)) (.tmp 98) (.tmp 99), .eff⟩,
  ⟨(some 101), none, .move (.tmp 100), .eff⟩,
  ⟨(some 102), (some (101, false)), .move (.tmp 6), .eff⟩,
  ⟨(some 103), (some (101, false)), .move (.tmp 8), .eff⟩,
  ⟨(some 104), (some (101, false)), .eqv true (.one (.int .i64)) (.tmp 102) (.tmp 103), .eff⟩,
  ⟨(some 105), none, .pick (.tmp 101) (.const (.bool true)) (.tmp 104), .eff⟩])
 (.cond (.tmp 105) (.seq (.ops none [
  ⟨(some 4), none, .move (.const (.bool false)), .eff⟩])
 .ret)
 .skip))))))))))))
 (.ops none [
  ⟨(some 106), none, .bin .add (.tmp 42) (.const (.int .i64 1)), .eff⟩,
  ⟨(some 42), none, .move (.tmp 106), .eff⟩])))))))
 (.seq (.ops none [
  ⟨(some 107), none, .call 11 [], .view⟩,
  ⟨(some 4), none, .move (.tmp 107), .eff⟩])
 .ret)))))))⟩
set_option maxRecDepth 100000 in
theorem v3_ok : stripF (ttOf Try.prog) { hp := [], md := [(12, .view), (13, .view), (16, .view), (21, .view), (34, .view), (36, .view), (49, .view), (55, .view), (69, .view), (75, .view), (89, .view), (95, .view), (107, .view)], ks := [[2, 40, 41, 42]] } Try.f3 = some v3 := by kernel_rfl
theorem n3_ok : (Try.f3.name == "runtime.NumGoroutine") = false := by kernel_rfl
def v4 : VFun := ⟨0, 137, [.tmp 0],
 (.seq (.ops none [
  ⟨(some 0), none, .move (.const (.bool false)), .eff⟩])
 (.seq (.seq (.ops none [
  ⟨(some 19), none, .call 11 [], .view⟩,
  ⟨(some 20), none, .un .not (.tmp 19), .eff⟩,
  ⟨(some 21), none, .move (.tmp 20), .eff⟩,
  ⟨(some 22), none, .pick (.tmp 21) (.const (.bool true)) (.const (.bool false)), .eff⟩,
  ⟨(some 23), none, .move (.tmp 22), .eff⟩,
  ⟨(some 24), none, .pick (.tmp 23) (.const (.bool true)) (.const (.bool false)), .eff⟩])
 (.cond (.tmp 24) (.seq (.ops none [
  ⟨(some 0), none, .move (.const (.bool false)), .eff⟩])
 .ret)
 .skip))
 (.seq (.ops none [
  ⟨(some 26), none, .build [.nils, .nils, .nils, .nils, .nils, .nils, .nils, .nils, .nils] [], .eff⟩,
  ⟨(some 27), none, .call 12 [(.tmp 26)], .view⟩,
  ⟨(some 25), none, .move (.tmp 27), .eff⟩,
  ⟨(some 28), none, .ext (.tmp 25) 0, .eff⟩,
  ⟨(some 29), none, .ext (.tmp 25) 1, .eff⟩,
  ⟨(some 1), none, .move (.tmp 28), .eff⟩,
  ⟨(some 2), none, .move (.tmp 29), .eff⟩])
 (.seq (.ops none [
  ⟨(some 31), none, .build [(.int .i64 0), (.int .i64 0), (.int .i64 0), (.int .i64 0), (.int .i64 0), (.int .i64 0), (.int .i64 0), .nils, (.int .i64 0)] [(0, 1, (.const (.int .i64 1))), (8, 1, (.const (.int .i64 2)))], .eff⟩,
  ⟨(some 32), none, .build [(.int .i64 0), (.int .i64 0), (.int .i64 0), (.int .i64 0), (.int .i64 0), (.int .i64 0), (.int .i64 0), .nils, (.int .i64 0)] [(0, 1, (.const (.int .i64 2)))], .eff⟩,
  ⟨(some 33), none, .build [(.int .i64 0), (.int .i64 0), (.int .i64 0), (.int .i64 0), (.int .i64 0), (.int .i64 0), (.int .i64 0), .nils, (.int .i64 0)] [(0, 1, (.const (.int .i64 3)))], .eff⟩,
  ⟨(some 34), none, .bslice [(.int .i64 0), (.int .i64 0), (.int .i64 0), (.int .i64 0), (.int .i64 0), (.int .i64 0), (.int .i64 0), .nils, (.int .i64 0)] 3 9 [(0, (.tmp 31)), (1, (.tmp 32)), (2, (.tmp 33))], .eff⟩,
  ⟨(some 35), none, .build [.nils, .nils, .nils, .nils, .nils, .nils, .nils, .nils, .nils] [(0, 1, (.tmp 34))], .eff⟩,
  ⟨(some 36), none, .call 12 [(.tmp 35)], .view⟩,
  ⟨(some 30), none, .move (.tmp 36), .eff⟩,
  ⟨(some 37), none, .ext (.tmp 30) 0, .eff⟩,
  ⟨(some 38), none, .ext (.tmp 30) 1, .eff⟩,
  ⟨(some 3), none, .move (.tmp 37), .eff⟩,
  ⟨(some 4), none, .move (.tmp 38), .eff⟩])
 (.seq (.ops none [
  ⟨(some 40), none, .build [(.int .i64 0), (.int .u8 0), .nils, (.int .i64 0), (.int .i64 0)] [(0, 1, (.const (.int .i64 2))), (4, 1, (.const (.int .i64 1)))], .eff⟩,
  ⟨(some 41), none, .build [(.int .i64 0), (.int .u8 0), .nils, (.int .i64 0), (.int .i64 0)] [(0, 1, (.const (.int .i64 1))), (4, 1, (.const (.int .i64 7)))], .eff⟩,
  ⟨(some 42), none, .bslice [(.int .i64 0), (.int .u8 0), .nils, (.int .i64 0), (.int .i64 0)] 2 5 [(0, (.tmp 40)), (1, (.tmp 41))], .eff⟩,
  ⟨(some 43), none, .build [.nils, .nils, .nils, .nils, .nils, .nils, .nils, .nils, .nils] [(2, 1, (.tmp 42))], .eff⟩,
  ⟨(some 44), none, .call 12 [(.tmp 43)], .view⟩,
  ⟨(some 39), none, .move (.tmp 44), .eff⟩,
  ⟨(some 45), none, .ext (.tmp 39) 0, .eff⟩,
  ⟨(some 46), none, .ext (.tmp 39) 1, .eff⟩,
  ⟨(some 5), none, .move (.tmp 45), .eff⟩,
  ⟨(some 6), none, .move (.tmp 46), .eff⟩])
 (.seq (.ops (some [(1, 5), (1, 6), (5, 6), (1, 7), (5, 7), (1, 9), (5, 9), (6, 9), (7, 9), (1, 10), (5, 10), (1, 12), (5, 12), (6, 12), (7, 12), (9, 12), (10, 12), (1, 14), (5, 14)]) [
  ⟨(some 48), none, .build [(.int .i64 0), (.int .u8 0), .nils, (.int .i64 0), (.int .i64 0)] [(0, 1, (.const (.int .i64 1)))], .eff⟩,
  ⟨(some 49), none, .bslice [(.int .i64 0), (.int .u8 0), .nils, (.int .i64 0), (.int .i64 0)] 1 5 [(0, (.tmp 48))], .eff⟩,
  ⟨(some 50), none, .build [(.int .i64 0), (.str (ByteArray.mk #[])), (.str (ByteArray.mk #[])), (.int .i64 0), (.int .i64 0), (.int .i64 0), .nils, (.int .i64 0), (.int .i64 0), (.int .u64 0), (.bool false)] [(0, 1, (.const (.int .i64 1))), (5, 1, (.const (.int .i64 1)))], .eff⟩,
  ⟨(some 51), none, .build [(.int .i64 0), (.str (ByteArray.mk #[])), (.str (ByteArray.mk #[])), (.int .i64 0), (.int .i64 0), (.int .i64 0), .nils, (.int .i64 0), (.int .i64 0), (.int .u64 0), (.bool false)] [(0, 1, (.const (.int .i64 1))), (5, 1, (.const (.int .i64 2)))], .eff⟩,
  ⟨(some 52), none, .build [(.int .i64 0), (.str (ByteArray.mk #[])), (.str (ByteArray.mk #[])), (.int .i64 0), (.int .i64 0), (.int .i64 0), .nils, (.int .i64 0), (.int .i64 0), (.int .u64 0), (.bool false)] [(0, 1, (.const (.int .i64 2))), (5, 1, (.const (.int .i64 3)))], .eff⟩,
  ⟨(some 53), none, .bslice [(.int .i64 0), (.str (ByteArray.mk #[])), (.str (ByteArray.mk #[])), (.int .i64 0), (.int .i64 0), (.int .i64 0), .nils, (.int .i64 0), (.int .i64 0), (.int .u64 0), (.bool false)] 3 11 [(0, (.tmp 50)), (1, (.tmp 51)), (2, (.tmp 52))], .eff⟩,
  ⟨(some 54), none, .bslice [(.int .u8 0)] 3 1 [(0, (.const (.int .u8 23))), (1, (.const (.int .u8 20))), (2, (.const (.int .u8 20)))], .eff⟩,
  ⟨(some 55), none, .call 22 [(.tmp 54)], .vfresh⟩,
  ⟨(some 56), none, .build [(.int .i64 0), .nils] [(0, 1, (.const (.int .i64 1))), (1, 1, (.tmp 55))], .eff⟩,
  ⟨(some 57), none, .bslice [(.int .u8 0)] 5 1 [(0, (.const (.int .u8 12))), (1, (.const (.int .u8 23))), (2, (.const (.int .u8 20))), (3, (.const (.int .u8 22))), (4, (.const (.int .u8 20)))], .eff⟩,
  ⟨(some 58), none, .call 22 [(.tmp 57)], .vfresh⟩,
  ⟨(some 59), none, .build [(.int .i64 0), .nils] [(0, 1, (.const (.int .i64 2))), (1, 1, (.tmp 58))], .eff⟩,
  ⟨(some 60), none, .mkslice [(.int .u8 0), (.int .i64 0), (.int .u8 0), (.int .u64 0), (.int .u8 0), (.int .u64 0), (.int .i64 0)] 56 (.const (.int .i64 9)) (.const (.int .i64 9)), .eff⟩,
  ⟨(some 61), none, .build [(.int .i64 0), .nils] [(0, 1, (.const (.int .i64 3))), (1, 1, (.tmp 60))], .eff⟩,
  ⟨(some 62), none, .bslice [(.int .i64 0), .nils] 3 2 [(0, (.tmp 56)), (1, (.tmp 59)), (2, (.tmp 61))], .eff⟩,
  ⟨(some 63), none, .build [.nils, .nils, .nils, .nils, .nils, .nils, .nils, .nils, .nils] [(2, 1, (.tmp 49)), (3, 1, (.tmp 53)), (4, 1, (.tmp 62))], .eff⟩,
  ⟨(some 64), none, .call 12 [(.tmp 63)], .view⟩,
  ⟨(some 47), none, .move (.tmp 64), .eff⟩,
  ⟨(some 65), none, .ext (.tmp 47) 0, .eff⟩,
  ⟨(some 66), none, .ext (.tmp 47) 1, .eff⟩,
  ⟨(some 7), none, .move (.tmp 65), .eff⟩,
  ⟨(some 8), none, .move (.tmp 66), .eff⟩])
 (.seq (.seq (.ops none [
  ⟨(some 67), none, .move (.tmp 1), .eff⟩,
  ⟨(some 68), none, .move (.tmp 2), .eff⟩,
  ⟨(some 69), none, .call 23 [(.tmp 67), (.tmp 68), (.const (.int .i64 0))], .view⟩,
  ⟨(some 70), none, .un .not (.tmp 69), .eff⟩,
  ⟨(some 71), none, .move (.tmp 70), .eff⟩,
  ⟨(some 72), (some (71, false)), .move (.tmp 3), .eff⟩,
  ⟨(some 73), (some (71, false)), .move (.tmp 4), .eff⟩,
  ⟨(some 74), (some (71, false)), .call 23 [(.tmp 72), (.tmp 73), (.const (.int .i64 2))], .view⟩,
  ⟨(some 75), (some (71, false)), .un .not (.tmp 74), .eff⟩,
  ⟨(some 76), none, .pick (.tmp 71) (.const (.bool true)) (.tmp 75), .eff⟩,
  ⟨(some 77), none, .move (.tmp 76), .eff⟩,
  ⟨(some 78), (some (77, false)), .move (.tmp 5), .eff⟩,
  ⟨(some 79), (some (77, false)), .move (.tmp 6), .eff⟩,
  ⟨(some 80), (some (77, false)), .call 23 [(.tmp 78), (.tmp 79), (.const (.int .i64 1))], .view⟩,
  ⟨(some 81), (some (77, false)), .un .not (.tmp 80), .eff⟩,
  ⟨(some 82), none, .pick (.tmp 77) (.const (.bool true)) (.tmp 81), .eff⟩,
  ⟨(some 83), none, .move (.tmp 82), .eff⟩,
  ⟨(some 84), (some (83, false)), .move (.tmp 7), .eff⟩,
  ⟨(some 85), (some (83, false)), .move (.tmp 8), .eff⟩,
  ⟨(some 86), (some (83, false)), .call 23 [(.tmp 84), (.tmp 85), (.const (.int .i64 4))], .view⟩,
  ⟨(some 87), (some (83, false)), .un .not (.tmp 86), .eff⟩,
  ⟨(some 88), none, .pick (.tmp 83) (.const (.bool true)) (.tmp 87), .eff⟩])
 (.cond (.tmp 88) (.seq (.ops none [
  ⟨(some 0), none, .move (.const (.bool false)), .eff⟩])
 .ret)
 .skip))
 (.seq (.ops none [
  ⟨(some 90), none, .call 24 [(.const (.int .i64 2)), (.const (.int .i64 2)), (.const (.int .i64 3))], .pure⟩,
  ⟨(some 91), none, .call 12 [(.tmp 90)], .view⟩,
  ⟨(some 89), none, .move (.tmp 91), .eff⟩,
  ⟨(some 92), none, .ext (.tmp 89) 0, .eff⟩,
  ⟨(some 93), none, .ext (.tmp 89) 1, .eff⟩,
  ⟨(some 9), none, .move (.tmp 92), .eff⟩,
  ⟨(some 10), none, .move (.tmp 93), .eff⟩])
 (.seq (.ops none [
  ⟨(some 95), none, .call 24 [(.const (.int .i64 16)), (.const (.int .i64 8)), (.const (.int .i64 5))], .pure⟩,
  ⟨(some 96), none, .call 12 [(.tmp 95)], .view⟩,
  ⟨(some 94), none, .move (.tmp 96), .eff⟩,
  ⟨(some 97), none, .ext (.tmp 94) 0, .eff⟩,
  ⟨(some 98), none, .ext (.tmp 94) 1, .eff⟩,
  ⟨(some 11), none, .move (.tmp 97), .eff⟩,
  ⟨(some 12), none, .move (.tmp 98), .eff⟩])
 (.seq (.ops none [
  ⟨(some 100), none, .call 24 [(.const (.int .i64 2)), (.const (.int .i64 15)), (.const (.int .i64 0))], .pure⟩,
  ⟨(some 101), none, .call 12 [(.tmp 100)], .view⟩,
  ⟨(some 99), none, .move (.tmp 101), .eff⟩,
  ⟨(some 102), none, .ext (.tmp 99) 0, .eff⟩,
  ⟨(some 103), none, .ext (.tmp 99) 1, .eff⟩,
  ⟨(some 13), none, .move (.tmp 102), .eff⟩,
  ⟨(some 14), none, .move (.tmp 103), .eff⟩])
 (.seq (.ops none [
  ⟨(some 105), none, .call 24 [(.const (.int .i64 256)), (.const (.int .i64 1)), (.const (.int .i64 255))], .pure⟩,
  ⟨(some 106), none, .call 12 [(.tmp 105)], .view⟩,
  ⟨(some 104), none, .move (.tmp 106), .eff⟩,
  ⟨(some 107), none, .ext (.tmp 104) 0, .eff⟩,
  ⟨(some 108), none, .ext (.tmp 104) 1, .eff⟩,
  ⟨(some 15), none, .move (.tmp 107), .eff⟩,
  ⟨(some 16), none, .move (.tmp 108), .eff⟩])
 (.seq (.ops none [
  ⟨(some 110), none, .call 24 [(.const (.int .i64 256)), (.const (.int .i64 1)), (.const (.int .i64 256))], .pure⟩,
  ⟨(some 111), none, .call 12 [(.tmp 110)], .view⟩,
  ⟨(some 109), none, .move (.tmp 111), .eff⟩,
  ⟨(some 112), none, .ext (.tmp 109) 0, .eff⟩,
  ⟨(some 113), none, .ext (.tmp 109) 1, .eff⟩,
  ⟨(some 17), none, .move (.tmp 112), .eff⟩,
  ⟨(some 18), none, .move (.tmp 113), .eff⟩])
 (.seq (.ops none [
  ⟨(some 114), none, .move (.tmp 9), .eff⟩,
  ⟨(some 115), none, .move (.tmp 10), .eff⟩,
  ⟨(some 116), none, .call 23 [(.tmp 114), (.tmp 115), (.const (.int .i64 16))], .view⟩,
  ⟨(some 117), none, .move (.tmp 116), .eff⟩,
  ⟨(some 118), (some (117, true)), .move (.tmp 11), .eff⟩,
  ⟨(some 119), (some (117, true)), .move (.tmp 12), .eff⟩,
  ⟨(some 120), (some (117, true)), .call 23 [(.tmp 118), (.tmp 119), (.const (.int .i64 65537))], .view⟩,
  ⟨(some 121), none, .pick (.tmp 117) (.tmp 120) (.const (.bool false)), .eff⟩,
  ⟨(some 122), none, .move (.tmp 121), .eff⟩,
  ⟨(some 123), (some (122, true)), .move (.tmp 13), .eff⟩,
  ⟨(some 124), (some (122, true)), .move (.tmp 14), .eff⟩,
  ⟨(some 125), (some (122, true)), .call 23 [(.tmp 123), (.tmp 124), (.const (.int .i64 32768))], .view⟩,
  ⟨(some 126), none, .pick (.tmp 122) (.tmp 125) (.const (.bool false)), .eff⟩,
  ⟨(some 127), none, .move (.tmp 126), .eff⟩,
  ⟨(some 128), (some (127, true)), .move (.tmp 15), .eff⟩,
  ⟨(some 129), (some (127, true)), .move (.tmp 16), .eff⟩,
  ⟨(some 130), (some (127, true)), .call 23 [(.tmp 128), (.tmp 129), (.const (.int .i64 65282))], .view⟩,
  ⟨(some 131), none, .pick (.tmp 127) (.tmp 130) (.const (.bool false)), .eff⟩,
  ⟨(some 132), none, .move (.tmp 131), .eff⟩,
  ⟨(some 133), (some (132, true)), .move (.tmp 17), .eff⟩,
  ⟨(some 134), (some (132, true)), .move (.tmp 18), .eff⟩,
  ⟨(some 135), (some (132, true)), .call 23 [(.tmp 133), (.tmp 134), (.const (.int .i64 65537))], .view⟩,
  ⟨(some 136), none, .pick (.tmp 132) (.tmp 135) (.const (.bool false)), .eff⟩,
  ⟨(some 0), none, .move (.tmp 136), .eff⟩])
 .ret)))))))))))))⟩
set_option maxRecDepth 100000 in
theorem v4_ok : stripF (ttOf Try.prog) { hp := [], md := [(19, .view), (27, .view), (36, .view), (44, .view), (55, .vfresh), (58, .vfresh), (64, .view), (69, .view), (74, .view), (80, .view), (86, .view), (90, .pure), (91, .view), (95, .pure), (96, .view), (100, .pure), (101, .view), (105, .pure), (106, .view), (110, .pure), (111, .view), (116, .view), (120, .view), (125, .view), (130, .view), (135, .view)], ks := [] } Try.f4 = some v4 := by kernel_rfl
theorem n4_ok : (Try.f4.name == "runtime.NumGoroutine") = false := by kernel_rfl
def v5 : VFun := ⟨3, 82, [.tmp 6],
 (.seq (.ops none [
  ⟨(some 3), none, .box false (.tmp 0), .eff⟩,
  ⟨(some 6), none, .move (.const (.bool false)), .eff⟩])
 (.seq (.seq (.ops none [
  ⟨(some 12), none, .load (some 9) (.tmp 3), .eff⟩,
  ⟨(some 13), none, .call 10 [(.tmp 12)], .view⟩,
  ⟨(some 14), none, .move (.tmp 13), .eff⟩,
  ⟨(some 15), (some (14, false)), .move (.tmp 1), .eff⟩,
  ⟨(some 16), (some (14, false)), .len .slice (.tmp 15), .eff⟩,
  ⟨(some 17), (some (14, false)), .bin .gtr (.tmp 16) (.const (.int .i64 5000)), .eff⟩,
  ⟨(some 18), none, .pick (.tmp 14) (.const (.bool true)) (.tmp 17), .eff⟩,
  ⟨(some 19), none, .move (.tmp 18), .eff⟩,
  ⟨(some 20), (some (19, false)), .call 11 [], .view⟩,
  ⟨(some 21), (some (19, false)), .un .not (.tmp 20), .eff⟩,
  ⟨(some 22), none, .pick (.tmp 19) (.const (.bool true)) (.tmp 21), .eff⟩])
 (.cond (.tmp 22) (.seq (.ops none [
  ⟨(some 23), none, .call 11 [], .view⟩,
  ⟨(some 6), none, .move (.tmp 23), .eff⟩])
 .ret)
 .skip))
 (.seq (.ops none [
  ⟨(some 25), none, .load (some 9) (.tmp 3), .eff⟩,
  ⟨(some 26), none, .call 16 [(.tmp 25), (.const (.int .i64 1))], .view⟩,
  ⟨(some 24), none, .move (.tmp 26), .eff⟩,
  ⟨(some 27), none, .ext (.tmp 24) 0, .eff⟩,
  ⟨(some 28), none, .ext (.tmp 24) 1, .eff⟩,
  ⟨(some 7), none, .move (.tmp 27), .eff⟩,
  ⟨(some 8), none, .move (.tmp 28), .eff⟩])
 (.seq (.ops none [
  ⟨(some 30), none, .load (some 9) (.tmp 3), .eff⟩,
  ⟨(some 31), none, .move (.tmp 2), .eff⟩,
  ⟨(some 32), none, .call 18 [(.tmp 30), (.tmp 31)], .view⟩,
  ⟨(some 29), none, .move (.tmp 32), .eff⟩,
  ⟨(some 33), none, .ext (.tmp 29) 0, .eff⟩,
  ⟨(some 34), none, .ext (.tmp 29) 1, .eff⟩,
  ⟨(some 9), none, .move (.tmp 33), .eff⟩,
  ⟨(some 10), none, .move (.tmp 34), .eff⟩])
 (.seq (.seq (.ops none [
  ⟨(some 35), none, .move (.tmp 8), .eff⟩,
  ⟨(some 36), none, .eqv true (.one (.int .i64)) (.tmp 35) (.const (.int .i64 0)), .eff⟩,
  ⟨(some 37), none, .move (.tmp 36), .eff⟩,
  ⟨(some 38), (some (37, false)), .move (.tmp 10), .eff⟩,
  ⟨(some 39), (some (37, false)), .eqv true (.one (.int .i64)) (.tmp 38) (.const (.int .i64 0)), .eff⟩,
  ⟨(some 40), none, .pick (.tmp 37) (.const (.bool true)) (.tmp 39), .eff⟩])
 (.cond (.tmp 40) (.seq (.ops none [
  ⟨(some 41), none, .move (.tmp 8), .eff⟩,
  ⟨(some 42), none, .move (.tmp 10), .eff⟩,
  ⟨(some 43), none, .eqv false (.one (.int .i64)) (.tmp 41) (.tmp 42), .eff⟩,
  ⟨(some 44), none, .move (.tmp 43), .eff⟩,
  ⟨(some 45), (some (44, true)), .move (.tmp 7), .eff⟩,
  ⟨(some 46), (some (44, true)), .eqv false (.one (.int .i64)) (.tmp 45) (.const (.int .i64 0)), .eff⟩,
  ⟨(some 47), none, .pick (.tmp 44) (.tmp 46) (.const (.bool false)), .eff⟩,
  ⟨(some 48), none, .move (.tmp 47), .eff⟩,
  ⟨(some 49), (some (48, true)), .move (.tmp 9), .eff⟩,
  ⟨(some 50), (some (48, true)), .eqv false (.one (.int .i64)) (.tmp 49) (.const (.int .i64 0)), .eff⟩,
  ⟨(some 51), none, .pick (.tmp 48) (.tmp 50) (.const (.bool false)), .eff⟩,
  ⟨(some 52), none, .move (.tmp 51), .eff⟩,
  ⟨(some 53), (some (52, true)), .load (some 9) (.tmp 3), .eff⟩,
  ⟨(some 54), (some (52, true)), .call 14 [(.tmp 53)], .view⟩,
  ⟨(some 55), none, .pick (.tmp 52) (.tmp 54) (.const (.bool false)), .eff⟩,
  ⟨(some 6), none, .move (.tmp 55), .eff⟩])
 .ret)
 .skip))
 (.seq (.seq (.ops none [
  ⟨(some 56), none, .move (.tmp 7), .eff⟩,
  ⟨(some 57), none, .bin .gtr (.tmp 56) (.const (.int .i64 20000)), .eff⟩,
  ⟨(some 58), none, .move (.tmp 57), .eff⟩,
  ⟨(some 59), (some (58, false)), .move (.tmp 9), .eff⟩,
  ⟨(some 60), (some (58, false)), .bin .gtr (.tmp 59) (.const (.int .i64 20000)), .eff⟩,
  ⟨(some 61), none, .pick (.tmp 58) (.const (.bool true)) (.tmp 60), .eff⟩])
 (.cond (.tmp 61) (.seq (.ops none [
  ⟨(some 62), none, .load (some 9) (.tmp 3), .eff⟩,
  ⟨(some 63), none, .call 14 [(.tmp 62)], .view⟩,
  ⟨(some 64), none, .un .not (.tmp 63), .eff⟩,
  ⟨(some 6), none, .move (.tmp 64), .eff⟩])
 .ret)
 .skip))
 (.seq (.ops none [
  ⟨(some 65), none, .load (some 9) (.tmp 3), .eff⟩,
  ⟨(some 66), none, .move (.tmp 1), .eff⟩,
  ⟨(some 67), none, .build [.nils, .nils, .nils, .nils, .nils, .nils, .nils, .nils, .nils, .nils, (.int .i64 0)] [(0, 9, (.tmp 65)), (9, 1, (.tmp 66))], .eff⟩,
  ⟨(some 68), none, .box true (.tmp 67), .eff⟩,
  ⟨(some 11), none, .move (.tmp 68), .eff⟩])
 (.seq (.seq (.ops none [
  ⟨(some 69), none, .move (.tmp 11), .eff⟩,
  ⟨(some 70), none, .call 25 [(.tmp 69), (.const (.int .i64 1))], .eff⟩,
  ⟨(some 71), none, .move (.tmp 7), .eff⟩,
  ⟨(some 72), none, .bin .gtr (.tmp 70) (.tmp 71), .eff⟩])
 (.cond (.tmp 72) (.seq (.ops none [
  ⟨(some 6), none, .move (.const (.bool false)), .eff⟩])
 .ret)
 .skip))
 (.seq (.ops none [
  ⟨(some 73), none, .load (some 9) (.tmp 3), .eff⟩,
  ⟨(some 74), none, .move (.tmp 1), .eff⟩,
  ⟨(some 75), none, .build [.nils, .nils, .nils, .nils, .nils, .nils, .nils, .nils, .nils, .nils, (.int .i64 0)] [(0, 9, (.tmp 73)), (9, 1, (.tmp 74))], .eff⟩,
  ⟨(some 76), none, .box true (.tmp 75), .eff⟩,
  ⟨(some 11), none, .move (.tmp 76), .eff⟩])
 (.seq (.ops none [
  ⟨(some 77), none, .move (.tmp 11), .eff⟩,
  ⟨(some 78), none, .move (.tmp 2), .eff⟩,
  ⟨(some 79), none, .call 26 [(.tmp 77), (.tmp 78)], .eff⟩,
  ⟨(some 80), none, .move (.tmp 9), .eff⟩,
  ⟨(some 81), none, .bin .leq (.tmp 79) (.tmp 80), .eff⟩,
  ⟨(some 6), none, .move (.tmp 81), .eff⟩])
 .ret))))))))))⟩
set_option maxRecDepth 100000 in
theorem v5_ok : stripF (ttOf Try.prog) { hp := [68, 76], md := [(13, .view), (20, .view), (23, .view), (26, .view), (32, .view), (54, .view), (63, .view)], ks := [] } Try.f5 = some v5 := by kernel_rfl
theorem n5_ok : (Try.f5.name == "runtime.NumGoroutine") = false := by kernel_rfl
def v6 : VFun := ⟨2, 183, [.tmp 4],
 (.seq (.ops none [
  ⟨(some 2), none, .box false (.tmp 0), .eff⟩,
  ⟨(some 4), none, .move (.const (.bool false)), .eff⟩])
 (.seq (.seq (.ops none [
  ⟨(some 19), none, .load (some 9) (.tmp 2), .eff⟩,
  ⟨(some 20), none, .call 10 [(.tmp 19)], .view⟩,
  ⟨(some 21), none, .move (.tmp 20), .eff⟩,
  ⟨(some 22), (some (21, false)), .load (some 9) (.tmp 2), .eff⟩,
  ⟨(some 23), (some (21, false)), .call 14 [(.tmp 22)], .view⟩,
  ⟨(some 24), none, .pick (.tmp 21) (.const (.bool true)) (.tmp 23), .eff⟩,
  ⟨(some 25), none, .move (.tmp 24), .eff⟩,
  ⟨(some 26), (some (25, false)), .call 11 [], .view⟩,
  ⟨(some 27), (some (25, false)), .un .not (.tmp 26), .eff⟩,
  ⟨(some 28), none, .pick (.tmp 25) (.const (.bool true)) (.tmp 27), .eff⟩])
 (.cond (.tmp 28) (.seq (.ops none [
  ⟨(some 29), none, .call 11 [], .view⟩,
  ⟨(some 4), none, .move (.tmp 29), .eff⟩])
 .ret)
 .skip))
 (.seq (.seq (.ops none [
  ⟨(some 5), none, .move (.const (.int .i64 0)), .eff⟩])
 (.block 0 (.loop [1, 2, 5] (.seq (.seq (.ops none [
  ⟨(some 30), none, .move (.tmp 5), .eff⟩,
  ⟨(some 31), none, .faddr 4 (.tmp 2), .eff⟩,
  ⟨(some 32), none, .load none (.tmp 31), .eff⟩,
  ⟨(some 33), none, .len .slice (.tmp 32), .eff⟩,
  ⟨(some 34), none, .bin .lss (.tmp 30) (.tmp 33), .eff⟩])
 (.cond (.tmp 34) .skip
 (.exit 0)))
 (.seq (.block 1 (.seq (.ops none [
  ⟨(some 37), none, .faddr 4 (.tmp 2), .eff⟩,
  ⟨(some 38), none, .load none (.tmp 37), .eff⟩,
  ⟨(some 39), none, .move (.tmp 5), .eff⟩,
  ⟨(some 40), none, .iaddr 2 none (.tmp 38) (.tmp 39), .eff⟩,
  ⟨(some 41), none, .faddr 1 (.tmp 40), .eff⟩,
  ⟨(some 42), none, .load none (.tmp 41), .eff⟩,
  ⟨(some 6), none, .move (.tmp 42), .eff⟩])
 (.seq (.seq (.ops none [
  ⟨(some 43), none, .faddr 4 (.tmp 2), .eff⟩,
  ⟨(some 44), none, .load none (.tmp 43), .eff⟩,
  ⟨(some 45), none, .move (.tmp 5), .eff⟩,
  ⟨(some 46), none, .iaddr 2 none (.tmp 44) (.tmp 45), .eff⟩,
  ⟨(some 47), none, .faddr 0 (.tmp 46), .eff⟩,
  ⟨(some 48), none, .load none (.tmp 47), .eff⟩,
  ⟨(some 49), none, .move (.tmp 1), .eff⟩,
  ⟨(some 50), none, .eqv true (.one (.int .i64)) (.tmp 48) (.tmp 49), .eff⟩])
 (.cond (.tmp 50) (.exit 1)
 .skip))
 (.seq (.seq (.ops none [
  ⟨(some 51), none, .move (.tmp 6), .eff⟩,
  ⟨(some 52), none, .len .slice (.tmp 51), .eff⟩,
  ⟨(some 53), none, .eqv false (.one (.int .i64)) (.tmp 52) (.const (.int .i64 0)), .eff⟩,
  ⟨(some 54), none, .move (.tmp 53), .eff⟩,
  ⟨(some 55), (some (54, false)), .move (.tmp 6), .eff⟩,
  ⟨(some 56), (some (54, false)), .iaddr 7 none (.tmp 55) (.const (.int .i64 0)), .eff⟩,
  ⟨(some 57), (some (54, false)), .faddr 0 (.tmp 56), .eff⟩,
  ⟨(some 58), (some (54, false)), .load none (.tmp 57), .eff⟩,
  ⟨(some 59), (some (54, false)), .eqv false (.one (.int .u8)) (.tmp 58) (.const (.int .u8 12)), .eff⟩,
  ⟨(some 60), none, .pick (.tmp 54) (.const (.bool true)) (.tmp 59), .eff⟩])
 (.cond (.tmp 60) (.exit 0)
 .skip))
 (.seq (.ops none [
  ⟨(some 62), none, .load (some 9) (.tmp 2), .eff⟩,
  ⟨(some 63), none, .move (.tmp 1), .eff⟩,
  ⟨(some 64), none, .call 18 [(.tmp 62), (.tmp 63)], .view⟩,
  ⟨(some 61), none, .move (.tmp 64), .eff⟩,
  ⟨(some 65), none, .ext (.tmp 61) 0, .eff⟩,
  ⟨(some 66), none, .ext (.tmp 61) 1, .eff⟩,
  ⟨(some 7), none, .move (.tmp 65), .eff⟩,
  ⟨(some 8), none, .move (.tmp 66), .eff⟩])
 (.seq (.ops none [
  ⟨(some 9), none, .move (.const (.int .i64 0)), .eff⟩])
 (.seq (.seq (.ops none [
  ⟨(some 67), none, .move (.tmp 6), .eff⟩,
  ⟨(some 68), none, .iaddr 7 none (.tmp 67) (.const (.int .i64 0)), .eff⟩,
  ⟨(some 69), none, .faddr 0 (.tmp 68), .eff⟩,
  ⟨(some 70), none, .load none (.tmp 69), .eff⟩])
 (.block 2 (.seq (.ops none [
  ⟨(some 88), none, .eqv false (.one (.int .u8)) (.tmp 70) (.const (.int .u8 13)), .eff⟩,
  ⟨(some 87), none, .move (.tmp 88), .eff⟩])
 (.cond (.tmp 87) (.ops (some []) [
  ⟨(some 90), none, .load (some 9) (.tmp 2), .eff⟩,
  ⟨(some 91), none, .move (.tmp 6), .eff⟩,
  ⟨(some 92), none, .iaddr 7 none (.tmp 91) (.const (.int .i64 0)), .eff⟩,
  ⟨(some 93), none, .faddr 6 (.tmp 92), .eff⟩,
  ⟨(some 94), none, .load none (.tmp 93), .eff⟩,
  ⟨(some 95), none, .call 16 [(.tmp 90), (.tmp 94)], .view⟩,
  ⟨(some 89), none, .move (.tmp 95), .eff⟩,
  ⟨(some 96), none, .ext (.tmp 89) 0, .eff⟩,
  ⟨(some 97), none, .ext (.tmp 89) 1, .eff⟩,
  ⟨(some 9), none, .move (.tmp 96), .eff⟩])
 (.seq (.ops none [
  ⟨(some 99), none, .eqv false (.one (.int .u8)) (.tmp 70) (.const (.int .u8 14)), .eff⟩,
  ⟨(some 98), none, .move (.tmp 99), .eff⟩])
 (.cond (.tmp 98) (.ops (some []) [
  ⟨(some 101), none, .load (some 9) (.tmp 2), .eff⟩,
  ⟨(some 102), none, .move (.tmp 6), .eff⟩,
  ⟨(some 103), none, .iaddr 7 none (.tmp 102) (.const (.int .i64 0)), .eff⟩,
  ⟨(some 104), none, .faddr 6 (.tmp 103), .eff⟩,
  ⟨(some 105), none, .load none (.tmp 104), .eff⟩,
  ⟨(some 106), none, .call 20 [(.tmp 101), (.tmp 105)], .view⟩,
  ⟨(some 100), none, .move (.tmp 106), .eff⟩,
  ⟨(some 107), none, .ext (.tmp 100) 0, .eff⟩,
  ⟨(some 108), none, .ext (.tmp 100) 1, .eff⟩,
  ⟨(some 9), none, .move (.tmp 107), .eff⟩])
 (.seq (.seq (.ops none [
  ⟨(some 110), none, .eqv false (.one (.int .u8)) (.tmp 70) (.const (.int .u8 23)), .eff⟩,
  ⟨(some 109), none, .move (.tmp 110), .eff⟩])
 (.cond (.tmp 109) .skip
 (.ops none [
  ⟨(some 111), none, .eqv false (.one (.int .u8)) (.tmp 70) (.const (.int .u8 22)), .eff⟩,
  ⟨(some 109), none, .move (.tmp 111), .eff⟩])))
 (.cond (.tmp 109) .skip
 (.seq (.ops none [
  ⟨(some 71), none, .load (some 9) (.tmp 2), .eff⟩,
  ⟨(some 10), none, .alloc false [.nils, .nils, .nils, .nils, .nils, .nils, .nils, .nils, .nils], .eff⟩,
  ⟨none, none, .store 9 (.tmp 10) (.tmp 71), .eff⟩])
 (.seq (.ops (some [(4, 6)]) [
  ⟨(some 72), none, .move (.tmp 1), .eff⟩,
  ⟨(some 73), none, .move (.tmp 6), .eff⟩,
  ⟨(some 74), none, .slc (some 7) (.tmp 73) (some (.const (.int .i64 1))) none none, .eff⟩,
  ⟨(some 75), none, .build [(.int .i64 0), .nils] [(0, 1, (.tmp 72)), (1, 1, (.tmp 74))], .eff⟩,
  ⟨(some 76), none, .bslice [(.int .i64 0), .nils] 1 2 [(0, (.tmp 75))], .eff⟩,
  ⟨(some 77), none, .faddr 4 (.tmp 2), .eff⟩,
  ⟨(some 78), none, .load none (.tmp 77), .eff⟩,
  ⟨(some 79), none, .append 2 32 (.tmp 76) (.tmp 78), .eff⟩,
  ⟨(some 80), none, .faddr 4 (.tmp 10), .eff⟩,
  ⟨none, none, .store 1 (.tmp 80) (.tmp 79), .eff⟩])
 (.ops none [
  ⟨(some 82), none, .load (some 9) (.tmp 10), .eff⟩,
  ⟨(some 83), none, .move (.tmp 1), .eff⟩,
  ⟨(some 84), none, .call 18 [(.tmp 82), (.tmp 83)], .view⟩,
  ⟨(some 81), none, .move (.tmp 84), .eff⟩,
  ⟨(some 85), none, .ext (.tmp 81) 0, .eff⟩,
  ⟨(some 86), none, .ext (.tmp 81) 1, .eff⟩,
  ⟨(some 9), none, .move (.tmp 85), .eff⟩])))))))))))
 (.seq (.ops none [
  ⟨(some 112), none, .move (.tmp 7), .eff⟩,
  ⟨(some 113), none, .move (.tmp 9), .eff⟩,
  ⟨(some 114), none, .bin .add (.const (.int .i64 1)) (.tmp 113), .eff⟩,
  ⟨(some 115), none, .mm false (.const (.int .i64 65537)) [(.tmp 114)], .eff⟩,
  ⟨(some 116), none, .eqv false (.one (.int .i64)) (.tmp 112) (.tmp 115), .eff⟩,
  ⟨(some 4), none, .move (.tmp 116), .eff⟩])
 .ret))))))))
 (.ops none [
  ⟨(some 35), none, .move (.tmp 5), .eff⟩,
  ⟨(some 36), none, .bin .add (.tmp 35) (.const (.int .i64 1)), .eff⟩,
  ⟨(some 5), none, .move (.tmp 36), .eff⟩]))))))
 (.seq (.seq (.ops none [
  ⟨(some 11), none, .move (.const (.int .i64 0)), .eff⟩])
 (.block 3 (.loop [1, 2, 11] (.seq (.seq (.ops none [
  ⟨(some 117), none, .move (.tmp 11), .eff⟩,
  ⟨(some 118), none, .faddr 2 (.tmp 2), .eff⟩,
  ⟨(some 119), none, .load none (.tmp 118), .eff⟩,
  ⟨(some 120), none, .len .slice (.tmp 119), .eff⟩,
  ⟨(some 121), none, .bin .lss (.tmp 117) (.tmp 120), .eff⟩])
 (.cond (.tmp 121) .skip
 (.exit 3)))
 (.seq (.block 4 (.seq (.seq (.ops none [
  ⟨(some 124), none, .faddr 2 (.tmp 2), .eff⟩,
  ⟨(some 125), none, .load none (.tmp 124), .eff⟩,
  ⟨(some 126), none, .move (.tmp 11), .eff⟩,
  ⟨(some 127), none, .iaddr 5 none (.tmp 125) (.tmp 126), .eff⟩,
  ⟨(some 128), none, .faddr 0 (.tmp 127), .eff⟩,
  ⟨(some 129), none, .load none (.tmp 128), .eff⟩,
  ⟨(some 130), none, .move (.tmp 1), .eff⟩,
  ⟨(some 131), none, .eqv true (.one (.int .i64)) (.tmp 129) (.tmp 130), .eff⟩])
 (.cond (.tmp 131) (.exit 4)
 .skip))
 (.seq (.ops none [
  ⟨(some 133), none, .load (some 9) (.tmp 2), .eff⟩,
  ⟨(some 134), none, .move (.tmp 1), .eff⟩,
  ⟨(some 135), none, .call 16 [(.tmp 133), (.tmp 134)], .view⟩,
  ⟨(some 132), none, .move (.tmp 135), .eff⟩,
  ⟨(some 136), none, .ext (.tmp 132) 0, .eff⟩,
  ⟨(some 137), none, .ext (.tmp 132) 1, .eff⟩,
  ⟨(some 12), none, .move (.tmp 136), .eff⟩,
  ⟨(some 13), none, .move (.tmp 137), .eff⟩])
 (.seq (.ops (some []) [
  ⟨(some 139), none, .load (some 9) (.tmp 2), .eff⟩,
  ⟨(some 140), none, .faddr 2 (.tmp 2), .eff⟩,
  ⟨(some 141), none, .load none (.tmp 140), .eff⟩,
  ⟨(some 142), none, .move (.tmp 11), .eff⟩,
  ⟨(some 143), none, .iaddr 5 none (.tmp 141) (.tmp 142), .eff⟩,
  ⟨(some 144), none, .faddr 4 (.tmp 143), .eff⟩,
  ⟨(some 145), none, .load none (.tmp 144), .eff⟩,
  ⟨(some 146), none, .call 18 [(.tmp 139), (.tmp 145)], .view⟩,
  ⟨(some 138), none, .move (.tmp 146), .eff⟩,
  ⟨(some 147), none, .ext (.tmp 138) 0, .eff⟩,
  ⟨(some 148), none, .ext (.tmp 138) 1, .eff⟩,
  ⟨(some 14), none, .move (.tmp 147), .eff⟩,
  ⟨(some 15), none, .move (.tmp 148), .eff⟩])
 (.seq (.seq (.ops none [
  ⟨(some 16), none, .move (.const (.int .i64 0)), .eff⟩])
 (.block 5 (.loop [1, 2, 12, 14, 16] (.seq (.seq (.ops none [
  ⟨(some 149), none, .move (.tmp 16), .eff⟩,
  ⟨(some 150), none, .faddr 3 (.tmp 2), .eff⟩,
  ⟨(some 151), none, .load none (.tmp 150), .eff⟩,
  ⟨(some 152), none, .len .slice (.tmp 151), .eff⟩,
  ⟨(some 153), none, .bin .lss (.tmp 149) (.tmp 152), .eff⟩])
 (.cond (.tmp 153) .skip
 (.exit 5)))
 (.seq (.block 6 (.seq (.ops none [
  ⟨(some 156), none, .faddr 3 (.tmp 2), .eff⟩,
  ⟨(some 157), none, .load none (.tmp 156), .eff⟩,
  ⟨(some 158), none, .move (.tmp 16), .eff⟩,
  ⟨(some 159), none, .iaddr 11 none (.tmp 157) (.tmp 158), .eff⟩,
  ⟨(some 160), none, .faddr 0 (.tmp 159), .eff⟩,
  ⟨(some 161), none, .load none (.tmp 160), .eff⟩,
  ⟨(some 162), none, .move (.tmp 1), .eff⟩,
  ⟨(some 163), none, .eqv false (.one (.int .i64)) (.tmp 161) (.tmp 162), .eff⟩])
 (.cond (.tmp 163) (.seq (.ops (some []) [
  ⟨(some 165), none, .load (some 9) (.tmp 2), .eff⟩,
  ⟨(some 166), none, .faddr 3 (.tmp 2), .eff⟩,
  ⟨(some 167), none, .load none (.tmp 166), .eff⟩,
  ⟨(some 168), none, .move (.tmp 16), .eff⟩,
  ⟨(some 169), none, .iaddr 11 none (.tmp 167) (.tmp 168), .eff⟩,
  ⟨(some 170), none, .faddr 5 (.tmp 169), .eff⟩,
  ⟨(some 171), none, .load none (.tmp 170), .eff⟩,
  ⟨(some 172), none, .call 18 [(.tmp 165), (.tmp 171)], .view⟩,
  ⟨(some 164), none, .move (.tmp 172), .eff⟩,
  ⟨(some 173), none, .ext (.tmp 164) 0, .eff⟩,
  ⟨(some 174), none, .ext (.tmp 164) 1, .eff⟩,
  ⟨(some 17), none, .move (.tmp 173), .eff⟩,
  ⟨(some 18), none, .move (.tmp 174), .eff⟩])
 (.ops none [
  ⟨(some 175), none, .move (.tmp 14), .eff⟩,
  ⟨(some 176), none, .move (.tmp 17), .eff⟩,
  ⟨(some 177), none, .mm true (.tmp 175) [(.tmp 176)], .eff⟩,
  ⟨(some 14), none, .move (.tmp 177), .eff⟩]))
 .skip)))
 (.ops none [
  ⟨(some 154), none, .move (.tmp 16), .eff⟩,
  ⟨(some 155), none, .bin .add (.tmp 154) (.const (.int .i64 1)), .eff⟩,
  ⟨(some 16), none, .move (.tmp 155), .eff⟩]))))))
 (.seq (.ops none [
  ⟨(some 178), none, .move (.tmp 12), .eff⟩,
  ⟨(some 179), none, .move (.tmp 14), .eff⟩,
  ⟨(some 180), none, .bin .add (.const (.int .i64 1)) (.tmp 179), .eff⟩,
  ⟨(some 181), none, .mm false (.const (.int .i64 65537)) [(.tmp 180)], .eff⟩,
  ⟨(some 182), none, .eqv false (.one (.int .i64)) (.tmp 178) (.tmp 181), .eff⟩,
  ⟨(some 4), none, .move (.tmp 182), .eff⟩])
 .ret))))))
 (.ops none [
  ⟨(some 122), none, .move (.tmp 11), .eff⟩,
  ⟨(some 123), none, .bin .add (.tmp 122) (.const (.int .i64 1)), .eff⟩,
  ⟨(some 11), none, .move (.tmp 123), .eff⟩]))))))
 (.seq (.ops none [
  ⟨(some 4), none, .move (.const (.bool true)), .eff⟩])
 .ret)))))⟩
set_option maxRecDepth 100000 in
theorem v6_ok : stripF (ttOf Try.prog) { hp := [], md := [(20, .view), (23, .view), (26, .view), (29, .view), (64, .view), (95, .view), (106, .view), (84, .view), (135, .view), (146, .view), (172, .view)], ks := [[1, 2, 5], [1, 2, 11], [1, 2, 12, 14, 16]] } Try.f6 = some v6 := by kernel_rfl
theorem n6_ok : (Try.f6.name == "runtime.NumGoroutine") = false := by kernel_rfl
def v7 : VFun := ⟨4, 117, [.tmp 8],
 (.seq (.ops none [
  ⟨(some 4), none, .box false (.tmp 0), .eff⟩,
  ⟨(some 8), none, .move (.const (.bool false)), .eff⟩])
 (.seq (.seq (.ops none [
  ⟨(some 16), none, .load (some 9) (.tmp 4), .eff⟩,
  ⟨(some 17), none, .call 10 [(.tmp 16)], .view⟩,
  ⟨(some 18), none, .move (.tmp 17), .eff⟩,
  ⟨(some 19), (some (18, false)), .load (some 9) (.tmp 4), .eff⟩,
  ⟨(some 20), (some (18, false)), .call 14 [(.tmp 19)], .view⟩,
  ⟨(some 21), none, .pick (.tmp 18) (.const (.bool true)) (.tmp 20), .eff⟩,
  ⟨(some 22), none, .move (.tmp 21), .eff⟩,
  ⟨(some 23), (some (22, false)), .call 11 [], .view⟩,
  ⟨(some 24), (some (22, false)), .un .not (.tmp 23), .eff⟩,
  ⟨(some 25), none, .pick (.tmp 22) (.const (.bool true)) (.tmp 24), .eff⟩])
 (.cond (.tmp 25) (.seq (.ops none [
  ⟨(some 26), none, .call 11 [], .view⟩,
  ⟨(some 8), none, .move (.tmp 26), .eff⟩])
 .ret)
 .skip))
 (.seq (.ops none [
  ⟨(some 27), none, .load (some 9) (.tmp 4), .eff⟩,
  ⟨(some 9), none, .alloc false [.nils, .nils, .nils, .nils, .nils, .nils, .nils, .nils, .nils], .eff⟩,
  ⟨none, none, .store 9 (.tmp 9) (.tmp 27), .eff⟩])
 (.seq (.seq (.ops none [
  ⟨(some 28), none, .faddr 3 (.tmp 4), .eff⟩,
  ⟨(some 29), none, .load none (.tmp 28), .eff⟩,
  ⟨(some 30), none, .len .slice (.tmp 29), .eff⟩,
  ⟨(some 31), none, .bin .gtr (.tmp 30) (.const (.int .i64 0)), .eff⟩])
 (.cond (.tmp 31) (.seq (.ops none [
  ⟨(some 32), none, .move (.tmp 1), .eff⟩,
  ⟨(some 33), none, .cvt (.int .u64) (.tmp 32), .eff⟩,
  ⟨(some 34), none, .faddr 3 (.tmp 4), .eff⟩,
  ⟨(some 35), none, .load none (.tmp 34), .eff⟩,
  ⟨(some 36), none, .len .slice (.tmp 35), .eff⟩,
  ⟨(some 37), none, .cvt (.int .u64) (.tmp 36), .eff⟩,
  ⟨(some 38), none, .bin .rem (.tmp 33) (.tmp 37), .eff⟩,
  ⟨(some 39), none, .cvt (.int .i64) (.tmp 38), .eff⟩,
  ⟨(some 10), none, .move (.tmp 39), .eff⟩])
 (.ops (some [(0, 2), (0, 7), (5, 7)]) [
  ⟨(some 40), none, .bslice [(.int .i64 0), (.str (ByteArray.mk #[])), (.str (ByteArray.mk #[])), (.int .i64 0), (.int .i64 0), (.int .i64 0), .nils, (.int .i64 0), (.int .i64 0), (.int .u64 0), (.bool false)] 0 11 [], .eff⟩,
  ⟨(some 41), none, .faddr 3 (.tmp 4), .eff⟩,
  ⟨(some 42), none, .load none (.tmp 41), .eff⟩,
  ⟨(some 43), none, .move (.tmp 10), .eff⟩,
  ⟨(some 44), none, .slc (some 11) (.tmp 42) none (some (.tmp 43)) none, .eff⟩,
  ⟨(some 45), none, .append 11 120 (.tmp 40) (.tmp 44), .eff⟩,
  ⟨(some 46), none, .faddr 3 (.tmp 4), .eff⟩,
  ⟨(some 47), none, .load none (.tmp 46), .eff⟩,
  ⟨(some 48), none, .move (.tmp 10), .eff⟩,
  ⟨(some 49), none, .bin .add (.tmp 48) (.const (.int .i64 1)), .eff⟩,
  ⟨(some 50), none, .slc (some 11) (.tmp 47) (some (.tmp 49)) none none, .eff⟩,
  ⟨(some 51), none, .append 11 120 (.tmp 45) (.tmp 50), .eff⟩,
  ⟨(some 52), none, .faddr 3 (.tmp 9), .eff⟩,
  ⟨none, none, .store 1 (.tmp 52) (.tmp 51), .eff⟩]))
 .skip))
 (.seq (.seq (.ops none [
  ⟨(some 53), none, .faddr 4 (.tmp 4), .eff⟩,
  ⟨(some 54), none, .load none (.tmp 53), .eff⟩,
  ⟨(some 55), none, .len .slice (.tmp 54), .eff⟩,
  ⟨(some 56), none, .bin .gtr (.tmp 55) (.const (.int .i64 0)), .eff⟩])
 (.cond (.tmp 56) (.seq (.ops none [
  ⟨(some 57), none, .move (.tmp 2), .eff⟩,
  ⟨(some 58), none, .cvt (.int .u64) (.tmp 57), .eff⟩,
  ⟨(some 59), none, .faddr 4 (.tmp 4), .eff⟩,
  ⟨(some 60), none, .load none (.tmp 59), .eff⟩,
  ⟨(some 61), none, .len .slice (.tmp 60), .eff⟩,
  ⟨(some 62), none, .cvt (.int .u64) (.tmp 61), .eff⟩,
  ⟨(some 63), none, .bin .rem (.tmp 58) (.tmp 62), .eff⟩,
  ⟨(some 64), none, .cvt (.int .i64) (.tmp 63), .eff⟩,
  ⟨(some 11), none, .move (.tmp 64), .eff⟩])
 (.seq (.ops none [
  ⟨(some 65), none, .bslice [(.int .i64 0), .nils] 0 2 [], .eff⟩,
  ⟨(some 66), none, .faddr 4 (.tmp 4), .eff⟩,
  ⟨(some 67), none, .load none (.tmp 66), .eff⟩,
  ⟨(some 68), none, .append 2 32 (.tmp 65) (.tmp 67), .eff⟩,
  ⟨(some 69), none, .faddr 4 (.tmp 9), .eff⟩,
  ⟨none, none, .store 1 (.tmp 69) (.tmp 68), .eff⟩])
 (.ops (some []) [
  ⟨(some 70), none, .faddr 4 (.tmp 9), .eff⟩,
  ⟨(some 71), none, .load none (.tmp 70), .eff⟩,
  ⟨(some 72), none, .move (.tmp 11), .eff⟩,
  ⟨(some 73), none, .faddr 4 (.tmp 4), .eff⟩,
  ⟨(some 74), none, .load none (.tmp 73), .eff⟩,
  ⟨(some 75), none, .move (.tmp 11), .eff⟩,
  ⟨(some 76), none, .iaddr 2 none (.tmp 74) (.tmp 75), .eff⟩,
  ⟨(some 77), none, .faddr 0 (.tmp 76), .eff⟩,
  ⟨(some 78), none, .load none (.tmp 77), .eff⟩,
  ⟨(some 79), none, .build [(.int .i64 0), .nils] [(0, 1, (.tmp 78))], .eff⟩,
  ⟨(some 80), none, .iaddr 2 none (.tmp 71) (.tmp 72), .eff⟩,
  ⟨none, none, .store 2 (.tmp 80) (.tmp 79), .eff⟩])))
 .skip))
 (.seq (.ops none [
  ⟨(some 82), none, .load (some 9) (.tmp 4), .eff⟩,
  ⟨(some 83), none, .call 12 [(.tmp 82)], .view⟩,
  ⟨(some 81), none, .move (.tmp 83), .eff⟩,
  ⟨(some 84), none, .ext (.tmp 81) 0, .eff⟩,
  ⟨(some 85), none, .ext (.tmp 81) 1, .eff⟩,
  ⟨(some 12), none, .move (.tmp 84), .eff⟩,
  ⟨(some 13), none, .move (.tmp 85), .eff⟩])
 (.seq (.ops none [
  ⟨(some 87), none, .load (some 9) (.tmp 9), .eff⟩,
  ⟨(some 88), none, .call 12 [(.tmp 87)], .view⟩,
  ⟨(some 86), none, .move (.tmp 88), .eff⟩,
  ⟨(some 89), none, .ext (.tmp 86) 0, .eff⟩,
  ⟨(some 90), none, .ext (.tmp 86) 1, .eff⟩,
  ⟨(some 14), none, .move (.tmp 89), .eff⟩,
  ⟨(some 15), none, .move (.tmp 90), .eff⟩])
 (.seq (.seq (.ops none [
  ⟨(some 91), none, .move (.tmp 13), .eff⟩,
  ⟨(some 92), none, .eqv true (.one (.int .i64)) (.tmp 91) (.const (.int .i64 0)), .eff⟩,
  ⟨(some 93), none, .move (.tmp 92), .eff⟩,
  ⟨(some 94), (some (93, false)), .move (.tmp 15), .eff⟩,
  ⟨(some 95), (some (93, false)), .eqv true (.one (.int .i64)) (.tmp 94) (.const (.int .i64 0)), .eff⟩,
  ⟨(some 96), none, .pick (.tmp 93) (.const (.bool true)) (.tmp 95), .eff⟩,
  ⟨(some 97), none, .move (.tmp 96), .eff⟩,
  ⟨(some 98), (some (97, false)), .move (.tmp 14), .eff⟩,
  ⟨(some 99), (some (97, false)), .move (.tmp 12), .eff⟩,
  ⟨(some 100), (some (97, false)), .bin .gtr (.tmp 98) (.tmp 99), .eff⟩,
  ⟨(some 101), none, .pick (.tmp 97) (.const (.bool true)) (.tmp 100), .eff⟩])
 (.cond (.tmp 101) (.seq (.ops none [
  ⟨(some 8), none, .move (.const (.bool false)), .eff⟩])
 .ret)
 .skip))
 (.seq (.ops none [
  ⟨(some 103), none, .load (some 9) (.tmp 4), .eff⟩,
  ⟨(some 104), none, .move (.tmp 3), .eff⟩,
  ⟨(some 105), none, .call 20 [(.tmp 103), (.tmp 104)], .view⟩,
  ⟨(some 102), none, .move (.tmp 105), .eff⟩,
  ⟨(some 106), none, .ext (.tmp 102) 0, .eff⟩,
  ⟨(some 107), none, .ext (.tmp 102) 1, .eff⟩,
  ⟨(some 12), none, .move (.tmp 106), .eff⟩])
 (.seq (.ops none [
  ⟨(some 109), none, .load (some 9) (.tmp 9), .eff⟩,
  ⟨(some 110), none, .move (.tmp 3), .eff⟩,
  ⟨(some 111), none, .call 20 [(.tmp 109), (.tmp 110)], .view⟩,
  ⟨(some 108), none, .move (.tmp 111), .eff⟩,
  ⟨(some 112), none, .ext (.tmp 108) 0, .eff⟩,
  ⟨(some 113), none, .ext (.tmp 108) 1, .eff⟩,
  ⟨(some 14), none, .move (.tmp 112), .eff⟩])
 (.seq (.ops none [
  ⟨(some 114), none, .move (.tmp 14), .eff⟩,
  ⟨(some 115), none, .move (.tmp 12), .eff⟩,
  ⟨(some 116), none, .bin .leq (.tmp 114) (.tmp 115), .eff⟩,
  ⟨(some 8), none, .move (.tmp 116), .eff⟩])
 .ret)))))))))))⟩
set_option maxRecDepth 100000 in
theorem v7_ok : stripF (ttOf Try.prog) { hp := [], md := [(17, .view), (20, .view), (23, .view), (26, .view), (83, .view), (88, .view), (105, .view), (111, .view)], ks := [] } Try.f7 = some v7 := by kernel_rfl
theorem n7_ok : (Try.f7.name == "runtime.NumGoroutine") = false := by kernel_rfl
def v8 : VFun := ⟨3, 129, [.tmp 6],
 (.seq (.ops none [
  ⟨(some 3), none, .box false (.tmp 0), .eff⟩,
  ⟨(some 4), none, .box false (.tmp 1), .eff⟩,
  ⟨(some 6), none, .move (.const (.bool false)), .eff⟩])
 (.seq (.seq (.ops none [
  ⟨(some 16), none, .load (some 9) (.tmp 3), .eff⟩,
  ⟨(some 17), none, .call 10 [(.tmp 16)], .view⟩,
  ⟨(some 18), none, .move (.tmp 17), .eff⟩,
  ⟨(some 19), (some (18, false)), .load (some 9) (.tmp 4), .eff⟩,
  ⟨(some 20), (some (18, false)), .call 10 [(.tmp 19)], .view⟩,
  ⟨(some 21), none, .pick (.tmp 18) (.const (.bool true)) (.tmp 20), .eff⟩,
  ⟨(some 22), none, .move (.tmp 21), .eff⟩,
  ⟨(some 23), (some (22, false)), .call 11 [], .view⟩,
  ⟨(some 24), (some (22, false)), .un .not (.tmp 23), .eff⟩,
  ⟨(some 25), none, .pick (.tmp 22) (.const (.bool true)) (.tmp 24), .eff⟩])
 (.cond (.tmp 25) (.seq (.ops none [
  ⟨(some 26), none, .call 11 [], .view⟩,
  ⟨(some 6), none, .move (.tmp 26), .eff⟩])
 .ret)
 .skip))
 (.seq (.ops (some [(0, 2), (0, 5), (3, 5), (0, 7), (2, 7), (3, 7), (5, 7), (6, 7), (0, 9), (3, 9), (6, 9), (7, 9), (0, 12), (3, 12), (6, 12), (7, 12), (10, 12), (0, 14), (2, 14), (3, 14), (5, 14), (6, 14), (7, 14), (9, 14), (10, 14), (12, 14), (13, 14), (0, 16), (3, 16), (6, 16), (7, 16), (10, 16), (13, 16), (14, 16), (0, 19), (3, 19), (6, 19), (7, 19), (10, 19), (13, 19), (14, 19), (17, 19), (0, 21), (2, 21), (3, 21), (5, 21), (6, 21), (7, 21), (9, 21), (10, 21), (12, 21), (13, 21), (14, 21), (16, 21), (17, 21), (19, 21), (20, 21), (0, 23), (3, 23), (6, 23), (7, 23), (10, 23), (13, 23), (14, 23), (17, 23), (20, 23), (21, 23), (0, 26), (3, 26), (6, 26), (7, 26), (10, 26), (13, 26), (14, 26), (17, 26), (20, 26), (21, 26), (24, 26), (0, 29), (1, 29), (2, 29), (3, 29), (4, 29), (5, 29), (6, 29), (7, 29), (8, 29), (9, 29), (10, 29), (11, 29), (12, 29), (13, 29), (14, 29), (15, 29), (16, 29), (17, 29), (18, 29), (19, 29), (20, 29), (21, 29), (22, 29), (23, 29), (24, 29), (25, 29), (26, 29), (27, 29)]) [
  ⟨(some 27), none, .bslice [(.int .i64 0), (.int .u8 0), .nils, (.int .i64 0), (.int .i64 0)] 0 5 [], .eff⟩,
  ⟨(some 28), none, .faddr 2 (.tmp 3), .eff⟩,
  ⟨(some 29), none, .load none (.tmp 28), .eff⟩,
  ⟨(some 30), none, .append 5 56 (.tmp 27) (.tmp 29), .eff⟩,
  ⟨(some 31), none, .faddr 2 (.tmp 4), .eff⟩,
  ⟨(some 32), none, .load none (.tmp 31), .eff⟩,
  ⟨(some 33), none, .append 5 56 (.tmp 30) (.tmp 32), .eff⟩,
  ⟨(some 34), none, .bslice [(.int .i64 0), (.str (ByteArray.mk #[])), (.str (ByteArray.mk #[])), (.int .i64 0), (.int .i64 0), (.int .i64 0), .nils, (.int .i64 0), (.int .i64 0), (.int .u64 0), (.bool false)] 0 11 [], .eff⟩,
  ⟨(some 35), none, .faddr 3 (.tmp 3), .eff⟩,
  ⟨(some 36), none, .load none (.tmp 35), .eff⟩,
  ⟨(some 37), none, .append 11 120 (.tmp 34) (.tmp 36), .eff⟩,
  ⟨(some 38), none, .faddr 3 (.tmp 4), .eff⟩,
  ⟨(some 39), none, .load none (.tmp 38), .eff⟩,
  ⟨(some 40), none, .append 11 120 (.tmp 37) (.tmp 39), .eff⟩,
  ⟨(some 41), none, .bslice [(.int .i64 0), .nils] 0 2 [], .eff⟩,
  ⟨(some 42), none, .faddr 4 (.tmp 3), .eff⟩,
  ⟨(some 43), none, .load none (.tmp 42), .eff⟩,
  ⟨(some 44), none, .append 2 32 (.tmp 41) (.tmp 43), .eff⟩,
  ⟨(some 45), none, .faddr 4 (.tmp 4), .eff⟩,
  ⟨(some 46), none, .load none (.tmp 45), .eff⟩,
  ⟨(some 47), none, .append 2 32 (.tmp 44) (.tmp 46), .eff⟩,
  ⟨(some 48), none, .bslice [(.int .i64 0), (.int .u8 0), (.int .i64 0), .nils] 0 4 [], .eff⟩,
  ⟨(some 49), none, .faddr 5 (.tmp 3), .eff⟩,
  ⟨(some 50), none, .load none (.tmp 49), .eff⟩,
  ⟨(some 51), none, .append 4 48 (.tmp 48) (.tmp 50), .eff⟩,
  ⟨(some 52), none, .faddr 5 (.tmp 4), .eff⟩,
  ⟨(some 53), none, .load none (.tmp 52), .eff⟩,
  ⟨(some 54), none, .append 4 48 (.tmp 51) (.tmp 53), .eff⟩,
  ⟨(some 55), none, .build [.nils, .nils, .nils, .nils, .nils, .nils, .nils, .nils, .nils] [(2, 1, (.tmp 33)), (3, 1, (.tmp 40)), (4, 1, (.tmp 47)), (5, 1, (.tmp 54))], .eff⟩,
  ⟨(some 7), none, .alloc false [.nils, .nils, .nils, .nils, .nils, .nils, .nils, .nils, .nils], .eff⟩,
  ⟨none, none, .store 9 (.tmp 7) (.tmp 55), .eff⟩])
 (.seq (.seq (.ops none [
  ⟨(some 56), none, .load (some 9) (.tmp 3), .eff⟩,
  ⟨(some 57), none, .call 14 [(.tmp 56)], .view⟩])
 (.cond (.tmp 57) (.seq (.ops none [
  ⟨(some 58), none, .load (some 9) (.tmp 7), .eff⟩,
  ⟨(some 59), none, .call 14 [(.tmp 58)], .view⟩,
  ⟨(some 6), none, .move (.tmp 59), .eff⟩])
 .ret)
 .skip))
 (.seq (.seq (.ops none [
  ⟨(some 8), none, .move (.const (.int .i64 0)), .eff⟩])
 (.block 0 (.loop [2, 3, 8] (.seq (.seq (.ops none [
  ⟨(some 60), none, .move (.tmp 8), .eff⟩,
  ⟨(some 61), none, .faddr 5 (.tmp 3), .eff⟩,
  ⟨(some 62), none, .load none (.tmp 61), .eff⟩,
  ⟨(some 63), none, .len .slice (.tmp 62), .eff⟩,
  ⟨(some 64), none, .bin .lss (.tmp 60) (.tmp 63), .eff⟩])
 (.cond (.tmp 64) .skip
 (.exit 0)))
 (.seq (.block 1 (.seq (.seq (.ops none [
  ⟨(some 67), none, .faddr 5 (.tmp 3), .eff⟩,
  ⟨(some 68), none, .load none (.tmp 67), .eff⟩,
  ⟨(some 69), none, .move (.tmp 8), .eff⟩,
  ⟨(some 70), none, .iaddr 4 none (.tmp 68) (.tmp 69), .eff⟩,
  ⟨(some 71), none, .faddr 0 (.tmp 70), .eff⟩,
  ⟨(some 72), none, .load none (.tmp 71), .eff⟩,
  ⟨(some 73), none, .move (.tmp 2), .eff⟩,
  ⟨(some 74), none, .eqv true (.one (.int .i64)) (.tmp 72) (.tmp 73), .eff⟩])
 (.cond (.tmp 74) (.exit 1)
 .skip))
 (.seq (.ops none [
  ⟨(some 76), none, .load (some 9) (.tmp 3), .eff⟩,
  ⟨(some 77), none, .move (.tmp 2), .eff⟩,
  ⟨(some 78), none, .call 20 [(.tmp 76), (.tmp 77)], .view⟩,
  ⟨(some 75), none, .move (.tmp 78), .eff⟩,
  ⟨(some 79), none, .ext (.tmp 75) 0, .eff⟩,
  ⟨(some 80), none, .ext (.tmp 75) 1, .eff⟩,
  ⟨(some 9), none, .move (.tmp 79), .eff⟩,
  ⟨(some 10), none, .move (.tmp 80), .eff⟩])
 (.seq (.seq (.ops none [
  ⟨(some 11), none, .move (.const (.int .i64 0)), .eff⟩])
 (.block 2 (.loop [3, 8, 9, 11] (.seq (.seq (.ops none [
  ⟨(some 81), none, .move (.tmp 11), .eff⟩,
  ⟨(some 82), none, .faddr 5 (.tmp 3), .eff⟩,
  ⟨(some 83), none, .load none (.tmp 82), .eff⟩,
  ⟨(some 84), none, .move (.tmp 8), .eff⟩,
  ⟨(some 85), none, .iaddr 4 none (.tmp 83) (.tmp 84), .eff⟩,
  ⟨(some 86), none, .faddr 3 (.tmp 85), .eff⟩,
  ⟨(some 87), none, .load none (.tmp 86), .eff⟩,
  ⟨(some 88), none, .len .slice (.tmp 87), .eff⟩,
  ⟨(some 89), none, .bin .lss (.tmp 81) (.tmp 88), .eff⟩])
 (.cond (.tmp 89) .skip
 (.exit 2)))
 (.seq (.block 3 (.seq (.ops (some []) [
  ⟨(some 93), none, .load (some 9) (.tmp 3), .eff⟩,
  ⟨(some 94), none, .faddr 5 (.tmp 3), .eff⟩,
  ⟨(some 95), none, .load none (.tmp 94), .eff⟩,
  ⟨(some 96), none, .move (.tmp 8), .eff⟩,
  ⟨(some 97), none, .iaddr 4 none (.tmp 95) (.tmp 96), .eff⟩,
  ⟨(some 98), none, .faddr 3 (.tmp 97), .eff⟩,
  ⟨(some 99), none, .load none (.tmp 98), .eff⟩,
  ⟨(some 100), none, .move (.tmp 11), .eff⟩,
  ⟨(some 101), none, .iaddr 2 none (.tmp 99) (.tmp 100), .eff⟩,
  ⟨(some 102), none, .faddr 1 (.tmp 101), .eff⟩,
  ⟨(some 103), none, .load none (.tmp 102), .eff⟩,
  ⟨(some 104), none, .call 18 [(.tmp 93), (.tmp 103)], .view⟩,
  ⟨(some 92), none, .move (.tmp 104), .eff⟩,
  ⟨(some 105), none, .ext (.tmp 92) 0, .eff⟩,
  ⟨(some 106), none, .ext (.tmp 92) 1, .eff⟩,
  ⟨(some 12), none, .move (.tmp 105), .eff⟩,
  ⟨(some 13), none, .move (.tmp 106), .eff⟩])
 (.seq (.ops none [
  ⟨(some 107), none, .move (.tmp 13), .eff⟩,
  ⟨(some 108), none, .eqv true (.one (.int .i64)) (.tmp 107) (.const (.int .i64 0)), .eff⟩,
  ⟨(some 109), none, .move (.tmp 108), .eff⟩,
  ⟨(some 110), (some (109, false)), .move (.tmp 12), .eff⟩,
  ⟨(some 111), (some (109, false)), .move (.tmp 9), .eff⟩,
  ⟨(some 112), (some (109, false)), .bin .gtr (.tmp 110) (.tmp 111), .eff⟩,
  ⟨(some 113), none, .pick (.tmp 109) (.const (.bool true)) (.tmp 112), .eff⟩])
 (.cond (.tmp 113) (.seq (.ops none [
  ⟨(some 6), none, .move (.const (.bool false)), .eff⟩])
 .ret)
 .skip))))
 (.ops none [
  ⟨(some 90), none, .move (.tmp 11), .eff⟩,
  ⟨(some 91), none, .bin .add (.tmp 90) (.const (.int .i64 1)), .eff⟩,
  ⟨(some 11), none, .move (.tmp 91), .eff⟩]))))))
 (.exit 0)))))
 (.ops none [
  ⟨(some 65), none, .move (.tmp 8), .eff⟩,
  ⟨(some 66), none, .bin .add (.tmp 65) (.const (.int .i64 1)), .eff⟩,
  ⟨(some 8), none, .move (.tmp 66), .eff⟩]))))))
 (.seq (.ops none [
  ⟨(some 115), none, .load (some 9) (.tmp 3), .eff⟩,
  ⟨(some 116), none, .call 12 [(.tmp 115)], .view⟩,
  ⟨(some 114), none, .move (.tmp 116), .eff⟩,
  ⟨(some 117), none, .ext (.tmp 114) 0, .eff⟩,
  ⟨(some 118), none, .ext (.tmp 114) 1, .eff⟩,
  ⟨(some 14), none, .move (.tmp 117), .eff⟩,
  ⟨(some 15), none, .move (.tmp 118), .eff⟩])
 (.seq (.ops none [
  ⟨(some 119), none, .move (.tmp 15), .eff⟩,
  ⟨(some 120), none, .eqv false (.one (.int .i64)) (.tmp 119) (.const (.int .i64 0)), .eff⟩,
  ⟨(some 121), none, .move (.tmp 120), .eff⟩,
  ⟨(some 122), (some (121, true)), .move (.tmp 14), .eff⟩,
  ⟨(some 123), (some (121, true)), .bin .geq (.tmp 122) (.const (.int .i64 0)), .eff⟩,
  ⟨(some 124), none, .pick (.tmp 121) (.tmp 123) (.const (.bool false)), .eff⟩,
  ⟨(some 125), none, .move (.tmp 124), .eff⟩,
  ⟨(some 126), (some (125, true)), .move (.tmp 14), .eff⟩,
  ⟨(some 127), (some (125, true)), .bin .leq (.tmp 126) (.const (.int .i64 65537)), .eff⟩,
  ⟨(some 128), none, .pick (.tmp 125) (.tmp 127) (.const (.bool false)), .eff⟩,
  ⟨(some 6), none, .move (.tmp 128), .eff⟩])
 .ret)))))))⟩
set_option maxRecDepth 100000 in
theorem v8_ok : stripF (ttOf Try.prog) { hp := [], md := [(17, .view), (20, .view), (23, .view), (26, .view), (57, .view), (59, .view), (78, .view), (104, .view), (116, .view)], ks := [[2, 3, 8], [3, 8, 9, 11]] } Try.f8 = some v8 := by kernel_rfl
theorem n8_ok : (Try.f8.name == "runtime.NumGoroutine") = false := by kernel_rfl
def v9 : VFun := ⟨3, 54, [.tmp 6],
 (.seq (.ops none [
  ⟨(some 6), none, .move (.const (.bool false)), .eff⟩])
 (.seq (.ops none [
  ⟨(some 14), none, .move (.tmp 0), .eff⟩,
  ⟨(some 15), none, .bin .rem (.tmp 14) (.const (.int .u8 17)), .eff⟩,
  ⟨(some 16), none, .cvt (.int .i64) (.tmp 15), .eff⟩,
  ⟨(some 17), none, .move (.tmp 1), .eff⟩,
  ⟨(some 18), none, .bin .rem (.tmp 17) (.const (.int .u8 33)), .eff⟩,
  ⟨(some 19), none, .cvt (.int .i64) (.tmp 18), .eff⟩,
  ⟨(some 20), none, .move (.tmp 2), .eff⟩,
  ⟨(some 21), none, .bin .rem (.tmp 20) (.const (.int .u8 33)), .eff⟩,
  ⟨(some 22), none, .cvt (.int .i64) (.tmp 21), .eff⟩,
  ⟨(some 7), none, .move (.tmp 16), .eff⟩,
  ⟨(some 8), none, .move (.tmp 19), .eff⟩,
  ⟨(some 9), none, .move (.tmp 22), .eff⟩])
 (.seq (.ops none [
  ⟨(some 24), none, .move (.tmp 7), .eff⟩,
  ⟨(some 25), none, .move (.tmp 8), .eff⟩,
  ⟨(some 26), none, .move (.tmp 9), .eff⟩,
  ⟨(some 27), none, .call 24 [(.tmp 24), (.tmp 25), (.tmp 26)], .pure⟩,
  ⟨(some 28), none, .call 12 [(.tmp 27)], .view⟩,
  ⟨(some 23), none, .move (.tmp 28), .eff⟩,
  ⟨(some 29), none, .ext (.tmp 23) 0, .eff⟩,
  ⟨(some 30), none, .ext (.tmp 23) 1, .eff⟩,
  ⟨(some 10), none, .move (.tmp 29), .eff⟩,
  ⟨(some 11), none, .move (.tmp 30), .eff⟩])
 (.seq (.ops none [
  ⟨(some 31), none, .move (.tmp 9), .eff⟩,
  ⟨(some 12), none, .move (.tmp 31), .eff⟩])
 (.seq (.seq (.ops none [
  ⟨(some 13), none, .move (.const (.int .i64 0)), .eff⟩])
 (.block 0 (.loop [7, 8, 10, 11, 12, 13] (.seq (.seq (.ops none [
  ⟨(some 32), none, .move (.tmp 13), .eff⟩,
  ⟨(some 33), none, .move (.tmp 8), .eff⟩,
  ⟨(some 34), none, .bin .lss (.tmp 32) (.tmp 33), .eff⟩])
 (.cond (.tmp 34) .skip
 (.exit 0)))
 (.seq (.block 1 (.ops none [
  ⟨(some 37), none, .move (.tmp 7), .eff⟩,
  ⟨(some 38), none, .move (.tmp 12), .eff⟩,
  ⟨(some 39), none, .bin .mul (.tmp 37) (.tmp 38), .eff⟩,
  ⟨(some 40), none, .bin .add (.const (.int .i64 1)) (.tmp 39), .eff⟩,
  ⟨(some 41), none, .mm false (.const (.int .i64 65537)) [(.tmp 40)], .eff⟩,
  ⟨(some 12), none, .move (.tmp 41), .eff⟩]))
 (.ops none [
  ⟨(some 35), none, .move (.tmp 13), .eff⟩,
  ⟨(some 36), none, .bin .add (.tmp 35) (.const (.int .i64 1)), .eff⟩,
  ⟨(some 13), none, .move (.tmp 36), .eff⟩]))))))
 (.seq (.ops none [
  ⟨(some 42), none, .move (.tmp 11), .eff⟩,
  ⟨(some 43), none, .eqv false (.one (.int .i64)) (.tmp 42) (.const (.int .i64 0)), .eff⟩,
  ⟨(some 44), none, .move (.tmp 43), .eff⟩,
  ⟨(some 45), (some (44, true)), .move (.tmp 10), .eff⟩,
  ⟨(some 46), (some (44, true)), .move (.tmp 12), .eff⟩,
  ⟨(some 47), (some (44, true)), .bin .add (.const (.int .i64 1)) (.tmp 46), .eff⟩,
  ⟨(some 48), (some (44, true)), .mm false (.const (.int .i64 65537)) [(.tmp 47)], .eff⟩,
  ⟨(some 49), (some (44, true)), .eqv false (.one (.int .i64)) (.tmp 45) (.tmp 48), .eff⟩,
  ⟨(some 50), none, .pick (.tmp 44) (.tmp 49) (.const (.bool false)), .eff⟩,
  ⟨(some 51), none, .move (.tmp 50), .eff⟩,
  ⟨(some 52), (some (51, true)), .call 11 [], .view⟩,
  ⟨(some 53), none, .pick (.tmp 51) (.tmp 52) (.const (.bool false)), .eff⟩,
  ⟨(some 6), none, .move (.tmp 53), .eff⟩])
 .ret))))))⟩
set_option maxRecDepth 100000 in
theorem v9_ok : stripF (ttOf Try.prog) { hp := [], md := [(27, .pure), (28, .view), (52, .view)], ks := [[7, 8, 10, 11, 12, 13]] } Try.f9 = some v9 := by kernel_rfl
theorem n9_ok : (Try.f9.name == "runtime.NumGoroutine") = false := by kernel_rfl
def v10 : VFun := ⟨1, 93, [.tmp 2],
 (.seq (.ops none [
  ⟨(some 1), none, .box false (.tmp 0), .eff⟩,
  ⟨(some 2), none, .move (.const (.bool false)), .eff⟩])
 (.seq (.ops none [
  ⟨(some 7), none, .faddr 0 (.tmp 1), .eff⟩,
  ⟨(some 8), none, .load none (.tmp 7), .eff⟩,
  ⟨(some 9), none, .len .slice (.tmp 8), .eff⟩,
  ⟨(some 10), none, .faddr 2 (.tmp 1), .eff⟩,
  ⟨(some 11), none, .load none (.tmp 10), .eff⟩,
  ⟨(some 12), none, .len .slice (.tmp 11), .eff⟩,
  ⟨(some 13), none, .bin .add (.tmp 9) (.tmp 12), .eff⟩,
  ⟨(some 14), none, .faddr 3 (.tmp 1), .eff⟩,
  ⟨(some 15), none, .load none (.tmp 14), .eff⟩,
  ⟨(some 16), none, .len .slice (.tmp 15), .eff⟩,
  ⟨(some 17), none, .bin .add (.tmp 13) (.tmp 16), .eff⟩,
  ⟨(some 18), none, .faddr 4 (.tmp 1), .eff⟩,
  ⟨(some 19), none, .load none (.tmp 18), .eff⟩,
  ⟨(some 20), none, .len .slice (.tmp 19), .eff⟩,
  ⟨(some 21), none, .bin .add (.tmp 17) (.tmp 20), .eff⟩,
  ⟨(some 22), none, .faddr 5 (.tmp 1), .eff⟩,
  ⟨(some 23), none, .load none (.tmp 22), .eff⟩,
  ⟨(some 24), none, .len .slice (.tmp 23), .eff⟩,
  ⟨(some 25), none, .bin .add (.tmp 21) (.tmp 24), .eff⟩,
  ⟨(some 3), none, .move (.tmp 25), .eff⟩])
 (.seq (.seq (.ops none [
  ⟨(some 26), none, .move (.tmp 3), .eff⟩,
  ⟨(some 27), none, .bin .gtr (.tmp 26) (.const (.int .i64 60)), .eff⟩])
 (.cond (.tmp 27) (.seq (.ops none [
  ⟨(some 2), none, .move (.const (.bool true)), .eff⟩])
 .ret)
 .skip))
 (.seq (.seq (.ops none [
  ⟨(some 4), none, .move (.const (.int .i64 0)), .eff⟩])
 (.block 0 (.loop [1, 3, 4] (.seq (.seq (.ops none [
  ⟨(some 28), none, .move (.tmp 4), .eff⟩,
  ⟨(some 29), none, .faddr 0 (.tmp 1), .eff⟩,
  ⟨(some 30), none, .load none (.tmp 29), .eff⟩,
  ⟨(some 31), none, .len .slice (.tmp 30), .eff⟩,
  ⟨(some 32), none, .bin .lss (.tmp 28) (.tmp 31), .eff⟩,
  ⟨(some 33), none, .move (.tmp 32), .eff⟩,
  ⟨(some 34), (some (33, true)), .move (.tmp 3), .eff⟩,
  ⟨(some 35), (some (33, true)), .bin .lss (.tmp 34) (.const (.int .i64 600)), .eff⟩,
  ⟨(some 36), none, .pick (.tmp 33) (.tmp 35) (.const (.bool false)), .eff⟩])
 (.cond (.tmp 36) .skip
 (.exit 0)))
 (.seq (.block 1 (.ops none [
  ⟨(some 39), none, .move (.tmp 3), .eff⟩,
  ⟨(some 40), none, .faddr 0 (.tmp 1), .eff⟩,
  ⟨(some 41), none, .load none (.tmp 40), .eff⟩,
  ⟨(some 42), none, .move (.tmp 4), .eff⟩,
  ⟨(some 43), none, .iaddr 9 none (.tmp 41) (.tmp 42), .eff⟩,
  ⟨(some 44), none, .faddr 7 (.tmp 43), .eff⟩,
  ⟨(some 45), none, .load none (.tmp 44), .eff⟩,
  ⟨(some 46), none, .len .slice (.tmp 45), .eff⟩,
  ⟨(some 47), none, .mm false (.const (.int .i64 600)) [(.tmp 46)], .eff⟩,
  ⟨(some 48), none, .bin .add (.tmp 39) (.tmp 47), .eff⟩,
  ⟨(some 3), none, .move (.tmp 48), .eff⟩]))
 (.ops none [
  ⟨(some 37), none, .move (.tmp 4), .eff⟩,
  ⟨(some 38), none, .bin .add (.tmp 37) (.const (.int .i64 1)), .eff⟩,
  ⟨(some 4), none, .move (.tmp 38), .eff⟩]))))))
 (.seq (.seq (.ops none [
  ⟨(some 5), none, .move (.const (.int .i64 0)), .eff⟩])
 (.block 2 (.loop [1, 3, 5] (.seq (.seq (.ops none [
  ⟨(some 49), none, .move (.tmp 5), .eff⟩,
  ⟨(some 50), none, .faddr 4 (.tmp 1), .eff⟩,
  ⟨(some 51), none, .load none (.tmp 50), .eff⟩,
  ⟨(some 52), none, .len .slice (.tmp 51), .eff⟩,
  ⟨(some 53), none, .bin .lss (.tmp 49) (.tmp 52), .eff⟩,
  ⟨(some 54), none, .move (.tmp 53), .eff⟩,
  ⟨(some 55), (some (54, true)), .move (.tmp 3), .eff⟩,
  ⟨(some 56), (some (54, true)), .bin .lss (.tmp 55) (.const (.int .i64 600)), .eff⟩,
  ⟨(some 57), none, .pick (.tmp 54) (.tmp 56) (.const (.bool false)), .eff⟩])
 (.cond (.tmp 57) .skip
 (.exit 2)))
 (.seq (.block 3 (.ops none [
  ⟨(some 60), none, .move (.tmp 3), .eff⟩,
  ⟨(some 61), none, .faddr 4 (.tmp 1), .eff⟩,
  ⟨(some 62), none, .load none (.tmp 61), .eff⟩,
  ⟨(some 63), none, .move (.tmp 5), .eff⟩,
  ⟨(some 64), none, .iaddr 2 none (.tmp 62) (.tmp 63), .eff⟩,
  ⟨(some 65), none, .faddr 1 (.tmp 64), .eff⟩,
  ⟨(some 66), none, .load none (.tmp 65), .eff⟩,
  ⟨(some 67), none, .len .slice (.tmp 66), .eff⟩,
  ⟨(some 68), none, .mm false (.const (.int .i64 600)) [(.tmp 67)], .eff⟩,
  ⟨(some 69), none, .bin .add (.tmp 60) (.tmp 68), .eff⟩,
  ⟨(some 3), none, .move (.tmp 69), .eff⟩]))
 (.ops none [
  ⟨(some 58), none, .move (.tmp 5), .eff⟩,
  ⟨(some 59), none, .bin .add (.tmp 58) (.const (.int .i64 1)), .eff⟩,
  ⟨(some 5), none, .move (.tmp 59), .eff⟩]))))))
 (.seq (.seq (.ops none [
  ⟨(some 6), none, .move (.const (.int .i64 0)), .eff⟩])
 (.block 4 (.loop [1, 3, 6] (.seq (.seq (.ops none [
  ⟨(some 70), none, .move (.tmp 6), .eff⟩,
  ⟨(some 71), none, .faddr 5 (.tmp 1), .eff⟩,
  ⟨(some 72), none, .load none (.tmp 71), .eff⟩,
  ⟨(some 73), none, .len .slice (.tmp 72), .eff⟩,
  ⟨(some 74), none, .bin .lss (.tmp 70) (.tmp 73), .eff⟩,
  ⟨(some 75), none, .move (.tmp 74), .eff⟩,
  ⟨(some 76), (some (75, true)), .move (.tmp 3), .eff⟩,
  ⟨(some 77), (some (75, true)), .bin .lss (.tmp 76) (.const (.int .i64 600)), .eff⟩,
  ⟨(some 78), none, .pick (.tmp 75) (.tmp 77) (.const (.bool false)), .eff⟩])
 (.cond (.tmp 78) .skip
 (.exit 4)))
 (.seq (.block 5 (.ops none [
  ⟨(some 81), none, .move (.tmp 3), .eff⟩,
  ⟨(some 82), none, .faddr 5 (.tmp 1), .eff⟩,
  ⟨(some 83), none, .load none (.tmp 82), .eff⟩,
  ⟨(some 84), none, .move (.tmp 6), .eff⟩,
  ⟨(some 85), none, .iaddr 4 none (.tmp 83) (.tmp 84), .eff⟩,
  ⟨(some 86), none, .faddr 3 (.tmp 85), .eff⟩,
  ⟨(some 87), none, .load none (.tmp 86), .eff⟩,
  ⟨(some 88), none, .len .slice (.tmp 87), .eff⟩,
  ⟨(some 89), none, .mm false (.const (.int .i64 600)) [(.tmp 88)], .eff⟩,
  ⟨(some 90), none, .bin .add (.tmp 81) (.tmp 89), .eff⟩,
  ⟨(some 3), none, .move (.tmp 90), .eff⟩]))
 (.ops none [
  ⟨(some 79), none, .move (.tmp 6), .eff⟩,
  ⟨(some 80), none, .bin .add (.tmp 79) (.const (.int .i64 1)), .eff⟩,
  ⟨(some 6), none, .move (.tmp 80), .eff⟩]))))))
 (.seq (.ops none [
  ⟨(some 91), none, .move (.tmp 3), .eff⟩,
  ⟨(some 92), none, .bin .geq (.tmp 91) (.const (.int .i64 600)), .eff⟩,
  ⟨(some 2), none, .move (.tmp 92), .eff⟩])
 .ret)))))))⟩
set_option maxRecDepth 100000 in
theorem v10_ok : stripF (ttOf Try.prog) { hp := [], md := [], ks := [[1, 3, 4], [1, 3, 5], [1, 3, 6]] } Try.f10 = some v10 := by kernel_rfl
theorem n10_ok : (Try.f10.name == "runtime.NumGoroutine") = false := by kernel_rfl
def v11 : VFun := ⟨0, 117, [.tmp 0],
 (.seq (.ops none [
  ⟨(some 0), none, .move (.const (.bool false)), .eff⟩])
 (.seq (.ops none [
  ⟨(some 14), none, .build [(.int .i64 0), (.int .u8 0), .nils, (.int .i64 0), (.int .i64 0)] [(0, 1, (.const (.int .i64 1))), (4, 1, (.const (.int .i64 1)))], .eff⟩,
  ⟨(some 15), none, .bslice [(.int .i64 0), (.int .u8 0), .nils, (.int .i64 0), (.int .i64 0)] 1 5 [(0, (.tmp 14))], .eff⟩,
  ⟨(some 16), none, .bslice [(.int .u8 0)] 2 1 [(0, (.const (.int .u8 20))), (1, (.const (.int .u8 23)))], .eff⟩,
  ⟨(some 17), none, .call 22 [(.tmp 16)], .vfresh⟩,
  ⟨(some 18), none, .build [(.int .i64 0), .nils] [(0, 1, (.const (.int .i64 1))), (1, 1, (.tmp 17))], .eff⟩,
  ⟨(some 19), none, .bslice [(.int .u8 0)] 3 1 [(0, (.const (.int .u8 12))), (1, (.const (.int .u8 13))), (2, (.const (.int .u8 23)))], .eff⟩,
  ⟨(some 20), none, .call 22 [(.tmp 19)], .vfresh⟩,
  ⟨(some 21), none, .build [(.int .i64 0), .nils] [(0, 1, (.const (.int .i64 2))), (1, 1, (.tmp 20))], .eff⟩,
  ⟨(some 22), none, .bslice [(.int .i64 0), .nils] 2 2 [(0, (.tmp 18)), (1, (.tmp 21))], .eff⟩,
  ⟨(some 23), none, .build [(.int .u64 0), (.int .i64 0)] [(1, 1, (.const (.int .i64 1)))], .eff⟩,
  ⟨(some 24), none, .build [(.int .u64 0), (.int .i64 0)] [(1, 1, (.const (.int .i64 1)))], .eff⟩,
  ⟨(some 25), none, .bslice [(.int .u64 0), (.int .i64 0)] 2 2 [(0, (.tmp 23)), (1, (.tmp 24))], .eff⟩,
  ⟨(some 26), none, .build [(.int .i64 0), (.int .u8 0), (.int .i64 0), .nils] [(0, 1, (.const (.int .i64 1))), (1, 1, (.const (.int .u8 1))), (3, 1, (.tmp 25))], .eff⟩,
  ⟨(some 27), none, .build [(.int .u64 0), (.int .i64 0)] [(1, 1, (.const (.int .i64 1)))], .eff⟩,
  ⟨(some 28), none, .build [(.int .u64 0), (.int .i64 0)] [(1, 1, (.const (.int .i64 1)))], .eff⟩,
  ⟨(some 29), none, .bslice [(.int .u64 0), (.int .i64 0)] 2 2 [(0, (.tmp 27)), (1, (.tmp 28))], .eff⟩,
  ⟨(some 30), none, .build [(.int .i64 0), (.int .u8 0), (.int .i64 0), .nils] [(0, 1, (.const (.int .i64 2))), (1, 1, (.const (.int .u8 2))), (3, 1, (.tmp 29))], .eff⟩,
  ⟨(some 31), none, .bslice [(.int .i64 0), (.int .u8 0), (.int .i64 0), .nils] 2 4 [(0, (.tmp 26)), (1, (.tmp 30))], .eff⟩,
  ⟨(some 32), none, .build [.nils, .nils, .nils, .nils, .nils, .nils, .nils, .nils, .nils] [(2, 1, (.tmp 15)), (4, 1, (.tmp 22)), (5, 1, (.tmp 31))], .eff⟩,
  ⟨(some 1), none, .alloc false [.nils, .nils, .nils, .nils, .nils, .nils, .nils, .nils, .nils], .eff⟩,
  ⟨none, none, .store 9 (.tmp 1) (.tmp 32), .eff⟩])
 (.seq (.ops none [
  ⟨(some 34), none, .load (some 9) (.tmp 1), .eff⟩,
  ⟨(some 35), none, .call 18 [(.tmp 34), (.const (.int .i64 1))], .view⟩,
  ⟨(some 33), none, .move (.tmp 35), .eff⟩,
  ⟨(some 36), none, .ext (.tmp 33) 0, .eff⟩,
  ⟨(some 37), none, .ext (.tmp 33) 1, .eff⟩,
  ⟨(some 2), none, .move (.tmp 36), .eff⟩,
  ⟨(some 3), none, .move (.tmp 37), .eff⟩])
 (.seq (.ops none [
  ⟨(some 39), none, .load (some 9) (.tmp 1), .eff⟩,
  ⟨(some 40), none, .call 16 [(.tmp 39), (.const (.int .i64 1))], .view⟩,
  ⟨(some 38), none, .move (.tmp 40), .eff⟩,
  ⟨(some 41), none, .ext (.tmp 38) 0, .eff⟩,
  ⟨(some 42), none, .ext (.tmp 38) 1, .eff⟩,
  ⟨(some 4), none, .move (.tmp 41), .eff⟩,
  ⟨(some 5), none, .move (.tmp 42), .eff⟩])
 (.seq (.ops none [
  ⟨(some 44), none, .load (some 9) (.tmp 1), .eff⟩,
  ⟨(some 45), none, .call 18 [(.tmp 44), (.const (.int .i64 2))], .view⟩,
  ⟨(some 43), none, .move (.tmp 45), .eff⟩,
  ⟨(some 46), none, .ext (.tmp 43) 0, .eff⟩,
  ⟨(some 47), none, .ext (.tmp 43) 1, .eff⟩,
  ⟨(some 6), none, .move (.tmp 46), .eff⟩,
  ⟨(some 7), none, .move (.tmp 47), .eff⟩])
 (.seq (.ops none [
  ⟨(some 49), none, .load (some 9) (.tmp 1), .eff⟩,
  ⟨(some 50), none, .call 20 [(.tmp 49), (.const (.int .i64 1))], .view⟩,
  ⟨(some 48), none, .move (.tmp 50), .eff⟩,
  ⟨(some 51), none, .ext (.tmp 48) 0, .eff⟩,
  ⟨(some 52), none, .ext (.tmp 48) 1, .eff⟩,
  ⟨(some 8), none, .move (.tmp 51), .eff⟩,
  ⟨(some 9), none, .move (.tmp 52), .eff⟩])
 (.seq (.ops none [
  ⟨(some 54), none, .load (some 9) (.tmp 1), .eff⟩,
  ⟨(some 55), none, .call 20 [(.tmp 54), (.const (.int .i64 2))], .view⟩,
  ⟨(some 53), none, .move (.tmp 55), .eff⟩,
  ⟨(some 56), none, .ext (.tmp 53) 0, .eff⟩,
  ⟨(some 57), none, .ext (.tmp 53) 1, .eff⟩,
  ⟨(some 10), none, .move (.tmp 56), .eff⟩,
  ⟨(some 11), none, .move (.tmp 57), .eff⟩])
 (.seq (.seq (.ops none [
  ⟨(some 58), none, .move (.tmp 2), .eff⟩,
  ⟨(some 59), none, .move (.tmp 3), .eff⟩,
  ⟨(some 60), none, .call 23 [(.tmp 58), (.tmp 59), (.const (.int .i64 2))], .view⟩,
  ⟨(some 61), none, .un .not (.tmp 60), .eff⟩,
  ⟨(some 62), none, .move (.tmp 61), .eff⟩,
  ⟨(some 63), (some (62, false)), .move (.tmp 4), .eff⟩,
  ⟨(some 64), (some (62, false)), .move (.tmp 5), .eff⟩,
  ⟨(some 65), (some (62, false)), .call 23 [(.tmp 63), (.tmp 64), (.const (.int .i64 3))], .view⟩,
  ⟨(some 66), (some (62, false)), .un .not (.tmp 65), .eff⟩,
  ⟨(some 67), none, .pick (.tmp 62) (.const (.bool true)) (.tmp 66), .eff⟩,
  ⟨(some 68), none, .move (.tmp 67), .eff⟩,
  ⟨(some 69), (some (68, false)), .move (.tmp 6), .eff⟩,
  ⟨(some 70), (some (68, false)), .move (.tmp 7), .eff⟩,
  ⟨(some 71), (some (68, false)), .call 23 [(.tmp 69), (.tmp 70), (.const (.int .i64 5))], .view⟩,
  ⟨(some 72), (some (68, false)), .un .not (.tmp 71), .eff⟩,
  ⟨(some 73), none, .pick (.tmp 68) (.const (.bool true)) (.tmp 72), .eff⟩,
  ⟨(some 74), none, .move (.tmp 73), .eff⟩,
  ⟨(some 75), (some (74, false)), .move (.tmp 8), .eff⟩,
  ⟨(some 76), (some (74, false)), .move (.tmp 9), .eff⟩,
  ⟨(some 77), (some (74, false)), .call 23 [(.tmp 75), (.tmp 76), (.const (.int .i64 4))], .view⟩,
  ⟨(some 78), (some (74, false)), .un .not (.tmp 77), .eff⟩,
  ⟨(some 79), none, .pick (.tmp 74) (.const (.bool true)) (.tmp 78), .eff⟩,
  ⟨(some 80), none, .move (.tmp 79), .eff⟩,
  ⟨(some 81), (some (80, false)), .move (.tmp 10), .eff⟩,
  ⟨(some 82), (some (80, false)), .move (.tmp 11), .eff⟩,
  ⟨(some 83), (some (80, false)), .call 23 [(.tmp 81), (.tmp 82), (.const (.int .i64 2))], .view⟩,
  ⟨(some 84), (some (80, false)), .un .not (.tmp 83), .eff⟩,
  ⟨(some 85), none, .pick (.tmp 80) (.const (.bool true)) (.tmp 84), .eff⟩,
  ⟨(some 86), none, .move (.tmp 85), .eff⟩,
  ⟨(some 87), (some (86, false)), .load (some 9) (.tmp 1), .eff⟩,
  ⟨(some 88), (some (86, false)), .call 14 [(.tmp 87)], .view⟩,
  ⟨(some 89), none, .pick (.tmp 86) (.const (.bool true)) (.tmp 88), .eff⟩])
 (.cond (.tmp 89) (.seq (.ops none [
  ⟨(some 0), none, .move (.const (.bool false)), .eff⟩])
 .ret)
 .skip))
 (.seq (.ops (some [(1, 2), (1, 3), (1, 5)]) [
  ⟨(some 90), none, .faddr 4 (.tmp 1), .eff⟩,
  ⟨(some 91), none, .load none (.tmp 90), .eff⟩,
  ⟨(some 92), none, .bslice [(.int .u8 0)] 1 1 [(0, (.const (.int .u8 13)))], .eff⟩,
  ⟨(some 93), none, .call 22 [(.tmp 92)], .vfresh⟩,
  ⟨(some 94), none, .build [(.int .i64 0), .nils] [(0, 1, (.const (.int .i64 3))), (1, 1, (.tmp 93))], .eff⟩,
  ⟨(some 95), none, .bslice [(.int .i64 0), .nils] 1 2 [(0, (.tmp 94))], .eff⟩,
  ⟨(some 96), none, .append 2 32 (.tmp 91) (.tmp 95), .eff⟩,
  ⟨(some 97), none, .faddr 4 (.tmp 1), .eff⟩,
  ⟨none, none, .store 1 (.tmp 97) (.tmp 96), .eff⟩])
 (.seq (.ops none [
  ⟨(some 98), none, .faddr 2 (.tmp 1), .eff⟩,
  ⟨(some 99), none, .load none (.tmp 98), .eff⟩,
  ⟨(some 100), none, .iaddr 5 none (.tmp 99) (.const (.int .i64 0)), .eff⟩,
  ⟨(some 101), none, .faddr 4 (.tmp 100), .eff⟩,
  ⟨none, none, .store 1 (.tmp 101) (.const (.int .i64 3)), .eff⟩])
 (.seq (.ops none [
  ⟨(some 103), none, .load (some 9) (.tmp 1), .eff⟩,
  ⟨(some 104), none, .call 12 [(.tmp 103)], .view⟩,
  ⟨(some 102), none, .move (.tmp 104), .eff⟩,
  ⟨(some 105), none, .ext (.tmp 102) 0, .eff⟩,
  ⟨(some 106), none, .ext (.tmp 102) 1, .eff⟩,
  ⟨(some 12), none, .move (.tmp 105), .eff⟩,
  ⟨(some 13), none, .move (.tmp 106), .eff⟩])
 (.seq (.ops none [
  ⟨(some 107), none, .load (some 9) (.tmp 1), .eff⟩,
  ⟨(some 108), none, .call 14 [(.tmp 107)], .view⟩,
  ⟨(some 109), none, .move (.tmp 108), .eff⟩,
  ⟨(some 110), (some (109, true)), .move (.tmp 12), .eff⟩,
  ⟨(some 111), (some (109, true)), .eqv false (.one (.int .i64)) (.tmp 110) (.const (.int .i64 0)), .eff⟩,
  ⟨(some 112), none, .pick (.tmp 109) (.tmp 111) (.const (.bool false)), .eff⟩,
  ⟨(some 113), none, .move (.tmp 112), .eff⟩,
  ⟨(some 114), (some (113, true)), .move (.tmp 13), .eff⟩,
  ⟨(some 115), (some (113, true)), .eqv false (.one (.int .i64)) (.tmp 114) (.const (.int .i64 10)), .eff⟩,
  ⟨(some 116), none, .pick (.tmp 113) (.tmp 115) (.const (.bool false)), .eff⟩,
  ⟨(some 0), none, .move (.tmp 116), .eff⟩])
 .ret))))))))))))⟩
set_option maxRecDepth 100000 in
theorem v11_ok : stripF (ttOf Try.prog) { hp := [], md := [(17, .vfresh), (20, .vfresh), (35, .view), (40, .view), (45, .view), (50, .view), (55, .view), (60, .view), (65, .view), (71, .view), (77, .view), (83, .view), (88, .view), (93, .vfresh), (104, .view), (108, .view)], ks := [] } Try.f11 = some v11 := by kernel_rfl
theorem n11_ok : (Try.f11.name == "runtime.NumGoroutine") = false := by kernel_rfl
def v12 : VFun := ⟨1, 20, [.tmp 2, .tmp 3],
 (.seq (.ops none [
  ⟨(some 1), none, .box false (.tmp 0), .eff⟩,
  ⟨(some 2), none, .move (.const (.int .i64 0)), .eff⟩,
  ⟨(some 3), none, .move (.const (.int .i64 0)), .eff⟩])
 (.seq (.ops none [
  ⟨(some 7), none, .load (some 9) (.tmp 1), .eff⟩,
  ⟨(some 8), none, .call 16 [(.tmp 7), (.const (.int .i64 1))], .view⟩,
  ⟨(some 6), none, .move (.tmp 8), .eff⟩,
  ⟨(some 9), none, .ext (.tmp 6) 0, .eff⟩,
  ⟨(some 10), none, .ext (.tmp 6) 1, .eff⟩,
  ⟨(some 4), none, .move (.tmp 9), .eff⟩,
  ⟨(some 5), none, .move (.tmp 10), .eff⟩])
 (.seq (.seq (.ops none [
  ⟨(some 11), none, .move (.tmp 5), .eff⟩,
  ⟨(some 12), none, .eqv true (.one (.int .i64)) (.tmp 11) (.const (.int .i64 0)), .eff⟩])
 (.cond (.tmp 12) (.seq (.ops none [
  ⟨(some 13), none, .move (.tmp 5), .eff⟩,
  ⟨(some 2), none, .move (.const (.int .i64 0)), .eff⟩,
  ⟨(some 3), none, .move (.tmp 13), .eff⟩])
 .ret)
 .skip))
 (.seq (.ops none [
  ⟨(some 14), none, .move (.tmp 4), .eff⟩,
  ⟨(some 15), none, .faddr 0 (.tmp 1), .eff⟩,
  ⟨(some 16), none, .load none (.tmp 15), .eff⟩,
  ⟨(some 17), none, .call 27 [(.tmp 16)], .view⟩,
  ⟨(some 18), none, .bin .add (.tmp 14) (.tmp 17), .eff⟩,
  ⟨(some 19), none, .mm false (.const (.int .i64 65537)) [(.tmp 18)], .eff⟩,
  ⟨(some 2), none, .move (.tmp 19), .eff⟩,
  ⟨(some 3), none, .move (.const (.int .i64 0)), .eff⟩])
 .ret))))⟩
set_option maxRecDepth 100000 in
theorem v12_ok : stripF (ttOf Try.prog) { hp := [], md := [(8, .view), (17, .view)], ks := [] } Try.f12 = some v12 := by kernel_rfl
theorem n12_ok : (Try.f12.name == "runtime.NumGoroutine") = false := by kernel_rfl
def v13 : VFun := ⟨1, 20, [.tmp 2, .tmp 3],
 (.seq (.ops none [
  ⟨(some 1), none, .box false (.tmp 0), .eff⟩,
  ⟨(some 2), none, .move (.const (.int .i64 0)), .eff⟩,
  ⟨(some 3), none, .move (.const (.int .i64 0)), .eff⟩])
 (.seq (.ops none [
  ⟨(some 7), none, .load (some 9) (.tmp 1), .eff⟩,
  ⟨(some 8), none, .call 17 [(.tmp 7), (.const (.int .i64 1))], .view⟩,
  ⟨(some 6), none, .move (.tmp 8), .eff⟩,
  ⟨(some 9), none, .ext (.tmp 6) 0, .eff⟩,
  ⟨(some 10), none, .ext (.tmp 6) 1, .eff⟩,
  ⟨(some 4), none, .move (.tmp 9), .eff⟩,
  ⟨(some 5), none, .move (.tmp 10), .eff⟩])
 (.seq (.seq (.ops none [
  ⟨(some 11), none, .move (.tmp 5), .eff⟩,
  ⟨(some 12), none, .eqv true (.one (.int .i64)) (.tmp 11) (.const (.int .i64 0)), .eff⟩])
 (.cond (.tmp 12) (.seq (.ops none [
  ⟨(some 13), none, .move (.tmp 5), .eff⟩,
  ⟨(some 2), none, .move (.const (.int .i64 0)), .eff⟩,
  ⟨(some 3), none, .move (.tmp 13), .eff⟩])
 .ret)
 .skip))
 (.seq (.ops none [
  ⟨(some 14), none, .move (.tmp 4), .eff⟩,
  ⟨(some 15), none, .faddr 0 (.tmp 1), .eff⟩,
  ⟨(some 16), none, .load none (.tmp 15), .eff⟩,
  ⟨(some 17), none, .call 29 [(.tmp 16)], .view⟩,
  ⟨(some 18), none, .bin .add (.tmp 14) (.tmp 17), .eff⟩,
  ⟨(some 19), none, .call 28 [(.tmp 18)], .view⟩,
  ⟨(some 2), none, .move (.tmp 19), .eff⟩,
  ⟨(some 3), none, .move (.const (.int .i64 0)), .eff⟩])
 .ret))))⟩
set_option maxRecDepth 100000 in
theorem v13_ok : stripF (ttOf Try.prog) { hp := [], md := [(8, .view), (17, .view), (19, .view)], ks := [] } Try.f13 = some v13 := by kernel_rfl
theorem n13_ok : (Try.f13.name == "runtime.NumGoroutine") = false := by kernel_rfl
def v14 : VFun := ⟨1, 6, [.tmp 2],
 (.seq (.ops none [
  ⟨(some 1), none, .box false (.tmp 0), .eff⟩,
  ⟨(some 2), none, .move (.const (.bool false)), .eff⟩])
 (.seq (.ops none [
  ⟨(some 3), none, .load (some 9) (.tmp 1), .eff⟩,
  ⟨(some 4), none, .call 30 [(.tmp 3)], .pure⟩,
  ⟨(some 5), none, .call 31 [(.tmp 4)], .view⟩,
  ⟨(some 2), none, .move (.tmp 5), .eff⟩])
 .ret))⟩
set_option maxRecDepth 100000 in
theorem v14_ok : stripF (ttOf Try.prog) { hp := [], md := [(4, .pure), (5, .view)], ks := [] } Try.f14 = some v14 := by kernel_rfl
theorem n14_ok : (Try.f14.name == "runtime.NumGoroutine") = false := by kernel_rfl
def v15 : VFun := ⟨1, 52, [.tmp 2],
 (.seq (.ops none [
  ⟨(some 1), none, .box false (.tmp 0), .eff⟩,
  ⟨(some 2), none, .move (.const (.bool false)), .eff⟩])
 (.seq (.ops none [
  ⟨(some 8), none, .load (some 9) (.tmp 1), .eff⟩,
  ⟨(some 9), none, .call 32 [(.tmp 8)], .pure⟩,
  ⟨(some 3), none, .move (.tmp 9), .eff⟩])
 (.block 0 (.loop [1, 3] (.block 1 (.seq (.ops none [
  ⟨(some 4), none, .move (.const (.slice none 0 0)), .eff⟩])
 (.seq (.seq (.ops none [
  ⟨(some 5), none, .move (.const (.int .i64 0)), .eff⟩])
 (.block 2 (.loop [1, 3, 4, 5] (.seq (.seq (.ops none [
  ⟨(some 10), none, .move (.tmp 5), .eff⟩,
  ⟨(some 11), none, .move (.tmp 3), .eff⟩,
  ⟨(some 12), none, .len .slice (.tmp 11), .eff⟩,
  ⟨(some 13), none, .bin .lss (.tmp 10) (.tmp 12), .eff⟩])
 (.cond (.tmp 13) .skip
 (.exit 2)))
 (.seq (.block 3 (.seq (.ops none [
  ⟨(some 6), none, .move (.const (.bool false)), .eff⟩])
 (.seq (.seq (.ops none [
  ⟨(some 7), none, .move (.const (.int .i64 0)), .eff⟩])
 (.block 4 (.loop [1, 3, 4, 5, 6, 7] (.seq (.seq (.ops none [
  ⟨(some 16), none, .move (.tmp 7), .eff⟩,
  ⟨(some 17), none, .move (.tmp 3), .eff⟩,
  ⟨(some 18), none, .len .slice (.tmp 17), .eff⟩,
  ⟨(some 19), none, .bin .lss (.tmp 16) (.tmp 18), .eff⟩])
 (.cond (.tmp 19) .skip
 (.exit 4)))
 (.seq (.block 5 (.ops (some []) [
  ⟨(some 22), none, .move (.tmp 6), .eff⟩,
  ⟨(some 23), none, .move (.tmp 22), .eff⟩,
  ⟨(some 24), (some (23, false)), .load (some 9) (.tmp 1), .eff⟩,
  ⟨(some 25), (some (23, false)), .move (.tmp 3), .eff⟩,
  ⟨(some 26), (some (23, false)), .move (.tmp 5), .eff⟩,
  ⟨(some 27), (some (23, false)), .iaddr 3 none (.tmp 25) (.tmp 26), .eff⟩,
  ⟨(some 28), (some (23, false)), .load (some 3) (.tmp 27), .eff⟩,
  ⟨(some 29), (some (23, false)), .move (.tmp 3), .eff⟩,
  ⟨(some 30), (some (23, false)), .move (.tmp 7), .eff⟩,
  ⟨(some 31), (some (23, false)), .iaddr 3 none (.tmp 29) (.tmp 30), .eff⟩,
  ⟨(some 32), (some (23, false)), .load (some 3) (.tmp 31), .eff⟩,
  ⟨(some 33), (some (23, false)), .call 33 [(.tmp 24), (.tmp 28), (.tmp 32)], .view⟩,
  ⟨(some 34), none, .pick (.tmp 23) (.const (.bool true)) (.tmp 33), .eff⟩,
  ⟨(some 6), none, .move (.tmp 34), .eff⟩]))
 (.ops none [
  ⟨(some 20), none, .move (.tmp 7), .eff⟩,
  ⟨(some 21), none, .bin .add (.tmp 20) (.const (.int .i64 1)), .eff⟩,
  ⟨(some 7), none, .move (.tmp 21), .eff⟩]))))))
 (.seq (.ops none [
  ⟨(some 35), none, .move (.tmp 6), .eff⟩])
 (.cond (.tmp 35) (.ops none [
  ⟨(some 36), none, .move (.tmp 4), .eff⟩,
  ⟨(some 37), none, .move (.tmp 3), .eff⟩,
  ⟨(some 38), none, .move (.tmp 5), .eff⟩,
  ⟨(some 39), none, .iaddr 3 none (.tmp 37) (.tmp 38), .eff⟩,
  ⟨(some 40), none, .load (some 3) (.tmp 39), .eff⟩,
  ⟨(some 41), none, .bslice [(.int .i64 0), (.int .i64 0), (.int .i64 0)] 1 3 [(0, (.tmp 40))], .eff⟩,
  ⟨(some 42), none, .append 3 24 (.tmp 36) (.tmp 41), .eff⟩,
  ⟨(some 4), none, .move (.tmp 42), .eff⟩])
 .skip)))))
 (.ops none [
  ⟨(some 14), none, .move (.tmp 5), .eff⟩,
  ⟨(some 15), none, .bin .add (.tmp 14) (.const (.int .i64 1)), .eff⟩,
  ⟨(some 5), none, .move (.tmp 15), .eff⟩]))))))
 (.seq (.seq (.ops none [
  ⟨(some 43), none, .move (.tmp 4), .eff⟩,
  ⟨(some 44), none, .len .slice (.tmp 43), .eff⟩,
  ⟨(some 45), none, .move (.tmp 3), .eff⟩,
  ⟨(some 46), none, .len .slice (.tmp 45), .eff⟩,
  ⟨(some 47), none, .eqv false (.one (.int .i64)) (.tmp 44) (.tmp 46), .eff⟩])
 (.cond (.tmp 47) (.seq (.ops none [
  ⟨(some 48), none, .move (.tmp 3), .eff⟩,
  ⟨(some 49), none, .len .slice (.tmp 48), .eff⟩,
  ⟨(some 50), none, .bin .gtr (.tmp 49) (.const (.int .i64 0)), .eff⟩,
  ⟨(some 2), none, .move (.tmp 50), .eff⟩])
 .ret)
 .skip))
 (.ops none [
  ⟨(some 51), none, .move (.tmp 4), .eff⟩,
  ⟨(some 3), none, .move (.tmp 51), .eff⟩])))))))))⟩
set_option maxRecDepth 100000 in
theorem v15_ok : stripF (ttOf Try.prog) { hp := [], md := [(9, .pure), (33, .view)], ks := [[1, 3], [1, 3, 4, 5], [1, 3, 4, 5, 6, 7]] } Try.f15 = some v15 := by kernel_rfl
theorem n15_ok : (Try.f15.name == "runtime.NumGoroutine") = false := by kernel_rfl
def v16 : VFun := ⟨2, 12, [.tmp 4, .tmp 5],
 (.seq (.ops none [
  ⟨(some 2), none, .box false (.tmp 0), .eff⟩,
  ⟨(some 4), none, .move (.const (.int .i64 0)), .eff⟩,
  ⟨(some 5), none, .move (.const (.int .i64 0)), .eff⟩])
 (.seq (.ops none [
  ⟨(some 6), none, .load (some 9) (.tmp 2), .eff⟩,
  ⟨(some 7), none, .move (.tmp 1), .eff⟩,
  ⟨(some 8), none, .build [(.int .i64 0), (.int .i64 0)] [(0, 1, (.const (.int .i64 0))), (1, 1, (.tmp 7))], .eff⟩,
  ⟨(some 9), none, .call 34 [(.tmp 6), (.tmp 8)], .view⟩,
  ⟨(some 10), none, .ext (.tmp 9) 0, .eff⟩,
  ⟨(some 11), none, .ext (.tmp 9) 1, .eff⟩,
  ⟨(some 4), none, .move (.tmp 10), .eff⟩,
  ⟨(some 5), none, .move (.tmp 11), .eff⟩])
 .ret))⟩
set_option maxRecDepth 100000 in
theorem v16_ok : stripF (ttOf Try.prog) { hp := [], md := [(9, .view)], ks := [] } Try.f16 = some v16 := by kernel_rfl
theorem n16_ok : (Try.f16.name == "runtime.NumGoroutine") = false := by kernel_rfl
def v17 : VFun := ⟨2, 11, [.tmp 4, .tmp 5],
 (.seq (.ops none [
  ⟨(some 2), none, .box false (.tmp 0), .eff⟩,
  ⟨(some 4), none, .move (.const (.int .i64 0)), .eff⟩,
  ⟨(some 5), none, .move (.const (.int .i64 0)), .eff⟩])
 (.seq (.ops none [
  ⟨(some 6), none, .load (some 9) (.tmp 2), .eff⟩,
  ⟨(some 7), none, .move (.tmp 1), .eff⟩,
  ⟨(some 8), none, .call 35 [(.tmp 6), (.const (.int .i64 1)), (.tmp 7)], .view⟩,
  ⟨(some 9), none, .ext (.tmp 8) 0, .eff⟩,
  ⟨(some 10), none, .ext (.tmp 8) 1, .eff⟩,
  ⟨(some 4), none, .move (.tmp 9), .eff⟩,
  ⟨(some 5), none, .move (.tmp 10), .eff⟩])
 .ret))⟩
set_option maxRecDepth 100000 in
theorem v17_ok : stripF (ttOf Try.prog) { hp := [], md := [(8, .view)], ks := [] } Try.f17 = some v17 := by kernel_rfl
theorem n17_ok : (Try.f17.name == "runtime.NumGoroutine") = false := by kernel_rfl
def v18 : VFun := ⟨2, 12, [.tmp 4, .tmp 5],
 (.seq (.ops none [
  ⟨(some 2), none, .box false (.tmp 0), .eff⟩,
  ⟨(some 4), none, .move (.const (.int .i64 0)), .eff⟩,
  ⟨(some 5), none, .move (.const (.int .i64 0)), .eff⟩])
 (.seq (.ops none [
  ⟨(some 6), none, .load (some 9) (.tmp 2), .eff⟩,
  ⟨(some 7), none, .move (.tmp 1), .eff⟩,
  ⟨(some 8), none, .build [(.int .i64 0), (.int .i64 0)] [(0, 1, (.const (.int .i64 1))), (1, 1, (.tmp 7))], .eff⟩,
  ⟨(some 9), none, .call 34 [(.tmp 6), (.tmp 8)], .view⟩,
  ⟨(some 10), none, .ext (.tmp 9) 0, .eff⟩,
  ⟨(some 11), none, .ext (.tmp 9) 1, .eff⟩,
  ⟨(some 4), none, .move (.tmp 10), .eff⟩,
  ⟨(some 5), none, .move (.tmp 11), .eff⟩])
 .ret))⟩
set_option maxRecDepth 100000 in
theorem v18_ok : stripF (ttOf Try.prog) { hp := [], md := [(9, .view)], ks := [] } Try.f18 = some v18 := by kernel_rfl
theorem n18_ok : (Try.f18.name == "runtime.NumGoroutine") = false := by kernel_rfl
def v19 : VFun := ⟨2, 11, [.tmp 4, .tmp 5],
 (.seq (.ops none [
  ⟨(some 2), none, .box false (.tmp 0), .eff⟩,
  ⟨(some 4), none, .move (.const (.int .i64 0)), .eff⟩,
  ⟨(some 5), none, .move (.const (.int .i64 0)), .eff⟩])
 (.seq (.ops none [
  ⟨(some 6), none, .load (some 9) (.tmp 2), .eff⟩,
  ⟨(some 7), none, .move (.tmp 1), .eff⟩,
  ⟨(some 8), none, .call 35 [(.tmp 6), (.const (.int .i64 2)), (.tmp 7)], .view⟩,
  ⟨(some 9), none, .ext (.tmp 8) 0, .eff⟩,
  ⟨(some 10), none, .ext (.tmp 8) 1, .eff⟩,
  ⟨(some 4), none, .move (.tmp 9), .eff⟩,
  ⟨(some 5), none, .move (.tmp 10), .eff⟩])
 .ret))⟩
set_option maxRecDepth 100000 in
theorem v19_ok : stripF (ttOf Try.prog) { hp := [], md := [(8, .view)], ks := [] } Try.f19 = some v19 := by kernel_rfl
theorem n19_ok : (Try.f19.name == "runtime.NumGoroutine") = false := by kernel_rfl
def v20 : VFun := ⟨2, 12, [.tmp 4, .tmp 5],
 (.seq (.ops none [
  ⟨(some 2), none, .box false (.tmp 0), .eff⟩,
  ⟨(some 4), none, .move (.const (.int .i64 0)), .eff⟩,
  ⟨(some 5), none, .move (.const (.int .i64 0)), .eff⟩])
 (.seq (.ops none [
  ⟨(some 6), none, .load (some 9) (.tmp 2), .eff⟩,
  ⟨(some 7), none, .move (.tmp 1), .eff⟩,
  ⟨(some 8), none, .build [(.int .i64 0), (.int .i64 0)] [(0, 1, (.const (.int .i64 2))), (1, 1, (.tmp 7))], .eff⟩,
  ⟨(some 9), none, .call 34 [(.tmp 6), (.tmp 8)], .view⟩,
  ⟨(some 10), none, .ext (.tmp 9) 0, .eff⟩,
  ⟨(some 11), none, .ext (.tmp 9) 1, .eff⟩,
  ⟨(some 4), none, .move (.tmp 10), .eff⟩,
  ⟨(some 5), none, .move (.tmp 11), .eff⟩])
 .ret))⟩
set_option maxRecDepth 100000 in
theorem v20_ok : stripF (ttOf Try.prog) { hp := [], md := [(9, .view)], ks := [] } Try.f20 = some v20 := by kernel_rfl
theorem n20_ok : (Try.f20.name == "runtime.NumGoroutine") = false := by kernel_rfl
def v21 : VFun := ⟨2, 11, [.tmp 4, .tmp 5],
 (.seq (.ops none [
  ⟨(some 2), none, .box false (.tmp 0), .eff⟩,
  ⟨(some 4), none, .move (.const (.int .i64 0)), .eff⟩,
  ⟨(some 5), none, .move (.const (.int .i64 0)), .eff⟩])
 (.seq (.ops none [
  ⟨(some 6), none, .load (some 9) (.tmp 2), .eff⟩,
  ⟨(some 7), none, .move (.tmp 1), .eff⟩,
  ⟨(some 8), none, .call 35 [(.tmp 6), (.const (.int .i64 3)), (.tmp 7)], .view⟩,
  ⟨(some 9), none, .ext (.tmp 8) 0, .eff⟩,
  ⟨(some 10), none, .ext (.tmp 8) 1, .eff⟩,
  ⟨(some 4), none, .move (.tmp 9), .eff⟩,
  ⟨(some 5), none, .move (.tmp 10), .eff⟩])
 .ret))⟩
set_option maxRecDepth 100000 in
theorem v21_ok : stripF (ttOf Try.prog) { hp := [], md := [(8, .view)], ks := [] } Try.f21 = some v21 := by kernel_rfl
theorem n21_ok : (Try.f21.name == "runtime.NumGoroutine") = false := by kernel_rfl
def v22 : VFun := ⟨1, 42, [.tmp 2],
 (.seq (.ops none [
  ⟨(some 2), none, .move (.const (.slice none 0 0)), .eff⟩])
 (.seq (.ops none [
  ⟨(some 3), none, .move (.const (.slice none 0 0)), .eff⟩])
 (.seq (.seq (.ops none [
  ⟨(some 4), none, .move (.const (.int .i64 0)), .eff⟩])
 (.block 0 (.loop [0, 3, 4] (.seq (.seq (.ops none [
  ⟨(some 6), none, .move (.tmp 4), .eff⟩,
  ⟨(some 7), none, .move (.tmp 0), .eff⟩,
  ⟨(some 8), none, .len .slice (.tmp 7), .eff⟩,
  ⟨(some 9), none, .bin .lss (.tmp 6) (.tmp 8), .eff⟩])
 (.cond (.tmp 9) .skip
 (.exit 0)))
 (.seq (.block 1 (.seq (.ops none [
  ⟨(some 12), none, .move (.tmp 0), .eff⟩,
  ⟨(some 13), none, .move (.tmp 4), .eff⟩,
  ⟨(some 14), none, .iaddr 1 none (.tmp 12) (.tmp 13), .eff⟩,
  ⟨(some 15), none, .load none (.tmp 14), .eff⟩,
  ⟨(some 16), none, .build [(.int .u8 0), (.int .i64 0), (.int .u8 0), (.int .u64 0), (.int .u8 0), (.int .u64 0), (.int .i64 0)] [(0, 1, (.tmp 15))], .eff⟩,
  ⟨(some 5), none, .alloc false [(.int .u8 0), (.int .i64 0), (.int .u8 0), (.int .u64 0), (.int .u8 0), (.int .u64 0), (.int .i64 0)], .eff⟩,
  ⟨none, none, .store 7 (.tmp 5) (.tmp 16), .eff⟩])
 (.seq (.seq (.ops none [
  ⟨(some 17), none, .move (.tmp 0), .eff⟩,
  ⟨(some 18), none, .move (.tmp 4), .eff⟩,
  ⟨(some 19), none, .iaddr 1 none (.tmp 17) (.tmp 18), .eff⟩,
  ⟨(some 20), none, .load none (.tmp 19), .eff⟩,
  ⟨(some 21), none, .eqv false (.one (.int .u8)) (.tmp 20) (.const (.int .u8 12)), .eff⟩,
  ⟨(some 22), none, .move (.tmp 21), .eff⟩,
  ⟨(some 23), (some (22, false)), .move (.tmp 0), .eff⟩,
  ⟨(some 24), (some (22, false)), .move (.tmp 4), .eff⟩,
  ⟨(some 25), (some (22, false)), .iaddr 1 none (.tmp 23) (.tmp 24), .eff⟩,
  ⟨(some 26), (some (22, false)), .load none (.tmp 25), .eff⟩,
  ⟨(some 27), (some (22, false)), .eqv false (.one (.int .u8)) (.tmp 26) (.const (.int .u8 13)), .eff⟩,
  ⟨(some 28), none, .pick (.tmp 22) (.const (.bool true)) (.tmp 27), .eff⟩,
  ⟨(some 29), none, .move (.tmp 28), .eff⟩,
  ⟨(some 30), (some (29, false)), .move (.tmp 0), .eff⟩,
  ⟨(some 31), (some (29, false)), .move (.tmp 4), .eff⟩,
  ⟨(some 32), (some (29, false)), .iaddr 1 none (.tmp 30) (.tmp 31), .eff⟩,
  ⟨(some 33), (some (29, false)), .load none (.tmp 32), .eff⟩,
  ⟨(some 34), (some (29, false)), .eqv false (.one (.int .u8)) (.tmp 33) (.const (.int .u8 14)), .eff⟩,
  ⟨(some 35), none, .pick (.tmp 29) (.const (.bool true)) (.tmp 34), .eff⟩])
 (.cond (.tmp 35) (.ops none [
  ⟨(some 36), none, .faddr 6 (.tmp 5), .eff⟩,
  ⟨none, none, .store 1 (.tmp 36) (.const (.int .i64 1)), .eff⟩])
 .skip))
 (.ops none [
  ⟨(some 37), none, .move (.tmp 3), .eff⟩,
  ⟨(some 38), none, .load (some 7) (.tmp 5), .eff⟩,
  ⟨(some 39), none, .bslice [(.int .u8 0), (.int .i64 0), (.int .u8 0), (.int .u64 0), (.int .u8 0), (.int .u64 0), (.int .i64 0)] 1 7 [(0, (.tmp 38))], .eff⟩,
  ⟨(some 40), none, .append 7 56 (.tmp 37) (.tmp 39), .eff⟩,
  ⟨(some 3), none, .move (.tmp 40), .eff⟩]))))
 (.ops none [
  ⟨(some 10), none, .move (.tmp 4), .eff⟩,
  ⟨(some 11), none, .bin .add (.tmp 10) (.const (.int .i64 1)), .eff⟩,
  ⟨(some 4), none, .move (.tmp 11), .eff⟩]))))))
 (.seq (.ops none [
  ⟨(some 41), none, .move (.tmp 3), .eff⟩,
  ⟨(some 2), none, .move (.tmp 41), .eff⟩])
 .ret))))⟩
set_option maxRecDepth 100000 in
theorem v22_ok : stripF (ttOf Try.prog) { hp := [], md := [], ks := [[0, 3, 4]] } Try.f22 = some v22 := by kernel_rfl
theorem n22_ok : (Try.f22.name == "runtime.NumGoroutine") = false := by kernel_rfl
def v23 : VFun := ⟨3, 14, [.tmp 6],
 (.seq (.ops none [
  ⟨(some 6), none, .move (.const (.bool false)), .eff⟩])
 (.seq (.ops none [
  ⟨(some 7), none, .move (.tmp 1), .eff⟩,
  ⟨(some 8), none, .eqv false (.one (.int .i64)) (.tmp 7) (.const (.int .i64 0)), .eff⟩,
  ⟨(some 9), none, .move (.tmp 8), .eff⟩,
  ⟨(some 10), (some (9, true)), .move (.tmp 0), .eff⟩,
  ⟨(some 11), (some (9, true)), .move (.tmp 2), .eff⟩,
  ⟨(some 12), (some (9, true)), .eqv false (.one (.int .i64)) (.tmp 10) (.tmp 11), .eff⟩,
  ⟨(some 13), none, .pick (.tmp 9) (.tmp 12) (.const (.bool false)), .eff⟩,
  ⟨(some 6), none, .move (.tmp 13), .eff⟩])
 .ret))⟩
set_option maxRecDepth 100000 in
theorem v23_ok : stripF (ttOf Try.prog) { hp := [], md := [], ks := [] } Try.f23 = some v23 := by kernel_rfl
theorem n23_ok : (Try.f23.name == "runtime.NumGoroutine") = false := by kernel_rfl
def v24 : VFun := ⟨3, 61, [.cell 6 (some 9)],
 (.seq (.ops none [
  ⟨(some 6), none, .alloc false [.nils, .nils, .nils, .nils, .nils, .nils, .nils, .nils, .nils], .eff⟩])
 (.seq (.ops none [
  ⟨(some 11), none, .build [(.int .i64 0), (.int .u8 0), .nils, (.int .i64 0), (.int .i64 0)] [(0, 1, (.const (.int .i64 1))), (4, 1, (.const (.int .i64 1)))], .eff⟩,
  ⟨(some 12), none, .bslice [(.int .i64 0), (.int .u8 0), .nils, (.int .i64 0), (.int .i64 0)] 1 5 [(0, (.tmp 11))], .eff⟩,
  ⟨(some 13), none, .build [.nils, .nils, .nils, .nils, .nils, .nils, .nils, .nils, .nils] [(2, 1, (.tmp 12))], .eff⟩,
  ⟨(some 7), none, .alloc false [.nils, .nils, .nils, .nils, .nils, .nils, .nils, .nils, .nils], .eff⟩,
  ⟨none, none, .store 9 (.tmp 7) (.tmp 13), .eff⟩])
 (.seq (.seq (.ops none [
  ⟨(some 8), none, .move (.const (.int .i64 1)), .eff⟩])
 (.block 0 (.loop [0, 1, 2, 6, 7, 8] (.seq (.seq (.ops none [
  ⟨(some 14), none, .move (.tmp 8), .eff⟩,
  ⟨(some 15), none, .move (.tmp 1), .eff⟩,
  ⟨(some 16), none, .bin .leq (.tmp 14) (.tmp 15), .eff⟩])
 (.cond (.tmp 16) .skip
 (.exit 0)))
 (.seq (.block 1 (.seq (.ops none [
  ⟨(some 19), none, .faddr 4 (.tmp 7), .eff⟩,
  ⟨(some 20), none, .load none (.tmp 19), .eff⟩,
  ⟨(some 21), none, .move (.tmp 8), .eff⟩,
  ⟨(some 22), none, .move (.tmp 8), .eff⟩,
  ⟨(some 23), none, .build [(.int .u8 0), (.int .i64 0), (.int .u8 0), (.int .u64 0), (.int .u8 0), (.int .u64 0), (.int .i64 0)] [(0, 1, (.const (.int .u8 14))), (6, 1, (.tmp 22))], .eff⟩,
  ⟨(some 24), none, .bslice [(.int .u8 0), (.int .i64 0), (.int .u8 0), (.int .u64 0), (.int .u8 0), (.int .u64 0), (.int .i64 0)] 1 7 [(0, (.tmp 23))], .eff⟩,
  ⟨(some 25), none, .build [(.int .i64 0), .nils] [(0, 1, (.tmp 21)), (1, 1, (.tmp 24))], .eff⟩,
  ⟨(some 26), none, .bslice [(.int .i64 0), .nils] 1 2 [(0, (.tmp 25))], .eff⟩,
  ⟨(some 27), none, .append 2 32 (.tmp 20) (.tmp 26), .eff⟩,
  ⟨(some 28), none, .faddr 4 (.tmp 7), .eff⟩,
  ⟨none, none, .store 1 (.tmp 28) (.tmp 27), .eff⟩])
 (.seq (.ops none [
  ⟨(some 29), none, .move (.tmp 8), .eff⟩,
  ⟨(some 30), none, .build [(.int .i64 0), (.int .u8 0), (.int .i64 0), .nils] [(0, 1, (.tmp 29)), (1, 1, (.const (.int .u8 1)))], .eff⟩,
  ⟨(some 9), none, .alloc false [(.int .i64 0), (.int .u8 0), (.int .i64 0), .nils], .eff⟩,
  ⟨none, none, .store 4 (.tmp 9) (.tmp 30), .eff⟩])
 (.seq (.seq (.ops none [
  ⟨(some 10), none, .move (.const (.int .i64 0)), .eff⟩])
 (.block 2 (.loop [0, 1, 2, 6, 7, 8, 9, 10] (.seq (.seq (.ops none [
  ⟨(some 31), none, .move (.tmp 10), .eff⟩,
  ⟨(some 32), none, .move (.tmp 0), .eff⟩,
  ⟨(some 33), none, .bin .lss (.tmp 31) (.tmp 32), .eff⟩])
 (.cond (.tmp 33) .skip
 (.exit 2)))
 (.seq (.block 3 (.ops none [
  ⟨(some 36), none, .faddr 3 (.tmp 9), .eff⟩,
  ⟨(some 37), none, .load none (.tmp 36), .eff⟩,
  ⟨(some 38), none, .move (.tmp 8), .eff⟩,
  ⟨(some 39), none, .bin .add (.tmp 38) (.const (.int .i64 1)), .eff⟩,
  ⟨(some 40), none, .build [(.int .u64 0), (.int .i64 0)] [(1, 1, (.tmp 39))], .eff⟩,
  ⟨(some 41), none, .bslice [(.int .u64 0), (.int .i64 0)] 1 2 [(0, (.tmp 40))], .eff⟩,
  ⟨(some 42), none, .append 2 16 (.tmp 37) (.tmp 41), .eff⟩,
  ⟨(some 43), none, .faddr 3 (.tmp 9), .eff⟩,
  ⟨none, none, .store 1 (.tmp 43) (.tmp 42), .eff⟩]))
 (.ops none [
  ⟨(some 34), none, .move (.tmp 10), .eff⟩,
  ⟨(some 35), none, .bin .add (.tmp 34) (.const (.int .i64 1)), .eff⟩,
  ⟨(some 10), none, .move (.tmp 35), .eff⟩]))))))
 (.ops none [
  ⟨(some 44), none, .faddr 5 (.tmp 7), .eff⟩,
  ⟨(some 45), none, .load none (.tmp 44), .eff⟩,
  ⟨(some 46), none, .load (some 4) (.tmp 9), .eff⟩,
  ⟨(some 47), none, .bslice [(.int .i64 0), (.int .u8 0), (.int .i64 0), .nils] 1 4 [(0, (.tmp 46))], .eff⟩,
  ⟨(some 48), none, .append 4 48 (.tmp 45) (.tmp 47), .eff⟩,
  ⟨(some 49), none, .faddr 5 (.tmp 7), .eff⟩,
  ⟨none, none, .store 1 (.tmp 49) (.tmp 48), .eff⟩])))))
 (.ops none [
  ⟨(some 17), none, .move (.tmp 8), .eff⟩,
  ⟨(some 18), none, .bin .add (.tmp 17) (.const (.int .i64 1)), .eff⟩,
  ⟨(some 8), none, .move (.tmp 18), .eff⟩]))))))
 (.seq (.ops (some [(1, 5), (1, 7)]) [
  ⟨(some 50), none, .faddr 4 (.tmp 7), .eff⟩,
  ⟨(some 51), none, .load none (.tmp 50), .eff⟩,
  ⟨(some 52), none, .move (.tmp 1), .eff⟩,
  ⟨(some 53), none, .bin .add (.tmp 52) (.const (.int .i64 1)), .eff⟩,
  ⟨(some 54), none, .move (.tmp 2), .eff⟩,
  ⟨(some 55), none, .mkslice [(.int .u8 0), (.int .i64 0), (.int .u8 0), (.int .u64 0), (.int .u8 0), (.int .u64 0), (.int .i64 0)] 56 (.tmp 54) (.tmp 54), .eff⟩,
  ⟨(some 56), none, .build [(.int .i64 0), .nils] [(0, 1, (.tmp 53)), (1, 1, (.tmp 55))], .eff⟩,
  ⟨(some 57), none, .bslice [(.int .i64 0), .nils] 1 2 [(0, (.tmp 56))], .eff⟩,
  ⟨(some 58), none, .append 2 32 (.tmp 51) (.tmp 57), .eff⟩,
  ⟨(some 59), none, .faddr 4 (.tmp 7), .eff⟩,
  ⟨none, none, .store 1 (.tmp 59) (.tmp 58), .eff⟩])
 (.seq (.ops none [
  ⟨(some 60), none, .load (some 9) (.tmp 7), .eff⟩,
  ⟨none, none, .store 9 (.tmp 6) (.tmp 60), .eff⟩])
 .ret)))))⟩
set_option maxRecDepth 100000 in
theorem v24_ok : stripF (ttOf Try.prog) { hp := [], md := [], ks := [[0, 1, 2, 6, 7, 8], [0, 1, 2, 6, 7, 8, 9, 10]] } Try.f24 = some v24 := by kernel_rfl
theorem n24_ok : (Try.f24.name == "runtime.NumGoroutine") = false := by kernel_rfl
def v25 : VFun := ⟨2, 82, [.tmp 4],
 (.seq (.ops none [
  ⟨(some 4), none, .move (.const (.int .i64 0)), .eff⟩])
 (.seq (.seq (.ops none [
  ⟨(some 5), none, .move (.const (.int .i64 0)), .eff⟩])
 (.block 0 (.loop [0, 1, 5] (.seq (.seq (.ops none [
  ⟨(some 8), none, .move (.tmp 5), .eff⟩,
  ⟨(some 9), none, .move (.tmp 0), .eff⟩,
  ⟨(some 10), none, .nilck (.tmp 9), .eff⟩,
  ⟨(some 11), none, .faddr 0 (.tmp 10), .eff⟩,
  ⟨(some 12), none, .faddr 2 (.tmp 11), .eff⟩,
  ⟨(some 13), none, .load none (.tmp 12), .eff⟩,
  ⟨(some 14), none, .len .slice (.tmp 13), .eff⟩,
  ⟨(some 15), none, .bin .lss (.tmp 8) (.tmp 14), .eff⟩])
 (.cond (.tmp 15) .skip
 (.exit 0)))
 (.seq (.block 1 (.seq (.seq (.ops none [
  ⟨(some 18), none, .move (.tmp 0), .eff⟩,
  ⟨(some 19), none, .nilck (.tmp 18), .eff⟩,
  ⟨(some 20), none, .faddr 0 (.tmp 19), .eff⟩,
  ⟨(some 21), none, .faddr 2 (.tmp 20), .eff⟩,
  ⟨(some 22), none, .load none (.tmp 21), .eff⟩,
  ⟨(some 23), none, .move (.tmp 5), .eff⟩,
  ⟨(some 24), none, .iaddr 5 none (.tmp 22) (.tmp 23), .eff⟩,
  ⟨(some 25), none, .faddr 0 (.tmp 24), .eff⟩,
  ⟨(some 26), none, .load none (.tmp 25), .eff⟩,
  ⟨(some 27), none, .move (.tmp 1), .eff⟩,
  ⟨(some 28), none, .eqv true (.one (.int .i64)) (.tmp 26) (.tmp 27), .eff⟩])
 (.cond (.tmp 28) (.exit 1)
 .skip))
 (.seq (.ops none [
  ⟨(some 29), none, .move (.tmp 0), .eff⟩,
  ⟨(some 30), none, .nilck (.tmp 29), .eff⟩,
  ⟨(some 31), none, .faddr 0 (.tmp 30), .eff⟩,
  ⟨(some 32), none, .faddr 2 (.tmp 31), .eff⟩,
  ⟨(some 33), none, .load none (.tmp 32), .eff⟩,
  ⟨(some 34), none, .move (.tmp 5), .eff⟩,
  ⟨(some 35), none, .iaddr 5 none (.tmp 33) (.tmp 34), .eff⟩,
  ⟨(some 36), none, .faddr 4 (.tmp 35), .eff⟩,
  ⟨(some 37), none, .load none (.tmp 36), .eff⟩,
  ⟨(some 38), none, .bslice [(.int .i64 0)] 1 1 [(0, (.tmp 37))], .eff⟩,
  ⟨(some 6), none, .move (.tmp 38), .eff⟩])
 (.seq (.seq (.ops none [
  ⟨(some 7), none, .move (.const (.int .i64 0)), .eff⟩])
 (.block 2 (.loop [0, 1, 6, 7] (.seq (.seq (.ops none [
  ⟨(some 39), none, .move (.tmp 7), .eff⟩,
  ⟨(some 40), none, .move (.tmp 0), .eff⟩,
  ⟨(some 41), none, .nilck (.tmp 40), .eff⟩,
  ⟨(some 42), none, .faddr 0 (.tmp 41), .eff⟩,
  ⟨(some 43), none, .faddr 3 (.tmp 42), .eff⟩,
  ⟨(some 44), none, .load none (.tmp 43), .eff⟩,
  ⟨(some 45), none, .len .slice (.tmp 44), .eff⟩,
  ⟨(some 46), none, .bin .lss (.tmp 39) (.tmp 45), .eff⟩])
 (.cond (.tmp 46) .skip
 (.exit 2)))
 (.seq (.block 3 (.seq (.ops none [
  ⟨(some 49), none, .move (.tmp 0), .eff⟩,
  ⟨(some 50), none, .nilck (.tmp 49), .eff⟩,
  ⟨(some 51), none, .faddr 0 (.tmp 50), .eff⟩,
  ⟨(some 52), none, .faddr 3 (.tmp 51), .eff⟩,
  ⟨(some 53), none, .load none (.tmp 52), .eff⟩,
  ⟨(some 54), none, .move (.tmp 7), .eff⟩,
  ⟨(some 55), none, .iaddr 11 none (.tmp 53) (.tmp 54), .eff⟩,
  ⟨(some 56), none, .faddr 0 (.tmp 55), .eff⟩,
  ⟨(some 57), none, .load none (.tmp 56), .eff⟩,
  ⟨(some 58), none, .move (.tmp 1), .eff⟩,
  ⟨(some 59), none, .eqv false (.one (.int .i64)) (.tmp 57) (.tmp 58), .eff⟩])
 (.cond (.tmp 59) (.ops none [
  ⟨(some 60), none, .move (.tmp 6), .eff⟩,
  ⟨(some 61), none, .move (.tmp 0), .eff⟩,
  ⟨(some 62), none, .nilck (.tmp 61), .eff⟩,
  ⟨(some 63), none, .faddr 0 (.tmp 62), .eff⟩,
  ⟨(some 64), none, .faddr 3 (.tmp 63), .eff⟩,
  ⟨(some 65), none, .load none (.tmp 64), .eff⟩,
  ⟨(some 66), none, .move (.tmp 7), .eff⟩,
  ⟨(some 67), none, .iaddr 11 none (.tmp 65) (.tmp 66), .eff⟩,
  ⟨(some 68), none, .faddr 5 (.tmp 67), .eff⟩,
  ⟨(some 69), none, .load none (.tmp 68), .eff⟩,
  ⟨(some 70), none, .bslice [(.int .i64 0)] 1 1 [(0, (.tmp 69))], .eff⟩,
  ⟨(some 71), none, .append 1 8 (.tmp 60) (.tmp 70), .eff⟩,
  ⟨(some 6), none, .move (.tmp 71), .eff⟩])
 .skip)))
 (.ops none [
  ⟨(some 47), none, .move (.tmp 7), .eff⟩,
  ⟨(some 48), none, .bin .add (.tmp 47) (.const (.int .i64 1)), .eff⟩,
  ⟨(some 7), none, .move (.tmp 48), .eff⟩]))))))
 (.seq (.ops none [
  ⟨(some 72), none, .move (.tmp 0), .eff⟩,
  ⟨(some 73), none, .move (.tmp 6), .eff⟩,
  ⟨(some 74), none, .move (.tmp 0), .eff⟩,
  ⟨(some 75), none, .move (.tmp 6), .eff⟩,
  ⟨(some 76), none, .len .slice (.tmp 75), .eff⟩,
  ⟨(some 77), none, .call 36 [(.tmp 74), (.tmp 76)], .eff⟩,
  ⟨(some 78), none, .iaddr 1 none (.tmp 73) (.tmp 77), .eff⟩,
  ⟨(some 79), none, .load none (.tmp 78), .eff⟩,
  ⟨(some 80), none, .call 26 [(.tmp 72), (.tmp 79)], .eff⟩,
  ⟨(some 81), none, .bin .add (.const (.int .i64 1)) (.tmp 80), .eff⟩,
  ⟨(some 4), none, .move (.tmp 81), .eff⟩])
 .ret)))))
 (.ops none [
  ⟨(some 16), none, .move (.tmp 5), .eff⟩,
  ⟨(some 17), none, .bin .add (.tmp 16) (.const (.int .i64 1)), .eff⟩,
  ⟨(some 5), none, .move (.tmp 17), .eff⟩]))))))
 (.seq (.ops none [
  ⟨(some 4), none, .move (.const (.int .i64 0)), .eff⟩])
 .ret)))⟩
set_option maxRecDepth 100000 in
theorem v25_ok : stripF (ttOf Try.prog) { hp := [], md := [], ks := [[0, 1, 5], [0, 1, 6, 7]] } Try.f25 = some v25 := by kernel_rfl
theorem n25_ok : (Try.f25.name == "runtime.NumGoroutine") = false := by kernel_rfl
def v26 : VFun := ⟨2, 112, [.tmp 4],
 (.seq (.ops none [
  ⟨(some 4), none, .move (.const (.int .i64 0)), .eff⟩])
 (.seq (.seq (.ops none [
  ⟨(some 5), none, .move (.const (.int .i64 0)), .eff⟩])
 (.block 0 (.loop [0, 1, 5] (.seq (.seq (.ops none [
  ⟨(some 9), none, .move (.tmp 5), .eff⟩,
  ⟨(some 10), none, .move (.tmp 0), .eff⟩,
  ⟨(some 11), none, .nilck (.tmp 10), .eff⟩,
  ⟨(some 12), none, .faddr 0 (.tmp 11), .eff⟩,
  ⟨(some 13), none, .faddr 4 (.tmp 12), .eff⟩,
  ⟨(some 14), none, .load none (.tmp 13), .eff⟩,
  ⟨(some 15), none, .len .slice (.tmp 14), .eff⟩,
  ⟨(some 16), none, .bin .lss (.tmp 9) (.tmp 15), .eff⟩])
 (.cond (.tmp 16) .skip
 (.exit 0)))
 (.seq (.block 1 (.seq (.seq (.ops none [
  ⟨(some 19), none, .move (.tmp 0), .eff⟩,
  ⟨(some 20), none, .nilck (.tmp 19), .eff⟩,
  ⟨(some 21), none, .faddr 0 (.tmp 20), .eff⟩,
  ⟨(some 22), none, .faddr 4 (.tmp 21), .eff⟩,
  ⟨(some 23), none, .load none (.tmp 22), .eff⟩,
  ⟨(some 24), none, .move (.tmp 5), .eff⟩,
  ⟨(some 25), none, .iaddr 2 none (.tmp 23) (.tmp 24), .eff⟩,
  ⟨(some 26), none, .faddr 0 (.tmp 25), .eff⟩,
  ⟨(some 27), none, .load none (.tmp 26), .eff⟩,
  ⟨(some 28), none, .move (.tmp 1), .eff⟩,
  ⟨(some 29), none, .eqv true (.one (.int .i64)) (.tmp 27) (.tmp 28), .eff⟩])
 (.cond (.tmp 29) (.exit 1)
 .skip))
 (.seq (.ops none [
  ⟨(some 30), none, .move (.tmp 0), .eff⟩,
  ⟨(some 31), none, .nilck (.tmp 30), .eff⟩,
  ⟨(some 32), none, .faddr 0 (.tmp 31), .eff⟩,
  ⟨(some 33), none, .faddr 4 (.tmp 32), .eff⟩,
  ⟨(some 34), none, .load none (.tmp 33), .eff⟩,
  ⟨(some 35), none, .move (.tmp 5), .eff⟩,
  ⟨(some 36), none, .iaddr 2 none (.tmp 34) (.tmp 35), .eff⟩,
  ⟨(some 37), none, .faddr 1 (.tmp 36), .eff⟩,
  ⟨(some 38), none, .load none (.tmp 37), .eff⟩,
  ⟨(some 6), none, .move (.tmp 38), .eff⟩])
 (.seq (.ops none [
  ⟨(some 7), none, .move (.const (.int .i64 0)), .eff⟩])
 (.seq (.seq (.ops none [
  ⟨(some 8), none, .move (.const (.int .i64 0)), .eff⟩])
 (.block 2 (.loop [0, 6, 7, 8] (.seq (.seq (.ops none [
  ⟨(some 39), none, .move (.tmp 8), .eff⟩,
  ⟨(some 40), none, .bin .geq (.tmp 39) (.const (.int .i64 0)), .eff⟩,
  ⟨(some 41), none, .move (.tmp 40), .eff⟩,
  ⟨(some 42), (some (41, true)), .move (.tmp 8), .eff⟩,
  ⟨(some 43), (some (41, true)), .move (.tmp 6), .eff⟩,
  ⟨(some 44), (some (41, true)), .len .slice (.tmp 43), .eff⟩,
  ⟨(some 45), (some (41, true)), .bin .lss (.tmp 42) (.tmp 44), .eff⟩,
  ⟨(some 46), none, .pick (.tmp 41) (.tmp 45) (.const (.bool false)), .eff⟩])
 (.cond (.tmp 46) .skip
 (.exit 2)))
 (.seq (.block 3 (.seq (.ops none [
  ⟨(some 49), none, .move (.tmp 7), .eff⟩,
  ⟨(some 50), none, .bin .add (.tmp 49) (.const (.int .i64 1)), .eff⟩,
  ⟨(some 7), none, .move (.tmp 50), .eff⟩])
 (.seq (.ops none [
  ⟨(some 51), none, .move (.tmp 6), .eff⟩,
  ⟨(some 52), none, .move (.tmp 8), .eff⟩,
  ⟨(some 53), none, .iaddr 7 none (.tmp 51) (.tmp 52), .eff⟩,
  ⟨(some 54), none, .faddr 0 (.tmp 53), .eff⟩,
  ⟨(some 55), none, .load none (.tmp 54), .eff⟩])
 (.block 4 (.seq (.seq (.ops none [
  ⟨(some 57), none, .eqv false (.one (.int .u8)) (.tmp 55) (.const (.int .u8 23)), .eff⟩,
  ⟨(some 56), none, .move (.tmp 57), .eff⟩])
 (.cond (.tmp 56) .skip
 (.ops none [
  ⟨(some 58), none, .eqv false (.one (.int .u8)) (.tmp 55) (.const (.int .u8 22)), .eff⟩,
  ⟨(some 56), none, .move (.tmp 58), .eff⟩])))
 (.cond (.tmp 56) (.seq (.ops none [
  ⟨(some 59), none, .move (.tmp 7), .eff⟩,
  ⟨(some 4), none, .move (.tmp 59), .eff⟩])
 .ret)
 (.seq (.ops none [
  ⟨(some 61), none, .eqv false (.one (.int .u8)) (.tmp 55) (.const (.int .u8 13)), .eff⟩,
  ⟨(some 60), none, .move (.tmp 61), .eff⟩])
 (.cond (.tmp 60) (.seq (.ops none [
  ⟨(some 62), none, .move (.tmp 7), .eff⟩,
  ⟨(some 63), none, .move (.tmp 0), .eff⟩,
  ⟨(some 64), none, .move (.tmp 6), .eff⟩,
  ⟨(some 65), none, .move (.tmp 8), .eff⟩,
  ⟨(some 66), none, .iaddr 7 none (.tmp 64) (.tmp 65), .eff⟩,
  ⟨(some 67), none, .faddr 6 (.tmp 66), .eff⟩,
  ⟨(some 68), none, .load none (.tmp 67), .eff⟩,
  ⟨(some 69), none, .call 25 [(.tmp 63), (.tmp 68)], .eff⟩,
  ⟨(some 70), none, .bin .add (.tmp 62) (.tmp 69), .eff⟩,
  ⟨(some 4), none, .move (.tmp 70), .eff⟩])
 .ret)
 (.seq (.ops none [
  ⟨(some 72), none, .eqv false (.one (.int .u8)) (.tmp 55) (.const (.int .u8 14)), .eff⟩,
  ⟨(some 71), none, .move (.tmp 72), .eff⟩])
 (.cond (.tmp 71) (.seq (.ops none [
  ⟨(some 73), none, .move (.tmp 7), .eff⟩,
  ⟨(some 74), none, .move (.tmp 0), .eff⟩,
  ⟨(some 75), none, .move (.tmp 6), .eff⟩,
  ⟨(some 76), none, .move (.tmp 8), .eff⟩,
  ⟨(some 77), none, .iaddr 7 none (.tmp 75) (.tmp 76), .eff⟩,
  ⟨(some 78), none, .faddr 6 (.tmp 77), .eff⟩,
  ⟨(some 79), none, .load none (.tmp 78), .eff⟩,
  ⟨(some 80), none, .call 37 [(.tmp 74), (.tmp 79)], .eff⟩,
  ⟨(some 81), none, .bin .add (.tmp 73) (.tmp 80), .eff⟩,
  ⟨(some 4), none, .move (.tmp 81), .eff⟩])
 .ret)
 (.seq (.ops none [
  ⟨(some 83), none, .eqv false (.one (.int .u8)) (.tmp 55) (.const (.int .u8 12)), .eff⟩,
  ⟨(some 82), none, .move (.tmp 83), .eff⟩])
 (.cond (.tmp 82) (.seq (.ops none [
  ⟨(some 84), none, .move (.tmp 0), .eff⟩,
  ⟨(some 85), none, .call 36 [(.tmp 84), (.const (.int .i64 2))], .eff⟩,
  ⟨(some 86), none, .eqv false (.one (.int .i64)) (.tmp 85) (.const (.int .i64 1)), .eff⟩])
 (.cond (.tmp 86) (.seq (.seq (.ops none [
  ⟨(some 87), none, .move (.tmp 6), .eff⟩,
  ⟨(some 88), none, .move (.tmp 8), .eff⟩,
  ⟨(some 89), none, .iaddr 7 none (.tmp 87) (.tmp 88), .eff⟩,
  ⟨(some 90), none, .faddr 6 (.tmp 89), .eff⟩,
  ⟨(some 91), none, .load none (.tmp 90), .eff⟩,
  ⟨(some 92), none, .bin .lss (.tmp 91) (.const (.int .i64 0)), .eff⟩,
  ⟨(some 93), none, .move (.tmp 92), .eff⟩,
  ⟨(some 94), (some (93, false)), .move (.tmp 6), .eff⟩,
  ⟨(some 95), (some (93, false)), .move (.tmp 8), .eff⟩,
  ⟨(some 96), (some (93, false)), .iaddr 7 none (.tmp 94) (.tmp 95), .eff⟩,
  ⟨(some 97), (some (93, false)), .faddr 6 (.tmp 96), .eff⟩,
  ⟨(some 98), (some (93, false)), .load none (.tmp 97), .eff⟩,
  ⟨(some 99), (some (93, false)), .move (.tmp 6), .eff⟩,
  ⟨(some 100), (some (93, false)), .len .slice (.tmp 99), .eff⟩,
  ⟨(some 101), (some (93, false)), .bin .gtr (.tmp 98) (.tmp 100), .eff⟩,
  ⟨(some 102), none, .pick (.tmp 93) (.const (.bool true)) (.tmp 101), .eff⟩])
 (.cond (.tmp 102) (.seq (.ops none [
  ⟨(some 103), none, .move (.tmp 7), .eff⟩,
  ⟨(some 4), none, .move (.tmp 103), .eff⟩])
 .ret)
 .skip))
 (.ops none [
  ⟨(some 104), none, .move (.tmp 8), .eff⟩,
  ⟨(some 105), none, .move (.tmp 6), .eff⟩,
  ⟨(some 106), none, .move (.tmp 8), .eff⟩,
  ⟨(some 107), none, .iaddr 7 none (.tmp 105) (.tmp 106), .eff⟩,
  ⟨(some 108), none, .faddr 6 (.tmp 107), .eff⟩,
  ⟨(some 109), none, .load none (.tmp 108), .eff⟩,
  ⟨(some 110), none, .bin .add (.tmp 104) (.tmp 109), .eff⟩,
  ⟨(some 8), none, .move (.tmp 110), .eff⟩]))
 .skip))
 .skip))))))))))))
 (.ops none [
  ⟨(some 47), none, .move (.tmp 8), .eff⟩,
  ⟨(some 48), none, .bin .add (.tmp 47) (.const (.int .i64 1)), .eff⟩,
  ⟨(some 8), none, .move (.tmp 48), .eff⟩]))))))
 (.seq (.ops none [
  ⟨(some 111), none, .move (.tmp 7), .eff⟩,
  ⟨(some 4), none, .move (.tmp 111), .eff⟩])
 .ret))))))
 (.ops none [
  ⟨(some 17), none, .move (.tmp 5), .eff⟩,
  ⟨(some 18), none, .bin .add (.tmp 17) (.const (.int .i64 1)), .eff⟩,
  ⟨(some 5), none, .move (.tmp 18), .eff⟩]))))))
 (.seq (.ops none [
  ⟨(some 4), none, .move (.const (.int .i64 0)), .eff⟩])
 .ret)))⟩
set_option maxRecDepth 100000 in
theorem v26_ok : stripF (ttOf Try.prog) { hp := [], md := [], ks := [[0, 1, 5], [0, 6, 7, 8]] } Try.f26 = some v26 := by kernel_rfl
theorem n26_ok : (Try.f26.name == "runtime.NumGoroutine") = false := by kernel_rfl
def v27 : VFun := ⟨1, 15, [.tmp 2],
 (.seq (.ops none [
  ⟨(some 2), none, .move (.const (.int .i64 0)), .eff⟩])
 (.seq (.seq (.ops none [
  ⟨(some 5), none, .move (.tmp 0), .eff⟩,
  ⟨(some 6), none, .call 38 [(.tmp 5)], .view⟩,
  ⟨(some 7), none, .eqv true (.one (.int .i64)) (.tmp 6) (.const (.int .i64 0)), .eff⟩])
 (.cond (.tmp 7) (.seq (.ops none [
  ⟨(some 2), none, .move (.const (.int .i64 0)), .eff⟩])
 .ret)
 .skip))
 (.seq (.ops none [
  ⟨(some 9), none, .move (.tmp 0), .eff⟩,
  ⟨(some 10), none, .call 39 [(.tmp 9)], .eff⟩,
  ⟨(some 8), none, .move (.tmp 10), .eff⟩,
  ⟨(some 11), none, .ext (.tmp 8) 0, .eff⟩,
  ⟨(some 12), none, .ext (.tmp 8) 1, .eff⟩,
  ⟨(some 3), none, .move (.tmp 11), .eff⟩,
  ⟨(some 4), none, .move (.tmp 12), .eff⟩])
 (.seq (.ops none [
  ⟨(some 13), none, .move (.tmp 3), .eff⟩,
  ⟨(some 14), none, .callv (.tmp 13) [(.const (.int .i64 1))], .eff⟩,
  ⟨(some 2), none, .move (.tmp 14), .eff⟩])
 .ret))))⟩
set_option maxRecDepth 100000 in
theorem v27_ok : stripF (ttOf Try.prog) { hp := [], md := [(6, .view)], ks := [] } Try.f27 = some v27 := by kernel_rfl
theorem n27_ok : (Try.f27.name == "runtime.NumGoroutine") = false := by kernel_rfl
def v28 : VFun := ⟨1, 5, [.tmp 2],
 (.seq (.ops none [
  ⟨(some 2), none, .move (.const (.int .i64 0)), .eff⟩])
 (.seq (.ops none [
  ⟨(some 3), none, .move (.tmp 0), .eff⟩,
  ⟨(some 4), none, .mm false (.tmp 3) [(.const (.int .i64 65537))], .eff⟩,
  ⟨(some 2), none, .move (.tmp 4), .eff⟩])
 .ret))⟩
set_option maxRecDepth 100000 in
theorem v28_ok : stripF (ttOf Try.prog) { hp := [], md := [], ks := [] } Try.f28 = some v28 := by kernel_rfl
theorem n28_ok : (Try.f28.name == "runtime.NumGoroutine") = false := by kernel_rfl
def v29 : VFun := ⟨1, 28, [.tmp 2],
 (.seq (.ops none [
  ⟨(some 2), none, .move (.const (.int .i64 0)), .eff⟩])
 (.seq (.seq (.ops none [
  ⟨(some 5), none, .move (.tmp 0), .eff⟩,
  ⟨(some 6), none, .call 40 [(.tmp 5)], .view⟩,
  ⟨(some 7), none, .eqv true (.one (.int .i64)) (.tmp 6) (.const (.int .i64 0)), .eff⟩])
 (.cond (.tmp 7) (.seq (.ops none [
  ⟨(some 2), none, .move (.const (.int .i64 0)), .eff⟩])
 .ret)
 .skip))
 (.seq (.ops none [
  ⟨(some 8), none, .move (.tmp 0), .eff⟩,
  ⟨(some 9), none, .move (.tmp 0), .eff⟩,
  ⟨(some 10), none, .len .slice (.tmp 9), .eff⟩,
  ⟨(some 11), none, .call 41 [(.tmp 8), (.tmp 10)], .pure⟩,
  ⟨(some 3), none, .move (.tmp 11), .eff⟩])
 (.seq (.seq (.ops none [
  ⟨(some 4), none, .move (.const (.int .i64 0)), .eff⟩])
 (.block 0 (.loop [0, 3, 4] (.seq (.seq (.ops none [
  ⟨(some 12), none, .move (.tmp 4), .eff⟩,
  ⟨(some 13), none, .move (.tmp 0), .eff⟩,
  ⟨(some 14), none, .len .slice (.tmp 13), .eff⟩,
  ⟨(some 15), none, .bin .lss (.tmp 12) (.tmp 14), .eff⟩])
 (.cond (.tmp 15) .skip
 (.exit 0)))
 (.seq (.block 1 (.seq (.ops none [
  ⟨(some 18), none, .move (.tmp 0), .eff⟩,
  ⟨(some 19), none, .move (.tmp 4), .eff⟩,
  ⟨(some 20), none, .iaddr 9 none (.tmp 18) (.tmp 19), .eff⟩,
  ⟨(some 21), none, .faddr 0 (.tmp 20), .eff⟩,
  ⟨(some 22), none, .load none (.tmp 21), .eff⟩,
  ⟨(some 23), none, .eqv false (.one (.int .i64)) (.tmp 22) (.const (.int .i64 1)), .eff⟩])
 (.cond (.tmp 23) (.seq (.ops none [
  ⟨(some 24), none, .move (.tmp 3), .eff⟩,
  ⟨(some 25), none, .move (.tmp 4), .eff⟩,
  ⟨(some 26), none, .iaddr 1 none (.tmp 24) (.tmp 25), .eff⟩,
  ⟨(some 27), none, .load none (.tmp 26), .eff⟩,
  ⟨(some 2), none, .move (.tmp 27), .eff⟩])
 .ret)
 .skip)))
 (.ops none [
  ⟨(some 16), none, .move (.tmp 4), .eff⟩,
  ⟨(some 17), none, .bin .add (.tmp 16) (.const (.int .i64 1)), .eff⟩,
  ⟨(some 4), none, .move (.tmp 17), .eff⟩]))))))
 (.seq (.ops none [
  ⟨(some 2), none, .move (.const (.int .i64 0)), .eff⟩])
 .ret)))))⟩
set_option maxRecDepth 100000 in
theorem v29_ok : stripF (ttOf Try.prog) { hp := [], md := [(6, .view), (11, .pure)], ks := [[0, 3, 4]] } Try.f29 = some v29 := by kernel_rfl
theorem n29_ok : (Try.f29.name == "runtime.NumGoroutine") = false := by kernel_rfl
def v30 : VFun := ⟨1, 176, [.tmp 2],
 (.seq (.ops none [
  ⟨(some 1), none, .box false (.tmp 0), .eff⟩,
  ⟨(some 2), none, .move (.const (.pointer none)), .eff⟩])
 (.seq (.ops none [
  ⟨(some 20), none, .mkmap, .eff⟩,
  ⟨(some 21), none, .mkmap, .eff⟩,
  ⟨(some 22), none, .mkmap, .eff⟩,
  ⟨(some 23), none, .build [.nilm, .nilm, .nilm, .nils] [(0, 1, (.tmp 20)), (1, 1, (.tmp 21)), (2, 1, (.tmp 22)), (3, 1, (.const (.slice none 0 0)))], .eff⟩,
  ⟨(some 24), none, .box true (.tmp 23), .eff⟩,
  ⟨(some 3), none, .move (.tmp 24), .eff⟩])
 (.seq (.seq (.ops none [
  ⟨(some 25), none, .faddr 2 (.tmp 1), .eff⟩,
  ⟨(some 26), none, .load none (.tmp 25), .eff⟩,
  ⟨(some 27), none, .len .slice (.tmp 26), .eff⟩,
  ⟨(some 28), none, .move (.const (.int .i64 0)), .eff⟩])
 (.block 0 (.loop [1, 3, 26, 27, 28] (.seq (.ops none [
  ⟨(some 29), none, .bin .lss (.tmp 28) (.tmp 27), .eff⟩])
 (.seq (.cond (.tmp 29) .skip
 (.exit 0))
 (.seq (.block 1 (.seq (.ops none [
  ⟨(some 30), none, .iaddr 5 none (.tmp 26) (.tmp 28), .eff⟩,
  ⟨(some 31), none, .load (some 5) (.tmp 30), .eff⟩,
  ⟨(some 5), none, .alloc false [(.int .i64 0), (.int .u8 0), .nils, (.int .i64 0), (.int .i64 0)], .eff⟩,
  ⟨none, none, .store 5 (.tmp 5) (.tmp 31), .eff⟩])
 (.seq (.ops (some []) [
  ⟨(some 33), none, .move (.tmp 3), .eff⟩,
  ⟨(some 34), none, .nilck (.tmp 33), .eff⟩,
  ⟨(some 35), none, .faddr 0 (.tmp 34), .eff⟩,
  ⟨(some 36), none, .load none (.tmp 35), .eff⟩,
  ⟨(some 37), none, .faddr 0 (.tmp 5), .eff⟩,
  ⟨(some 38), none, .load none (.tmp 37), .eff⟩,
  ⟨(some 39), none, .lookup (.one (.int .i64)) .nils (.tmp 36) (.tmp 38) true, .eff⟩,
  ⟨(some 32), none, .move (.tmp 39), .eff⟩,
  ⟨(some 40), none, .ext (.tmp 32) 0, .eff⟩,
  ⟨(some 41), none, .ext (.tmp 32) 1, .eff⟩,
  ⟨(some 6), none, .move (.tmp 40), .eff⟩,
  ⟨(some 7), none, .move (.tmp 41), .eff⟩])
 (.seq (.ops none [
  ⟨(some 42), none, .move (.tmp 7), .eff⟩,
  ⟨(some 43), none, .un .not (.tmp 42), .eff⟩])
 (.cond (.tmp 43) (.seq (.ops (some [(3, 8), (5, 8)]) [
  ⟨(some 44), none, .move (.tmp 3), .eff⟩,
  ⟨(some 45), none, .nilck (.tmp 44), .eff⟩,
  ⟨(some 46), none, .faddr 0 (.tmp 45), .eff⟩,
  ⟨(some 47), none, .load none (.tmp 46), .eff⟩,
  ⟨(some 48), none, .faddr 0 (.tmp 5), .eff⟩,
  ⟨(some 49), none, .load none (.tmp 48), .eff⟩,
  ⟨(some 50), none, .faddr 4 (.tmp 5), .eff⟩,
  ⟨(some 51), none, .load none (.tmp 50), .eff⟩,
  ⟨(some 52), none, .bslice [(.int .i64 0)] 1 1 [(0, (.tmp 51))], .eff⟩,
  ⟨none, none, .mapup (.one (.int .i64)) (.tmp 47) (.tmp 49) (.tmp 52), .eff⟩])
 (.ops (some [(4, 8)]) [
  ⟨(some 53), none, .move (.tmp 3), .eff⟩,
  ⟨(some 54), none, .move (.tmp 3), .eff⟩,
  ⟨(some 55), none, .nilck (.tmp 54), .eff⟩,
  ⟨(some 56), none, .faddr 3 (.tmp 55), .eff⟩,
  ⟨(some 57), none, .load none (.tmp 56), .eff⟩,
  ⟨(some 58), none, .faddr 0 (.tmp 5), .eff⟩,
  ⟨(some 59), none, .load none (.tmp 58), .eff⟩,
  ⟨(some 60), none, .build [(.int .i64 0), (.int .i64 0)] [(0, 1, (.const (.int .i64 0))), (1, 1, (.tmp 59))], .eff⟩,
  ⟨(some 61), none, .bslice [(.int .i64 0), (.int .i64 0)] 1 2 [(0, (.tmp 60))], .eff⟩,
  ⟨(some 62), none, .append 2 16 (.tmp 57) (.tmp 61), .eff⟩,
  ⟨(some 63), none, .nilck (.tmp 53), .eff⟩,
  ⟨(some 64), none, .faddr 3 (.tmp 63), .eff⟩,
  ⟨none, none, .store 1 (.tmp 64) (.tmp 62), .eff⟩]))
 .skip)))))
 (.ops none [
  ⟨(some 65), none, .bin .add (.tmp 28) (.const (.int .i64 1)), .eff⟩,
  ⟨(some 28), none, .move (.tmp 65), .eff⟩])))))))
 (.seq (.seq (.ops none [
  ⟨(some 66), none, .faddr 3 (.tmp 1), .eff⟩,
  ⟨(some 67), none, .load none (.tmp 66), .eff⟩,
  ⟨(some 68), none, .len .slice (.tmp 67), .eff⟩,
  ⟨(some 69), none, .move (.const (.int .i64 0)), .eff⟩])
 (.block 2 (.loop [1, 3, 67, 68, 69] (.seq (.ops none [
  ⟨(some 70), none, .bin .lss (.tmp 69) (.tmp 68), .eff⟩])
 (.seq (.cond (.tmp 70) .skip
 (.exit 2))
 (.seq (.block 3 (.seq (.ops none [
  ⟨(some 71), none, .iaddr 11 none (.tmp 67) (.tmp 69), .eff⟩,
  ⟨(some 72), none, .load (some 11) (.tmp 71), .eff⟩,
  ⟨(some 9), none, .alloc false [(.int .i64 0), (.str (ByteArray.mk #[])), (.str (ByteArray.mk #[])), (.int .i64 0), (.int .i64 0), (.int .i64 0), .nils, (.int .i64 0), (.int .i64 0), (.int .u64 0), (.bool false)], .eff⟩,
  ⟨none, none, .store 11 (.tmp 9) (.tmp 72), .eff⟩])
 (.seq (.ops (some []) [
  ⟨(some 74), none, .move (.tmp 3), .eff⟩,
  ⟨(some 75), none, .nilck (.tmp 74), .eff⟩,
  ⟨(some 76), none, .faddr 0 (.tmp 75), .eff⟩,
  ⟨(some 77), none, .load none (.tmp 76), .eff⟩,
  ⟨(some 78), none, .faddr 0 (.tmp 9), .eff⟩,
  ⟨(some 79), none, .load none (.tmp 78), .eff⟩,
  ⟨(some 80), none, .lookup (.one (.int .i64)) .nils (.tmp 77) (.tmp 79) true, .eff⟩,
  ⟨(some 73), none, .move (.tmp 80), .eff⟩,
  ⟨(some 81), none, .ext (.tmp 73) 0, .eff⟩,
  ⟨(some 82), none, .ext (.tmp 73) 1, .eff⟩,
  ⟨(some 10), none, .move (.tmp 81), .eff⟩,
  ⟨(some 11), none, .move (.tmp 82), .eff⟩])
 (.seq (.ops none [
  ⟨(some 83), none, .move (.tmp 11), .eff⟩])
 (.cond (.tmp 83) (.ops (some [(3, 9), (5, 9), (3, 10), (5, 10)]) [
  ⟨(some 84), none, .move (.tmp 3), .eff⟩,
  ⟨(some 85), none, .nilck (.tmp 84), .eff⟩,
  ⟨(some 86), none, .faddr 0 (.tmp 85), .eff⟩,
  ⟨(some 87), none, .load none (.tmp 86), .eff⟩,
  ⟨(some 88), none, .faddr 0 (.tmp 9), .eff⟩,
  ⟨(some 89), none, .load none (.tmp 88), .eff⟩,
  ⟨(some 90), none, .move (.tmp 10), .eff⟩,
  ⟨(some 91), none, .faddr 5 (.tmp 9), .eff⟩,
  ⟨(some 92), none, .load none (.tmp 91), .eff⟩,
  ⟨(some 93), none, .bslice [(.int .i64 0)] 1 1 [(0, (.tmp 92))], .eff⟩,
  ⟨(some 94), none, .append 1 8 (.tmp 90) (.tmp 93), .eff⟩,
  ⟨none, none, .mapup (.one (.int .i64)) (.tmp 87) (.tmp 89) (.tmp 94), .eff⟩])
 .skip)))))
 (.ops none [
  ⟨(some 95), none, .bin .add (.tmp 69) (.const (.int .i64 1)), .eff⟩,
  ⟨(some 69), none, .move (.tmp 95), .eff⟩])))))))
 (.seq (.seq (.ops none [
  ⟨(some 96), none, .faddr 4 (.tmp 1), .eff⟩,
  ⟨(some 97), none, .load none (.tmp 96), .eff⟩,
  ⟨(some 98), none, .len .slice (.tmp 97), .eff⟩,
  ⟨(some 99), none, .move (.const (.int .i64 0)), .eff⟩])
 (.block 4 (.loop [1, 3, 97, 98, 99] (.seq (.ops none [
  ⟨(some 100), none, .bin .lss (.tmp 99) (.tmp 98), .eff⟩])
 (.seq (.cond (.tmp 100) .skip
 (.exit 4))
 (.seq (.block 5 (.seq (.ops none [
  ⟨(some 101), none, .iaddr 2 none (.tmp 97) (.tmp 99), .eff⟩,
  ⟨(some 102), none, .load (some 2) (.tmp 101), .eff⟩,
  ⟨(some 13), none, .alloc false [(.int .i64 0), .nils], .eff⟩,
  ⟨none, none, .store 2 (.tmp 13) (.tmp 102), .eff⟩])
 (.seq (.ops (some []) [
  ⟨(some 104), none, .move (.tmp 3), .eff⟩,
  ⟨(some 105), none, .nilck (.tmp 104), .eff⟩,
  ⟨(some 106), none, .faddr 1 (.tmp 105), .eff⟩,
  ⟨(some 107), none, .load none (.tmp 106), .eff⟩,
  ⟨(some 108), none, .faddr 0 (.tmp 13), .eff⟩,
  ⟨(some 109), none, .load none (.tmp 108), .eff⟩,
  ⟨(some 110), none, .lookup (.one (.int .i64)) .nils (.tmp 107) (.tmp 109) true, .eff⟩,
  ⟨(some 103), none, .move (.tmp 110), .eff⟩,
  ⟨(some 111), none, .ext (.tmp 103) 0, .eff⟩,
  ⟨(some 112), none, .ext (.tmp 103) 1, .eff⟩,
  ⟨(some 14), none, .move (.tmp 111), .eff⟩,
  ⟨(some 15), none, .move (.tmp 112), .eff⟩])
 (.seq (.ops none [
  ⟨(some 113), none, .move (.tmp 15), .eff⟩,
  ⟨(some 114), none, .un .not (.tmp 113), .eff⟩])
 (.cond (.tmp 114) (.seq (.ops (some []) [
  ⟨(some 115), none, .move (.tmp 3), .eff⟩,
  ⟨(some 116), none, .nilck (.tmp 115), .eff⟩,
  ⟨(some 117), none, .faddr 1 (.tmp 116), .eff⟩,
  ⟨(some 118), none, .load none (.tmp 117), .eff⟩,
  ⟨(some 119), none, .faddr 0 (.tmp 13), .eff⟩,
  ⟨(some 120), none, .load none (.tmp 119), .eff⟩,
  ⟨(some 121), none, .faddr 1 (.tmp 13), .eff⟩,
  ⟨(some 122), none, .load none (.tmp 121), .eff⟩,
  ⟨none, none, .mapup (.one (.int .i64)) (.tmp 118) (.tmp 120) (.tmp 122), .eff⟩])
 (.ops (some [(4, 8)]) [
  ⟨(some 123), none, .move (.tmp 3), .eff⟩,
  ⟨(some 124), none, .move (.tmp 3), .eff⟩,
  ⟨(some 125), none, .nilck (.tmp 124), .eff⟩,
  ⟨(some 126), none, .faddr 3 (.tmp 125), .eff⟩,
  ⟨(some 127), none, .load none (.tmp 126), .eff⟩,
  ⟨(some 128), none, .faddr 0 (.tmp 13), .eff⟩,
  ⟨(some 129), none, .load none (.tmp 128), .eff⟩,
  ⟨(some 130), none, .build [(.int .i64 0), (.int .i64 0)] [(0, 1, (.const (.int .i64 1))), (1, 1, (.tmp 129))], .eff⟩,
  ⟨(some 131), none, .bslice [(.int .i64 0), (.int .i64 0)] 1 2 [(0, (.tmp 130))], .eff⟩,
  ⟨(some 132), none, .append 2 16 (.tmp 127) (.tmp 131), .eff⟩,
  ⟨(some 133), none, .nilck (.tmp 123), .eff⟩,
  ⟨(some 134), none, .faddr 3 (.tmp 133), .eff⟩,
  ⟨none, none, .store 1 (.tmp 134) (.tmp 132), .eff⟩]))
 .skip)))))
 (.ops none [
  ⟨(some 135), none, .bin .add (.tmp 99) (.const (.int .i64 1)), .eff⟩,
  ⟨(some 99), none, .move (.tmp 135), .eff⟩])))))))
 (.seq (.seq (.ops none [
  ⟨(some 136), none, .faddr 5 (.tmp 1), .eff⟩,
  ⟨(some 137), none, .load none (.tmp 136), .eff⟩,
  ⟨(some 138), none, .len .slice (.tmp 137), .eff⟩,
  ⟨(some 139), none, .move (.const (.int .i64 0)), .eff⟩])
 (.block 6 (.loop [3, 137, 138, 139] (.seq (.ops none [
  ⟨(some 140), none, .bin .lss (.tmp 139) (.tmp 138), .eff⟩])
 (.seq (.cond (.tmp 140) .skip
 (.exit 6))
 (.seq (.block 7 (.seq (.ops none [
  ⟨(some 141), none, .iaddr 4 none (.tmp 137) (.tmp 139), .eff⟩,
  ⟨(some 142), none, .load (some 4) (.tmp 141), .eff⟩,
  ⟨(some 17), none, .alloc false [(.int .i64 0), (.int .u8 0), (.int .i64 0), .nils], .eff⟩,
  ⟨none, none, .store 4 (.tmp 17) (.tmp 142), .eff⟩])
 (.seq (.ops (some [(0, 10), (1, 10), (2, 10), (3, 10), (4, 10), (5, 10), (6, 10), (7, 10)]) [
  ⟨(some 144), none, .move (.tmp 3), .eff⟩,
  ⟨(some 145), none, .nilck (.tmp 144), .eff⟩,
  ⟨(some 146), none, .faddr 2 (.tmp 145), .eff⟩,
  ⟨(some 147), none, .load none (.tmp 146), .eff⟩,
  ⟨(some 148), none, .faddr 0 (.tmp 17), .eff⟩,
  ⟨(some 149), none, .load none (.tmp 148), .eff⟩,
  ⟨(some 150), none, .lookup (.one (.int .i64)) (.agg [(.int .i64 0), (.int .u8 0), (.int .i64 0), .nils]) (.tmp 147) (.tmp 149) true, .eff⟩,
  ⟨(some 143), none, .move (.tmp 150), .eff⟩,
  ⟨(some 151), none, .ext (.tmp 143) 0, .eff⟩,
  ⟨(some 152), none, .ext (.tmp 143) 1, .eff⟩,
  ⟨(some 18), none, .alloc false [(.int .i64 0), (.int .u8 0), (.int .i64 0), .nils], .eff⟩,
  ⟨none, none, .store 4 (.tmp 18) (.tmp 151), .eff⟩,
  ⟨(some 19), none, .move (.tmp 152), .eff⟩])
 (.seq (.ops none [
  ⟨(some 153), none, .move (.tmp 19), .eff⟩,
  ⟨(some 154), none, .un .not (.tmp 153), .eff⟩])
 (.cond (.tmp 154) (.seq (.ops (some []) [
  ⟨(some 155), none, .move (.tmp 3), .eff⟩,
  ⟨(some 156), none, .nilck (.tmp 155), .eff⟩,
  ⟨(some 157), none, .faddr 2 (.tmp 156), .eff⟩,
  ⟨(some 158), none, .load none (.tmp 157), .eff⟩,
  ⟨(some 159), none, .faddr 0 (.tmp 17), .eff⟩,
  ⟨(some 160), none, .load none (.tmp 159), .eff⟩,
  ⟨(some 161), none, .load (some 4) (.tmp 17), .eff⟩,
  ⟨none, none, .mapup (.one (.int .i64)) (.tmp 158) (.tmp 160) (.tmp 161), .eff⟩])
 (.ops (some [(4, 8)]) [
  ⟨(some 162), none, .move (.tmp 3), .eff⟩,
  ⟨(some 163), none, .move (.tmp 3), .eff⟩,
  ⟨(some 164), none, .nilck (.tmp 163), .eff⟩,
  ⟨(some 165), none, .faddr 3 (.tmp 164), .eff⟩,
  ⟨(some 166), none, .load none (.tmp 165), .eff⟩,
  ⟨(some 167), none, .faddr 0 (.tmp 17), .eff⟩,
  ⟨(some 168), none, .load none (.tmp 167), .eff⟩,
  ⟨(some 169), none, .build [(.int .i64 0), (.int .i64 0)] [(0, 1, (.const (.int .i64 2))), (1, 1, (.tmp 168))], .eff⟩,
  ⟨(some 170), none, .bslice [(.int .i64 0), (.int .i64 0)] 1 2 [(0, (.tmp 169))], .eff⟩,
  ⟨(some 171), none, .append 2 16 (.tmp 166) (.tmp 170), .eff⟩,
  ⟨(some 172), none, .nilck (.tmp 162), .eff⟩,
  ⟨(some 173), none, .faddr 3 (.tmp 172), .eff⟩,
  ⟨none, none, .store 1 (.tmp 173) (.tmp 171), .eff⟩]))
 .skip)))))
 (.ops none [
  ⟨(some 174), none, .bin .add (.tmp 139) (.const (.int .i64 1)), .eff⟩,
  ⟨(some 139), none, .move (.tmp 174), .eff⟩])))))))
 (.seq (.ops none [
  ⟨(some 175), none, .move (.tmp 3), .eff⟩,
  ⟨(some 2), none, .move (.tmp 175), .eff⟩])
 .ret)))))))⟩
set_option maxRecDepth 100000 in
theorem v30_ok : stripF (ttOf Try.prog) { hp := [24], md := [], ks := [[1, 3, 26, 27, 28], [1, 3, 67, 68, 69], [1, 3, 97, 98, 99], [3, 137, 138, 139]] } Try.f30 = some v30 := by kernel_rfl
theorem n30_ok : (Try.f30.name == "runtime.NumGoroutine") = false := by kernel_rfl
def v31 : VFun := ⟨1, 22, [.tmp 2],
 (.seq (.ops none [
  ⟨(some 1), none, .box true (.tmp 0), .eff⟩,
  ⟨(some 2), none, .move (.const (.bool false)), .eff⟩])
 (.seq (.ops none [
  ⟨(some 7), none, .mkmap, .eff⟩,
  ⟨(some 3), none, .alloc true [.nilm], .eff⟩,
  ⟨none, none, .store 1 (.tmp 3) (.tmp 7), .eff⟩])
 (.seq (.ops none [
  ⟨(some 4), none, .alloc true [.nilf], .eff⟩])
 (.seq (.ops none [
  ⟨(some 8), none, .mkfn (.func 42) [] [(.tmp 3), (.tmp 1), (.tmp 4)], .eff⟩,
  ⟨none, none, .store 1 (.tmp 4) (.tmp 8), .eff⟩])
 (.seq (.seq (.ops none [
  ⟨(some 9), none, .load none (.tmp 1), .eff⟩,
  ⟨(some 10), none, .nilck (.tmp 9), .eff⟩,
  ⟨(some 11), none, .faddr 3 (.tmp 10), .eff⟩,
  ⟨(some 12), none, .load none (.tmp 11), .eff⟩,
  ⟨(some 13), none, .len .slice (.tmp 12), .eff⟩,
  ⟨(some 14), none, .move (.const (.int .i64 0)), .eff⟩])
 (.block 0 (.loop [4, 12, 13, 14] (.seq (.ops none [
  ⟨(some 15), none, .bin .lss (.tmp 14) (.tmp 13), .eff⟩])
 (.seq (.cond (.tmp 15) .skip
 (.exit 0))
 (.seq (.block 1 (.seq (.ops none [
  ⟨(some 16), none, .iaddr 2 none (.tmp 12) (.tmp 14), .eff⟩,
  ⟨(some 17), none, .load (some 2) (.tmp 16), .eff⟩,
  ⟨(some 6), none, .alloc false [(.int .i64 0), (.int .i64 0)], .eff⟩,
  ⟨none, none, .store 2 (.tmp 6) (.tmp 17), .eff⟩])
 (.seq (.ops none [
  ⟨(some 18), none, .load none (.tmp 4), .eff⟩,
  ⟨(some 19), none, .load (some 2) (.tmp 6), .eff⟩,
  ⟨(some 20), none, .callv (.tmp 18) [(.tmp 19)], .eff⟩])
 (.cond (.tmp 20) (.seq (.ops none [
  ⟨(some 2), none, .move (.const (.bool true)), .eff⟩])
 .ret)
 .skip))))
 (.ops none [
  ⟨(some 21), none, .bin .add (.tmp 14) (.const (.int .i64 1)), .eff⟩,
  ⟨(some 14), none, .move (.tmp 21), .eff⟩])))))))
 (.seq (.ops none [
  ⟨(some 2), none, .move (.const (.bool false)), .eff⟩])
 .ret))))))⟩
set_option maxRecDepth 100000 in
theorem v31_ok : stripF (ttOf Try.prog) { hp := [1, 3, 4], md := [], ks := [[4, 12, 13, 14]] } Try.f31 = some v31 := by kernel_rfl
theorem n31_ok : (Try.f31.name == "runtime.NumGoroutine") = false := by kernel_rfl
def v32 : VFun := ⟨1, 86, [.tmp 2],
 (.seq (.ops none [
  ⟨(some 1), none, .box false (.tmp 0), .eff⟩,
  ⟨(some 2), none, .move (.const (.slice none 0 0)), .eff⟩])
 (.seq (.ops none [
  ⟨(some 3), none, .move (.const (.slice none 0 0)), .eff⟩])
 (.seq (.seq (.ops none [
  ⟨(some 4), none, .move (.const (.int .i64 0)), .eff⟩])
 (.block 0 (.loop [1, 3, 4] (.seq (.seq (.ops none [
  ⟨(some 7), none, .move (.tmp 4), .eff⟩,
  ⟨(some 8), none, .faddr 2 (.tmp 1), .eff⟩,
  ⟨(some 9), none, .load none (.tmp 8), .eff⟩,
  ⟨(some 10), none, .len .slice (.tmp 9), .eff⟩,
  ⟨(some 11), none, .bin .lss (.tmp 7) (.tmp 10), .eff⟩])
 (.cond (.tmp 11) .skip
 (.exit 0)))
 (.seq (.block 1 (.seq (.ops none [
  ⟨(some 14), none, .move (.tmp 3), .eff⟩,
  ⟨(some 15), none, .faddr 2 (.tmp 1), .eff⟩,
  ⟨(some 16), none, .load none (.tmp 15), .eff⟩,
  ⟨(some 17), none, .move (.tmp 4), .eff⟩,
  ⟨(some 18), none, .iaddr 5 none (.tmp 16) (.tmp 17), .eff⟩,
  ⟨(some 19), none, .faddr 0 (.tmp 18), .eff⟩,
  ⟨(some 20), none, .load none (.tmp 19), .eff⟩,
  ⟨(some 21), none, .call 44 [(.tmp 14), (.const (.int .i64 1)), (.tmp 20)], .view⟩,
  ⟨(some 22), none, .bin .lss (.tmp 21) (.const (.int .i64 0)), .eff⟩])
 (.cond (.tmp 22) (.ops none [
  ⟨(some 23), none, .move (.tmp 3), .eff⟩,
  ⟨(some 24), none, .faddr 2 (.tmp 1), .eff⟩,
  ⟨(some 25), none, .load none (.tmp 24), .eff⟩,
  ⟨(some 26), none, .move (.tmp 4), .eff⟩,
  ⟨(some 27), none, .iaddr 5 none (.tmp 25) (.tmp 26), .eff⟩,
  ⟨(some 28), none, .faddr 0 (.tmp 27), .eff⟩,
  ⟨(some 29), none, .load none (.tmp 28), .eff⟩,
  ⟨(some 30), none, .build [(.int .i64 0), (.int .i64 0), (.int .i64 0)] [(0, 1, (.const (.int .i64 1))), (1, 1, (.tmp 29)), (2, 1, (.const (.int .i64 0)))], .eff⟩,
  ⟨(some 31), none, .bslice [(.int .i64 0), (.int .i64 0), (.int .i64 0)] 1 3 [(0, (.tmp 30))], .eff⟩,
  ⟨(some 32), none, .append 3 24 (.tmp 23) (.tmp 31), .eff⟩,
  ⟨(some 3), none, .move (.tmp 32), .eff⟩])
 .skip)))
 (.ops none [
  ⟨(some 12), none, .move (.tmp 4), .eff⟩,
  ⟨(some 13), none, .bin .add (.tmp 12) (.const (.int .i64 1)), .eff⟩,
  ⟨(some 4), none, .move (.tmp 13), .eff⟩]))))))
 (.seq (.seq (.ops none [
  ⟨(some 5), none, .move (.const (.int .i64 0)), .eff⟩])
 (.block 2 (.loop [1, 3, 5] (.seq (.seq (.ops none [
  ⟨(some 33), none, .move (.tmp 5), .eff⟩,
  ⟨(some 34), none, .faddr 4 (.tmp 1), .eff⟩,
  ⟨(some 35), none, .load none (.tmp 34), .eff⟩,
  ⟨(some 36), none, .len .slice (.tmp 35), .eff⟩,
  ⟨(some 37), none, .bin .lss (.tmp 33) (.tmp 36), .eff⟩])
 (.cond (.tmp 37) .skip
 (.exit 2)))
 (.seq (.block 3 (.seq (.ops none [
  ⟨(some 40), none, .move (.tmp 3), .eff⟩,
  ⟨(some 41), none, .faddr 4 (.tmp 1), .eff⟩,
  ⟨(some 42), none, .load none (.tmp 41), .eff⟩,
  ⟨(some 43), none, .move (.tmp 5), .eff⟩,
  ⟨(some 44), none, .iaddr 2 none (.tmp 42) (.tmp 43), .eff⟩,
  ⟨(some 45), none, .faddr 0 (.tmp 44), .eff⟩,
  ⟨(some 46), none, .load none (.tmp 45), .eff⟩,
  ⟨(some 47), none, .call 44 [(.tmp 40), (.const (.int .i64 2)), (.tmp 46)], .view⟩,
  ⟨(some 48), none, .bin .lss (.tmp 47) (.const (.int .i64 0)), .eff⟩])
 (.cond (.tmp 48) (.ops none [
  ⟨(some 49), none, .move (.tmp 3), .eff⟩,
  ⟨(some 50), none, .faddr 4 (.tmp 1), .eff⟩,
  ⟨(some 51), none, .load none (.tmp 50), .eff⟩,
  ⟨(some 52), none, .move (.tmp 5), .eff⟩,
  ⟨(some 53), none, .iaddr 2 none (.tmp 51) (.tmp 52), .eff⟩,
  ⟨(some 54), none, .faddr 0 (.tmp 53), .eff⟩,
  ⟨(some 55), none, .load none (.tmp 54), .eff⟩,
  ⟨(some 56), none, .build [(.int .i64 0), (.int .i64 0), (.int .i64 0)] [(0, 1, (.const (.int .i64 2))), (1, 1, (.tmp 55)), (2, 1, (.const (.int .i64 0)))], .eff⟩,
  ⟨(some 57), none, .bslice [(.int .i64 0), (.int .i64 0), (.int .i64 0)] 1 3 [(0, (.tmp 56))], .eff⟩,
  ⟨(some 58), none, .append 3 24 (.tmp 49) (.tmp 57), .eff⟩,
  ⟨(some 3), none, .move (.tmp 58), .eff⟩])
 .skip)))
 (.ops none [
  ⟨(some 38), none, .move (.tmp 5), .eff⟩,
  ⟨(some 39), none, .bin .add (.tmp 38) (.const (.int .i64 1)), .eff⟩,
  ⟨(some 5), none, .move (.tmp 39), .eff⟩]))))))
 (.seq (.seq (.ops none [
  ⟨(some 6), none, .move (.const (.int .i64 0)), .eff⟩])
 (.block 4 (.loop [1, 3, 6] (.seq (.seq (.ops none [
  ⟨(some 59), none, .move (.tmp 6), .eff⟩,
  ⟨(some 60), none, .faddr 5 (.tmp 1), .eff⟩,
  ⟨(some 61), none, .load none (.tmp 60), .eff⟩,
  ⟨(some 62), none, .len .slice (.tmp 61), .eff⟩,
  ⟨(some 63), none, .bin .lss (.tmp 59) (.tmp 62), .eff⟩])
 (.cond (.tmp 63) .skip
 (.exit 4)))
 (.seq (.block 5 (.seq (.ops none [
  ⟨(some 66), none, .move (.tmp 3), .eff⟩,
  ⟨(some 67), none, .faddr 5 (.tmp 1), .eff⟩,
  ⟨(some 68), none, .load none (.tmp 67), .eff⟩,
  ⟨(some 69), none, .move (.tmp 6), .eff⟩,
  ⟨(some 70), none, .iaddr 4 none (.tmp 68) (.tmp 69), .eff⟩,
  ⟨(some 71), none, .faddr 0 (.tmp 70), .eff⟩,
  ⟨(some 72), none, .load none (.tmp 71), .eff⟩,
  ⟨(some 73), none, .call 44 [(.tmp 66), (.const (.int .i64 3)), (.tmp 72)], .view⟩,
  ⟨(some 74), none, .bin .lss (.tmp 73) (.const (.int .i64 0)), .eff⟩])
 (.cond (.tmp 74) (.ops none [
  ⟨(some 75), none, .move (.tmp 3), .eff⟩,
  ⟨(some 76), none, .faddr 5 (.tmp 1), .eff⟩,
  ⟨(some 77), none, .load none (.tmp 76), .eff⟩,
  ⟨(some 78), none, .move (.tmp 6), .eff⟩,
  ⟨(some 79), none, .iaddr 4 none (.tmp 77) (.tmp 78), .eff⟩,
  ⟨(some 80), none, .faddr 0 (.tmp 79), .eff⟩,
  ⟨(some 81), none, .load none (.tmp 80), .eff⟩,
  ⟨(some 82), none, .build [(.int .i64 0), (.int .i64 0), (.int .i64 0)] [(0, 1, (.const (.int .i64 3))), (1, 1, (.tmp 81)), (2, 1, (.const (.int .i64 0)))], .eff⟩,
  ⟨(some 83), none, .bslice [(.int .i64 0), (.int .i64 0), (.int .i64 0)] 1 3 [(0, (.tmp 82))], .eff⟩,
  ⟨(some 84), none, .append 3 24 (.tmp 75) (.tmp 83), .eff⟩,
  ⟨(some 3), none, .move (.tmp 84), .eff⟩])
 .skip)))
 (.ops none [
  ⟨(some 64), none, .move (.tmp 6), .eff⟩,
  ⟨(some 65), none, .bin .add (.tmp 64) (.const (.int .i64 1)), .eff⟩,
  ⟨(some 6), none, .move (.tmp 65), .eff⟩]))))))
 (.seq (.ops none [
  ⟨(some 85), none, .move (.tmp 3), .eff⟩,
  ⟨(some 2), none, .move (.tmp 85), .eff⟩])
 .ret))))))⟩
set_option maxRecDepth 100000 in
theorem v32_ok : stripF (ttOf Try.prog) { hp := [], md := [(21, .view), (47, .view), (73, .view)], ks := [[1, 3, 4], [1, 3, 5], [1, 3, 6]] } Try.f32 = some v32 := by kernel_rfl
theorem n32_ok : (Try.f32.name == "runtime.NumGoroutine") = false := by kernel_rfl
def v33 : VFun := ⟨3, 195, [.tmp 6],
 (.seq (.ops none [
  ⟨(some 3), none, .box false (.tmp 0), .eff⟩,
  ⟨(some 4), none, .box false (.tmp 1), .eff⟩,
  ⟨(some 5), none, .box false (.tmp 2), .eff⟩,
  ⟨(some 6), none, .move (.const (.bool false)), .eff⟩])
 (.seq (.seq (.ops none [
  ⟨(some 14), none, .faddr 0 (.tmp 4), .eff⟩,
  ⟨(some 15), none, .load none (.tmp 14), .eff⟩])
 (.block 0 (.seq (.ops none [
  ⟨(some 62), none, .eqv false (.one (.int .i64)) (.tmp 15) (.const (.int .i64 1)), .eff⟩,
  ⟨(some 61), none, .move (.tmp 62), .eff⟩])
 (.cond (.tmp 61) (.seq (.seq (.ops none [
  ⟨(some 7), none, .move (.const (.int .i64 0)), .eff⟩])
 (.block 5 (.loop [3, 4, 5, 7] (.seq (.seq (.ops none [
  ⟨(some 63), none, .move (.tmp 7), .eff⟩,
  ⟨(some 64), none, .faddr 2 (.tmp 3), .eff⟩,
  ⟨(some 65), none, .load none (.tmp 64), .eff⟩,
  ⟨(some 66), none, .len .slice (.tmp 65), .eff⟩,
  ⟨(some 67), none, .bin .lss (.tmp 63) (.tmp 66), .eff⟩])
 (.cond (.tmp 67) .skip
 (.exit 5)))
 (.seq (.block 6 (.seq (.ops (some []) [
  ⟨(some 70), none, .faddr 2 (.tmp 3), .eff⟩,
  ⟨(some 71), none, .load none (.tmp 70), .eff⟩,
  ⟨(some 72), none, .move (.tmp 7), .eff⟩,
  ⟨(some 73), none, .iaddr 5 none (.tmp 71) (.tmp 72), .eff⟩,
  ⟨(some 74), none, .faddr 0 (.tmp 73), .eff⟩,
  ⟨(some 75), none, .load none (.tmp 74), .eff⟩,
  ⟨(some 76), none, .faddr 1 (.tmp 4), .eff⟩,
  ⟨(some 77), none, .load none (.tmp 76), .eff⟩,
  ⟨(some 78), none, .eqv false (.one (.int .i64)) (.tmp 75) (.tmp 77), .eff⟩])
 (.cond (.tmp 78) (.seq (.seq (.ops (some []) [
  ⟨(some 79), none, .faddr 0 (.tmp 5), .eff⟩,
  ⟨(some 80), none, .load none (.tmp 79), .eff⟩,
  ⟨(some 81), none, .eqv false (.one (.int .i64)) (.tmp 80) (.const (.int .i64 2)), .eff⟩,
  ⟨(some 82), none, .move (.tmp 81), .eff⟩,
  ⟨(some 83), (some (82, true)), .faddr 2 (.tmp 3), .eff⟩,
  ⟨(some 84), (some (82, true)), .load none (.tmp 83), .eff⟩,
  ⟨(some 85), (some (82, true)), .move (.tmp 7), .eff⟩,
  ⟨(some 86), (some (82, true)), .iaddr 5 none (.tmp 84) (.tmp 85), .eff⟩,
  ⟨(some 87), (some (82, true)), .faddr 4 (.tmp 86), .eff⟩,
  ⟨(some 88), (some (82, true)), .load none (.tmp 87), .eff⟩,
  ⟨(some 89), (some (82, true)), .faddr 1 (.tmp 5), .eff⟩,
  ⟨(some 90), (some (82, true)), .load none (.tmp 89), .eff⟩,
  ⟨(some 91), (some (82, true)), .eqv false (.one (.int .i64)) (.tmp 88) (.tmp 90), .eff⟩,
  ⟨(some 92), none, .pick (.tmp 82) (.tmp 91) (.const (.bool false)), .eff⟩])
 (.cond (.tmp 92) (.seq (.ops none [
  ⟨(some 6), none, .move (.const (.bool true)), .eff⟩])
 .ret)
 .skip))
 (.exit 5))
 .skip)))
 (.ops none [
  ⟨(some 68), none, .move (.tmp 7), .eff⟩,
  ⟨(some 69), none, .bin .add (.tmp 68) (.const (.int .i64 1)), .eff⟩,
  ⟨(some 7), none, .move (.tmp 69), .eff⟩]))))))
 (.seq (.ops none [
  ⟨(some 8), none, .move (.const (.int .i64 0)), .eff⟩])
 (.block 7 (.loop [3, 4, 5, 8] (.seq (.seq (.ops none [
  ⟨(some 93), none, .move (.tmp 8), .eff⟩,
  ⟨(some 94), none, .faddr 3 (.tmp 3), .eff⟩,
  ⟨(some 95), none, .load none (.tmp 94), .eff⟩,
  ⟨(some 96), none, .len .slice (.tmp 95), .eff⟩,
  ⟨(some 97), none, .bin .lss (.tmp 93) (.tmp 96), .eff⟩])
 (.cond (.tmp 97) .skip
 (.exit 7)))
 (.seq (.block 8 (.seq (.ops (some []) [
  ⟨(some 100), none, .faddr 3 (.tmp 3), .eff⟩,
  ⟨(some 101), none, .load none (.tmp 100), .eff⟩,
  ⟨(some 102), none, .move (.tmp 8), .eff⟩,
  ⟨(some 103), none, .iaddr 11 none (.tmp 101) (.tmp 102), .eff⟩,
  ⟨(some 104), none, .faddr 0 (.tmp 103), .eff⟩,
  ⟨(some 105), none, .load none (.tmp 104), .eff⟩,
  ⟨(some 106), none, .faddr 1 (.tmp 4), .eff⟩,
  ⟨(some 107), none, .load none (.tmp 106), .eff⟩,
  ⟨(some 108), none, .eqv false (.one (.int .i64)) (.tmp 105) (.tmp 107), .eff⟩,
  ⟨(some 109), none, .move (.tmp 108), .eff⟩,
  ⟨(some 110), (some (109, true)), .faddr 0 (.tmp 5), .eff⟩,
  ⟨(some 111), (some (109, true)), .load none (.tmp 110), .eff⟩,
  ⟨(some 112), (some (109, true)), .eqv false (.one (.int .i64)) (.tmp 111) (.const (.int .i64 2)), .eff⟩,
  ⟨(some 113), none, .pick (.tmp 109) (.tmp 112) (.const (.bool false)), .eff⟩,
  ⟨(some 114), none, .move (.tmp 113), .eff⟩,
  ⟨(some 115), (some (114, true)), .faddr 3 (.tmp 3), .eff⟩,
  ⟨(some 116), (some (114, true)), .load none (.tmp 115), .eff⟩,
  ⟨(some 117), (some (114, true)), .move (.tmp 8), .eff⟩,
  ⟨(some 118), (some (114, true)), .iaddr 11 none (.tmp 116) (.tmp 117), .eff⟩,
  ⟨(some 119), (some (114, true)), .faddr 5 (.tmp 118), .eff⟩,
  ⟨(some 120), (some (114, true)), .load none (.tmp 119), .eff⟩,
  ⟨(some 121), (some (114, true)), .faddr 1 (.tmp 5), .eff⟩,
  ⟨(some 122), (some (114, true)), .load none (.tmp 121), .eff⟩,
  ⟨(some 123), (some (114, true)), .eqv false (.one (.int .i64)) (.tmp 120) (.tmp 122), .eff⟩,
  ⟨(some 124), none, .pick (.tmp 114) (.tmp 123) (.const (.bool false)), .eff⟩])
 (.cond (.tmp 124) (.seq (.ops none [
  ⟨(some 6), none, .move (.const (.bool true)), .eff⟩])
 .ret)
 .skip)))
 (.ops none [
  ⟨(some 98), none, .move (.tmp 8), .eff⟩,
  ⟨(some 99), none, .bin .add (.tmp 98) (.const (.int .i64 1)), .eff⟩,
  ⟨(some 8), none, .move (.tmp 99), .eff⟩])))))))
 (.seq (.ops none [
  ⟨(some 126), none, .eqv false (.one (.int .i64)) (.tmp 15) (.const (.int .i64 2)), .eff⟩,
  ⟨(some 125), none, .move (.tmp 126), .eff⟩])
 (.cond (.tmp 125) (.seq (.ops none [
  ⟨(some 9), none, .move (.const (.int .i64 0)), .eff⟩])
 (.block 9 (.loop [3, 4, 5, 9] (.seq (.seq (.ops none [
  ⟨(some 127), none, .move (.tmp 9), .eff⟩,
  ⟨(some 128), none, .faddr 4 (.tmp 3), .eff⟩,
  ⟨(some 129), none, .load none (.tmp 128), .eff⟩,
  ⟨(some 130), none, .len .slice (.tmp 129), .eff⟩,
  ⟨(some 131), none, .bin .lss (.tmp 127) (.tmp 130), .eff⟩])
 (.cond (.tmp 131) .skip
 (.exit 9)))
 (.seq (.block 10 (.seq (.seq (.ops (some []) [
  ⟨(some 134), none, .faddr 4 (.tmp 3), .eff⟩,
  ⟨(some 135), none, .load none (.tmp 134), .eff⟩,
  ⟨(some 136), none, .move (.tmp 9), .eff⟩,
  ⟨(some 137), none, .iaddr 2 none (.tmp 135) (.tmp 136), .eff⟩,
  ⟨(some 138), none, .faddr 0 (.tmp 137), .eff⟩,
  ⟨(some 139), none, .load none (.tmp 138), .eff⟩,
  ⟨(some 140), none, .faddr 1 (.tmp 4), .eff⟩,
  ⟨(some 141), none, .load none (.tmp 140), .eff⟩,
  ⟨(some 142), none, .eqv true (.one (.int .i64)) (.tmp 139) (.tmp 141), .eff⟩])
 (.cond (.tmp 142) (.exit 10)
 .skip))
 (.seq (.seq (.ops none [
  ⟨(some 10), none, .move (.const (.int .i64 0)), .eff⟩])
 (.block 11 (.loop [3, 5, 9, 10] (.seq (.seq (.ops none [
  ⟨(some 143), none, .move (.tmp 10), .eff⟩,
  ⟨(some 144), none, .faddr 4 (.tmp 3), .eff⟩,
  ⟨(some 145), none, .load none (.tmp 144), .eff⟩,
  ⟨(some 146), none, .move (.tmp 9), .eff⟩,
  ⟨(some 147), none, .iaddr 2 none (.tmp 145) (.tmp 146), .eff⟩,
  ⟨(some 148), none, .faddr 1 (.tmp 147), .eff⟩,
  ⟨(some 149), none, .load none (.tmp 148), .eff⟩,
  ⟨(some 150), none, .len .slice (.tmp 149), .eff⟩,
  ⟨(some 151), none, .bin .lss (.tmp 143) (.tmp 150), .eff⟩])
 (.cond (.tmp 151) .skip
 (.exit 11)))
 (.seq (.block 12 (.seq (.ops none [
  ⟨(some 154), none, .faddr 4 (.tmp 3), .eff⟩,
  ⟨(some 155), none, .load none (.tmp 154), .eff⟩,
  ⟨(some 156), none, .move (.tmp 9), .eff⟩,
  ⟨(some 157), none, .iaddr 2 none (.tmp 155) (.tmp 156), .eff⟩,
  ⟨(some 158), none, .faddr 1 (.tmp 157), .eff⟩,
  ⟨(some 159), none, .load none (.tmp 158), .eff⟩,
  ⟨(some 160), none, .move (.tmp 10), .eff⟩,
  ⟨(some 161), none, .iaddr 7 none (.tmp 159) (.tmp 160), .eff⟩,
  ⟨(some 162), none, .load (some 7) (.tmp 161), .eff⟩,
  ⟨(some 11), none, .alloc false [(.int .u8 0), (.int .i64 0), (.int .u8 0), (.int .u64 0), (.int .u8 0), (.int .u64 0), (.int .i64 0)], .eff⟩,
  ⟨none, none, .store 7 (.tmp 11) (.tmp 162), .eff⟩])
 (.seq (.ops none [
  ⟨(some 163), none, .faddr 0 (.tmp 11), .eff⟩,
  ⟨(some 164), none, .load none (.tmp 163), .eff⟩,
  ⟨(some 165), none, .eqv false (.one (.int .u8)) (.tmp 164) (.const (.int .u8 13)), .eff⟩,
  ⟨(some 166), none, .move (.tmp 165), .eff⟩,
  ⟨(some 167), (some (166, true)), .faddr 0 (.tmp 5), .eff⟩,
  ⟨(some 168), (some (166, true)), .load none (.tmp 167), .eff⟩,
  ⟨(some 169), (some (166, true)), .eqv false (.one (.int .i64)) (.tmp 168) (.const (.int .i64 1)), .eff⟩,
  ⟨(some 170), none, .pick (.tmp 166) (.tmp 169) (.const (.bool false)), .eff⟩,
  ⟨(some 171), none, .move (.tmp 170), .eff⟩,
  ⟨(some 172), (some (171, true)), .faddr 6 (.tmp 11), .eff⟩,
  ⟨(some 173), (some (171, true)), .load none (.tmp 172), .eff⟩,
  ⟨(some 174), (some (171, true)), .faddr 1 (.tmp 5), .eff⟩,
  ⟨(some 175), (some (171, true)), .load none (.tmp 174), .eff⟩,
  ⟨(some 176), (some (171, true)), .eqv false (.one (.int .i64)) (.tmp 173) (.tmp 175), .eff⟩,
  ⟨(some 177), none, .pick (.tmp 171) (.tmp 176) (.const (.bool false)), .eff⟩,
  ⟨(some 178), none, .move (.tmp 177), .eff⟩,
  ⟨(some 179), (some (178, false)), .faddr 0 (.tmp 11), .eff⟩,
  ⟨(some 180), (some (178, false)), .load none (.tmp 179), .eff⟩,
  ⟨(some 181), (some (178, false)), .eqv false (.one (.int .u8)) (.tmp 180) (.const (.int .u8 14)), .eff⟩,
  ⟨(some 182), (some (178, false)), .move (.tmp 181), .eff⟩,
  ⟨(some 183), (some (182, true)), .faddr 0 (.tmp 5), .eff⟩,
  ⟨(some 184), (some (182, true)), .load none (.tmp 183), .eff⟩,
  ⟨(some 185), (some (182, true)), .eqv false (.one (.int .i64)) (.tmp 184) (.const (.int .i64 3)), .eff⟩,
  ⟨(some 186), (some (178, false)), .pick (.tmp 182) (.tmp 185) (.const (.bool false)), .eff⟩,
  ⟨(some 187), (some (178, false)), .move (.tmp 186), .eff⟩,
  ⟨(some 188), (some (187, true)), .faddr 6 (.tmp 11), .eff⟩,
  ⟨(some 189), (some (187, true)), .load none (.tmp 188), .eff⟩,
  ⟨(some 190), (some (187, true)), .faddr 1 (.tmp 5), .eff⟩,
  ⟨(some 191), (some (187, true)), .load none (.tmp 190), .eff⟩,
  ⟨(some 192), (some (187, true)), .eqv false (.one (.int .i64)) (.tmp 189) (.tmp 191), .eff⟩,
  ⟨(some 193), (some (178, false)), .pick (.tmp 187) (.tmp 192) (.const (.bool false)), .eff⟩,
  ⟨(some 194), none, .pick (.tmp 178) (.const (.bool true)) (.tmp 193), .eff⟩])
 (.cond (.tmp 194) (.seq (.ops none [
  ⟨(some 6), none, .move (.const (.bool true)), .eff⟩])
 .ret)
 .skip))))
 (.ops none [
  ⟨(some 152), none, .move (.tmp 10), .eff⟩,
  ⟨(some 153), none, .bin .add (.tmp 152) (.const (.int .i64 1)), .eff⟩,
  ⟨(some 10), none, .move (.tmp 153), .eff⟩]))))))
 (.exit 9))))
 (.ops none [
  ⟨(some 132), none, .move (.tmp 9), .eff⟩,
  ⟨(some 133), none, .bin .add (.tmp 132) (.const (.int .i64 1)), .eff⟩,
  ⟨(some 9), none, .move (.tmp 133), .eff⟩]))))))
 (.seq (.ops none [
  ⟨(some 12), none, .move (.const (.int .i64 0)), .eff⟩])
 (.block 1 (.loop [3, 4, 5, 12] (.seq (.seq (.ops none [
  ⟨(some 16), none, .move (.tmp 12), .eff⟩,
  ⟨(some 17), none, .faddr 5 (.tmp 3), .eff⟩,
  ⟨(some 18), none, .load none (.tmp 17), .eff⟩,
  ⟨(some 19), none, .len .slice (.tmp 18), .eff⟩,
  ⟨(some 20), none, .bin .lss (.tmp 16) (.tmp 19), .eff⟩])
 (.cond (.tmp 20) .skip
 (.exit 1)))
 (.seq (.block 2 (.seq (.seq (.ops (some []) [
  ⟨(some 23), none, .faddr 5 (.tmp 3), .eff⟩,
  ⟨(some 24), none, .load none (.tmp 23), .eff⟩,
  ⟨(some 25), none, .move (.tmp 12), .eff⟩,
  ⟨(some 26), none, .iaddr 4 none (.tmp 24) (.tmp 25), .eff⟩,
  ⟨(some 27), none, .faddr 0 (.tmp 26), .eff⟩,
  ⟨(some 28), none, .load none (.tmp 27), .eff⟩,
  ⟨(some 29), none, .faddr 1 (.tmp 4), .eff⟩,
  ⟨(some 30), none, .load none (.tmp 29), .eff⟩,
  ⟨(some 31), none, .eqv true (.one (.int .i64)) (.tmp 28) (.tmp 30), .eff⟩])
 (.cond (.tmp 31) (.exit 2)
 .skip))
 (.seq (.seq (.ops none [
  ⟨(some 13), none, .move (.const (.int .i64 0)), .eff⟩])
 (.block 3 (.loop [3, 5, 12, 13] (.seq (.seq (.ops none [
  ⟨(some 32), none, .move (.tmp 13), .eff⟩,
  ⟨(some 33), none, .faddr 5 (.tmp 3), .eff⟩,
  ⟨(some 34), none, .load none (.tmp 33), .eff⟩,
  ⟨(some 35), none, .move (.tmp 12), .eff⟩,
  ⟨(some 36), none, .iaddr 4 none (.tmp 34) (.tmp 35), .eff⟩,
  ⟨(some 37), none, .faddr 3 (.tmp 36), .eff⟩,
  ⟨(some 38), none, .load none (.tmp 37), .eff⟩,
  ⟨(some 39), none, .len .slice (.tmp 38), .eff⟩,
  ⟨(some 40), none, .bin .lss (.tmp 32) (.tmp 39), .eff⟩])
 (.cond (.tmp 40) .skip
 (.exit 3)))
 (.seq (.block 4 (.seq (.ops (some []) [
  ⟨(some 43), none, .faddr 0 (.tmp 5), .eff⟩,
  ⟨(some 44), none, .load none (.tmp 43), .eff⟩,
  ⟨(some 45), none, .eqv false (.one (.int .i64)) (.tmp 44) (.const (.int .i64 2)), .eff⟩,
  ⟨(some 46), none, .move (.tmp 45), .eff⟩,
  ⟨(some 47), (some (46, true)), .faddr 5 (.tmp 3), .eff⟩,
  ⟨(some 48), (some (46, true)), .load none (.tmp 47), .eff⟩,
  ⟨(some 49), (some (46, true)), .move (.tmp 12), .eff⟩,
  ⟨(some 50), (some (46, true)), .iaddr 4 none (.tmp 48) (.tmp 49), .eff⟩,
  ⟨(some 51), (some (46, true)), .faddr 3 (.tmp 50), .eff⟩,
  ⟨(some 52), (some (46, true)), .load none (.tmp 51), .eff⟩,
  ⟨(some 53), (some (46, true)), .move (.tmp 13), .eff⟩,
  ⟨(some 54), (some (46, true)), .iaddr 2 none (.tmp 52) (.tmp 53), .eff⟩,
  ⟨(some 55), (some (46, true)), .faddr 1 (.tmp 54), .eff⟩,
  ⟨(some 56), (some (46, true)), .load none (.tmp 55), .eff⟩,
  ⟨(some 57), (some (46, true)), .faddr 1 (.tmp 5), .eff⟩,
  ⟨(some 58), (some (46, true)), .load none (.tmp 57), .eff⟩,
  ⟨(some 59), (some (46, true)), .eqv false (.one (.int .i64)) (.tmp 56) (.tmp 58), .eff⟩,
  ⟨(some 60), none, .pick (.tmp 46) (.tmp 59) (.const (.bool false)), .eff⟩])
 (.cond (.tmp 60) (.seq (.ops none [
  ⟨(some 6), none, .move (.const (.bool true)), .eff⟩])
 .ret)
 .skip)))
 (.ops none [
  ⟨(some 41), none, .move (.tmp 13), .eff⟩,
  ⟨(some 42), none, .bin .add (.tmp 41) (.const (.int .i64 1)), .eff⟩,
  ⟨(some 13), none, .move (.tmp 42), .eff⟩]))))))
 (.exit 1))))
 (.ops none [
  ⟨(some 21), none, .move (.tmp 12), .eff⟩,
  ⟨(some 22), none, .bin .add (.tmp 21) (.const (.int .i64 1)), .eff⟩,
  ⟨(some 12), none, .move (.tmp 22), .eff⟩]))))))))))))
 (.seq (.ops none [
  ⟨(some 6), none, .move (.const (.bool false)), .eff⟩])
 .ret)))⟩
set_option maxRecDepth 100000 in
theorem v33_ok : stripF (ttOf Try.prog) { hp := [], md := [], ks := [[3, 4, 5, 7], [3, 4, 5, 8], [3, 4, 5, 9], [3, 5, 9, 10], [3, 4, 5, 12], [3, 5, 12, 13]] } Try.f33 = some v33 := by kernel_rfl
theorem n33_ok : (Try.f33.name == "runtime.NumGoroutine") = false := by kernel_rfl
def v34 : VFun := ⟨2, 14, [.tmp 4, .tmp 5],
 (.seq (.ops none [
  ⟨(some 2), none, .box false (.tmp 0), .eff⟩,
  ⟨(some 3), none, .box false (.tmp 1), .eff⟩,
  ⟨(some 4), none, .move (.const (.int .i64 0)), .eff⟩,
  ⟨(some 5), none, .move (.const (.int .i64 0)), .eff⟩])
 (.seq (.ops none [
  ⟨(some 7), none, .load (some 9) (.tmp 2), .eff⟩,
  ⟨(some 8), none, .call 30 [(.tmp 7)], .pure⟩,
  ⟨(some 6), none, .move (.tmp 8), .eff⟩])
 (.seq (.seq (.ops none [
  ⟨(some 9), none, .move (.tmp 6), .eff⟩,
  ⟨(some 10), none, .call 31 [(.tmp 9)], .view⟩])
 (.cond (.tmp 10) (.seq (.ops none [
  ⟨(some 4), none, .move (.const (.int .i64 0)), .eff⟩,
  ⟨(some 5), none, .move (.const (.int .i64 10)), .eff⟩])
 .ret)
 .skip))
 (.seq (.ops none [
  ⟨(some 11), none, .move (.tmp 6), .eff⟩,
  ⟨(some 12), none, .load (some 2) (.tmp 3), .eff⟩,
  ⟨(some 13), none, .call 45 [(.tmp 11), (.tmp 12)], .view⟩,
  ⟨(some 4), none, .move (.tmp 13), .eff⟩,
  ⟨(some 5), none, .move (.const (.int .i64 0)), .eff⟩])
 .ret))))⟩
set_option maxRecDepth 100000 in
theorem v34_ok : stripF (ttOf Try.prog) { hp := [], md := [(8, .pure), (10, .view), (13, .view)], ks := [] } Try.f34 = some v34 := by kernel_rfl
theorem n34_ok : (Try.f34.name == "runtime.NumGoroutine") = false := by kernel_rfl
def v35 : VFun := ⟨3, 15, [.tmp 6, .tmp 7],
 (.seq (.ops none [
  ⟨(some 3), none, .box false (.tmp 0), .eff⟩,
  ⟨(some 6), none, .move (.const (.int .i64 0)), .eff⟩,
  ⟨(some 7), none, .move (.const (.int .i64 0)), .eff⟩])
 (.seq (.seq (.ops none [
  ⟨(some 8), none, .load (some 9) (.tmp 3), .eff⟩,
  ⟨(some 9), none, .call 15 [(.tmp 8)], .view⟩])
 (.cond (.tmp 9) (.seq (.ops none [
  ⟨(some 6), none, .move (.const (.int .i64 0)), .eff⟩,
  ⟨(some 7), none, .move (.const (.int .i64 10)), .eff⟩])
 .ret)
 .skip))
 (.seq (.ops none [
  ⟨(some 10), none, .load (some 9) (.tmp 3), .eff⟩,
  ⟨(some 11), none, .call 47 [(.tmp 10)], .pure⟩,
  ⟨(some 12), none, .move (.tmp 1), .eff⟩,
  ⟨(some 13), none, .move (.tmp 2), .eff⟩,
  ⟨(some 14), none, .call 46 [(.tmp 11), (.tmp 12), (.tmp 13)], .view⟩,
  ⟨(some 6), none, .move (.tmp 14), .eff⟩,
  ⟨(some 7), none, .move (.const (.int .i64 0)), .eff⟩])
 .ret)))⟩
set_option maxRecDepth 100000 in
theorem v35_ok : stripF (ttOf Try.prog) { hp := [], md := [(9, .view), (11, .pure), (14, .view)], ks := [] } Try.f35 = some v35 := by kernel_rfl
theorem n35_ok : (Try.f35.name == "runtime.NumGoroutine") = false := by kernel_rfl
def v36 : VFun := ⟨2, 40, [.tmp 4],
 (.seq (.ops none [
  ⟨(some 4), none, .move (.const (.int .i64 0)), .eff⟩])
 (.seq (.seq (.ops (some []) [
  ⟨(some 5), none, .move (.tmp 0), .eff⟩,
  ⟨(some 6), none, .nilck (.tmp 5), .eff⟩,
  ⟨(some 7), none, .faddr 10 (.tmp 6), .eff⟩,
  ⟨(some 8), none, .load none (.tmp 7), .eff⟩,
  ⟨(some 9), none, .move (.tmp 0), .eff⟩,
  ⟨(some 10), none, .nilck (.tmp 9), .eff⟩,
  ⟨(some 11), none, .faddr 9 (.tmp 10), .eff⟩,
  ⟨(some 12), none, .load none (.tmp 11), .eff⟩,
  ⟨(some 13), none, .len .slice (.tmp 12), .eff⟩,
  ⟨(some 14), none, .bin .geq (.tmp 8) (.tmp 13), .eff⟩,
  ⟨(some 15), none, .move (.tmp 14), .eff⟩,
  ⟨(some 16), (some (15, false)), .move (.tmp 1), .eff⟩,
  ⟨(some 17), (some (15, false)), .eqv false (.one (.int .i64)) (.tmp 16) (.const (.int .i64 0)), .eff⟩,
  ⟨(some 18), none, .pick (.tmp 15) (.const (.bool true)) (.tmp 17), .eff⟩])
 (.cond (.tmp 18) (.seq (.ops none [
  ⟨(some 4), none, .move (.const (.int .i64 0)), .eff⟩])
 .ret)
 .skip))
 (.seq (.ops none [
  ⟨(some 19), none, .move (.tmp 0), .eff⟩,
  ⟨(some 20), none, .nilck (.tmp 19), .eff⟩,
  ⟨(some 21), none, .faddr 10 (.tmp 20), .eff⟩,
  ⟨(some 22), none, .load none (.tmp 21), .eff⟩,
  ⟨(some 23), none, .bin .add (.tmp 22) (.const (.int .i64 1)), .eff⟩,
  ⟨(some 24), none, .nilck (.tmp 19), .eff⟩,
  ⟨(some 25), none, .faddr 10 (.tmp 24), .eff⟩,
  ⟨none, none, .store 1 (.tmp 25) (.tmp 23), .eff⟩])
 (.seq (.ops (some []) [
  ⟨(some 26), none, .move (.tmp 0), .eff⟩,
  ⟨(some 27), none, .nilck (.tmp 26), .eff⟩,
  ⟨(some 28), none, .faddr 9 (.tmp 27), .eff⟩,
  ⟨(some 29), none, .load none (.tmp 28), .eff⟩,
  ⟨(some 30), none, .move (.tmp 0), .eff⟩,
  ⟨(some 31), none, .nilck (.tmp 30), .eff⟩,
  ⟨(some 32), none, .faddr 10 (.tmp 31), .eff⟩,
  ⟨(some 33), none, .load none (.tmp 32), .eff⟩,
  ⟨(some 34), none, .bin .sub (.tmp 33) (.const (.int .i64 1)), .eff⟩,
  ⟨(some 35), none, .iaddr 1 none (.tmp 29) (.tmp 34), .eff⟩,
  ⟨(some 36), none, .load none (.tmp 35), .eff⟩,
  ⟨(some 37), none, .cvt (.int .i64) (.tmp 36), .eff⟩,
  ⟨(some 38), none, .move (.tmp 1), .eff⟩,
  ⟨(some 39), none, .bin .rem (.tmp 37) (.tmp 38), .eff⟩,
  ⟨(some 4), none, .move (.tmp 39), .eff⟩])
 .ret))))⟩
set_option maxRecDepth 100000 in
theorem v36_ok : stripF (ttOf Try.prog) { hp := [], md := [], ks := [] } Try.f36 = some v36 := by kernel_rfl
theorem n36_ok : (Try.f36.name == "runtime.NumGoroutine") = false := by kernel_rfl
def v37 : VFun := ⟨2, 78, [.tmp 4],
 (.seq (.ops none [
  ⟨(some 4), none, .move (.const (.int .i64 0)), .eff⟩])
 (.seq (.seq (.ops none [
  ⟨(some 5), none, .move (.const (.int .i64 0)), .eff⟩])
 (.block 0 (.loop [0, 1, 5] (.seq (.seq (.ops none [
  ⟨(some 9), none, .move (.tmp 5), .eff⟩,
  ⟨(some 10), none, .move (.tmp 0), .eff⟩,
  ⟨(some 11), none, .nilck (.tmp 10), .eff⟩,
  ⟨(some 12), none, .faddr 0 (.tmp 11), .eff⟩,
  ⟨(some 13), none, .faddr 5 (.tmp 12), .eff⟩,
  ⟨(some 14), none, .load none (.tmp 13), .eff⟩,
  ⟨(some 15), none, .len .slice (.tmp 14), .eff⟩,
  ⟨(some 16), none, .bin .lss (.tmp 9) (.tmp 15), .eff⟩])
 (.cond (.tmp 16) .skip
 (.exit 0)))
 (.seq (.block 1 (.seq (.ops none [
  ⟨(some 19), none, .move (.tmp 0), .eff⟩,
  ⟨(some 20), none, .nilck (.tmp 19), .eff⟩,
  ⟨(some 21), none, .faddr 0 (.tmp 20), .eff⟩,
  ⟨(some 22), none, .faddr 5 (.tmp 21), .eff⟩,
  ⟨(some 23), none, .load none (.tmp 22), .eff⟩,
  ⟨(some 24), none, .move (.tmp 5), .eff⟩,
  ⟨(some 25), none, .iaddr 4 none (.tmp 23) (.tmp 24), .eff⟩,
  ⟨(some 26), none, .load (some 4) (.tmp 25), .eff⟩,
  ⟨(some 6), none, .alloc false [(.int .i64 0), (.int .u8 0), (.int .i64 0), .nils], .eff⟩,
  ⟨none, none, .store 4 (.tmp 6) (.tmp 26), .eff⟩])
 (.seq (.seq (.ops none [
  ⟨(some 27), none, .faddr 0 (.tmp 6), .eff⟩,
  ⟨(some 28), none, .load none (.tmp 27), .eff⟩,
  ⟨(some 29), none, .move (.tmp 1), .eff⟩,
  ⟨(some 30), none, .eqv true (.one (.int .i64)) (.tmp 28) (.tmp 29), .eff⟩,
  ⟨(some 31), none, .move (.tmp 30), .eff⟩,
  ⟨(some 32), (some (31, false)), .faddr 3 (.tmp 6), .eff⟩,
  ⟨(some 33), (some (31, false)), .load none (.tmp 32), .eff⟩,
  ⟨(some 34), (some (31, false)), .len .slice (.tmp 33), .eff⟩,
  ⟨(some 35), (some (31, false)), .eqv false (.one (.int .i64)) (.tmp 34) (.const (.int .i64 0)), .eff⟩,
  ⟨(some 36), none, .pick (.tmp 31) (.const (.bool true)) (.tmp 35), .eff⟩])
 (.cond (.tmp 36) (.seq (.seq (.ops none [
  ⟨(some 37), none, .faddr 0 (.tmp 6), .eff⟩,
  ⟨(some 38), none, .load none (.tmp 37), .eff⟩,
  ⟨(some 39), none, .move (.tmp 1), .eff⟩,
  ⟨(some 40), none, .eqv false (.one (.int .i64)) (.tmp 38) (.tmp 39), .eff⟩])
 (.cond (.tmp 40) (.seq (.ops none [
  ⟨(some 4), none, .move (.const (.int .i64 0)), .eff⟩])
 .ret)
 .skip))
 (.exit 1))
 .skip))
 (.seq (.seq (.ops none [
  ⟨(some 41), none, .faddr 1 (.tmp 6), .eff⟩,
  ⟨(some 42), none, .load none (.tmp 41), .eff⟩,
  ⟨(some 43), none, .eqv true (.one (.int .u8)) (.tmp 42) (.const (.int .u8 1)), .eff⟩])
 (.cond (.tmp 43) (.seq (.ops (some [(2, 7)]) [
  ⟨(some 44), none, .move (.tmp 0), .eff⟩,
  ⟨(some 45), none, .faddr 3 (.tmp 6), .eff⟩,
  ⟨(some 46), none, .load none (.tmp 45), .eff⟩,
  ⟨(some 47), none, .move (.tmp 0), .eff⟩,
  ⟨(some 48), none, .faddr 3 (.tmp 6), .eff⟩,
  ⟨(some 49), none, .load none (.tmp 48), .eff⟩,
  ⟨(some 50), none, .len .slice (.tmp 49), .eff⟩,
  ⟨(some 51), none, .call 36 [(.tmp 47), (.tmp 50)], .eff⟩,
  ⟨(some 52), none, .iaddr 2 none (.tmp 46) (.tmp 51), .eff⟩,
  ⟨(some 53), none, .faddr 1 (.tmp 52), .eff⟩,
  ⟨(some 54), none, .load none (.tmp 53), .eff⟩,
  ⟨(some 55), none, .call 26 [(.tmp 44), (.tmp 54)], .eff⟩,
  ⟨(some 4), none, .move (.tmp 55), .eff⟩])
 .ret)
 .skip))
 (.seq (.ops none [
  ⟨(some 7), none, .move (.const (.int .i64 0)), .eff⟩])
 (.seq (.seq (.ops none [
  ⟨(some 8), none, .move (.const (.int .i64 0)), .eff⟩])
 (.block 2 (.loop [0, 6, 7, 8] (.seq (.seq (.ops none [
  ⟨(some 56), none, .move (.tmp 8), .eff⟩,
  ⟨(some 57), none, .faddr 3 (.tmp 6), .eff⟩,
  ⟨(some 58), none, .load none (.tmp 57), .eff⟩,
  ⟨(some 59), none, .len .slice (.tmp 58), .eff⟩,
  ⟨(some 60), none, .bin .lss (.tmp 56) (.tmp 59), .eff⟩,
  ⟨(some 61), none, .move (.tmp 60), .eff⟩,
  ⟨(some 62), (some (61, true)), .move (.tmp 7), .eff⟩,
  ⟨(some 63), (some (61, true)), .bin .lss (.tmp 62) (.const (.int .i64 70000)), .eff⟩,
  ⟨(some 64), none, .pick (.tmp 61) (.tmp 63) (.const (.bool false)), .eff⟩])
 (.cond (.tmp 64) .skip
 (.exit 2)))
 (.seq (.block 3 (.ops none [
  ⟨(some 67), none, .move (.tmp 7), .eff⟩,
  ⟨(some 68), none, .move (.tmp 0), .eff⟩,
  ⟨(some 69), none, .faddr 3 (.tmp 6), .eff⟩,
  ⟨(some 70), none, .load none (.tmp 69), .eff⟩,
  ⟨(some 71), none, .move (.tmp 8), .eff⟩,
  ⟨(some 72), none, .iaddr 2 none (.tmp 70) (.tmp 71), .eff⟩,
  ⟨(some 73), none, .faddr 1 (.tmp 72), .eff⟩,
  ⟨(some 74), none, .load none (.tmp 73), .eff⟩,
  ⟨(some 75), none, .call 26 [(.tmp 68), (.tmp 74)], .eff⟩,
  ⟨(some 76), none, .bin .add (.tmp 67) (.tmp 75), .eff⟩,
  ⟨(some 7), none, .move (.tmp 76), .eff⟩]))
 (.ops none [
  ⟨(some 65), none, .move (.tmp 8), .eff⟩,
  ⟨(some 66), none, .bin .add (.tmp 65) (.const (.int .i64 1)), .eff⟩,
  ⟨(some 8), none, .move (.tmp 66), .eff⟩]))))))
 (.seq (.ops none [
  ⟨(some 77), none, .move (.tmp 7), .eff⟩,
  ⟨(some 4), none, .move (.tmp 77), .eff⟩])
 .ret)))))))
 (.ops none [
  ⟨(some 17), none, .move (.tmp 5), .eff⟩,
  ⟨(some 18), none, .bin .add (.tmp 17) (.const (.int .i64 1)), .eff⟩,
  ⟨(some 5), none, .move (.tmp 18), .eff⟩]))))))
 (.seq (.ops none [
  ⟨(some 4), none, .move (.const (.int .i64 0)), .eff⟩])
 .ret)))⟩
set_option maxRecDepth 100000 in
theorem v37_ok : stripF (ttOf Try.prog) { hp := [], md := [], ks := [[0, 1, 5], [0, 6, 7, 8]] } Try.f37 = some v37 := by kernel_rfl
theorem n37_ok : (Try.f37.name == "runtime.NumGoroutine") = false := by kernel_rfl
def v38 : VFun := ⟨1, 24, [.tmp 2],
 (.seq (.ops none [
  ⟨(some 2), none, .move (.const (.int .i64 0)), .eff⟩])
 (.seq (.block 0 (.seq (.ops none [
  ⟨(some 6), none, .move (.tmp 0), .eff⟩,
  ⟨(some 7), none, .call 48 [(.tmp 6)], .view⟩,
  ⟨(some 8), none, .un .not (.tmp 7), .eff⟩,
  ⟨(some 5), none, .move (.tmp 8), .eff⟩])
 (.cond (.tmp 5) (.seq (.ops none [
  ⟨(some 2), none, .move (.const (.int .i64 3)), .eff⟩])
 .ret)
 (.seq (.ops none [
  ⟨(some 10), none, .move (.tmp 0), .eff⟩,
  ⟨(some 11), none, .len .slice (.tmp 10), .eff⟩,
  ⟨(some 12), none, .bin .gtr (.tmp 11) (.const (.int .i64 32)), .eff⟩,
  ⟨(some 9), none, .move (.tmp 12), .eff⟩])
 (.cond (.tmp 9) (.seq (.ops none [
  ⟨(some 2), none, .move (.const (.int .i64 12)), .eff⟩])
 .ret)
 (.seq (.ops none [
  ⟨(some 14), none, .move (.tmp 0), .eff⟩,
  ⟨(some 15), none, .call 49 [(.tmp 14)], .view⟩,
  ⟨(some 16), none, .un .not (.tmp 15), .eff⟩,
  ⟨(some 13), none, .move (.tmp 16), .eff⟩])
 (.cond (.tmp 13) (.seq (.ops none [
  ⟨(some 2), none, .move (.const (.int .i64 8)), .eff⟩])
 .ret)
 .skip)))))))
 (.seq (.seq (.ops none [
  ⟨(some 18), none, .move (.tmp 0), .eff⟩,
  ⟨(some 19), none, .call 39 [(.tmp 18)], .eff⟩,
  ⟨(some 17), none, .move (.tmp 19), .eff⟩,
  ⟨(some 20), none, .ext (.tmp 17) 0, .eff⟩,
  ⟨(some 21), none, .ext (.tmp 17) 1, .eff⟩,
  ⟨(some 3), none, .move (.tmp 20), .eff⟩,
  ⟨(some 4), none, .move (.tmp 21), .eff⟩])
 (.seq (.ops none [
  ⟨(some 22), none, .move (.tmp 4), .eff⟩,
  ⟨(some 23), none, .un .not (.tmp 22), .eff⟩])
 (.cond (.tmp 23) (.seq (.ops none [
  ⟨(some 2), none, .move (.const (.int .i64 10)), .eff⟩])
 .ret)
 .skip)))
 (.seq (.ops none [
  ⟨(some 2), none, .move (.const (.int .i64 0)), .eff⟩])
 .ret))))⟩
set_option maxRecDepth 100000 in
theorem v38_ok : stripF (ttOf Try.prog) { hp := [], md := [(7, .view), (15, .view)], ks := [] } Try.f38 = some v38 := by kernel_rfl
theorem n38_ok : (Try.f38.name == "runtime.NumGoroutine") = false := by kernel_rfl
def v39 : VFun := ⟨1, 26, [.tmp 2, .tmp 3],
 (.seq (.ops none [
  ⟨(some 1), none, .box true (.tmp 0), .eff⟩,
  ⟨(some 2), none, .move (.const .nilFunc), .eff⟩,
  ⟨(some 3), none, .move (.const (.bool false)), .eff⟩])
 (.seq (.ops none [
  ⟨(some 10), none, .mkmap, .eff⟩,
  ⟨(some 11), none, .mkmap, .eff⟩,
  ⟨(some 4), none, .alloc true [.nilm], .eff⟩,
  ⟨(some 5), none, .alloc true [.nilm], .eff⟩,
  ⟨none, none, .store 1 (.tmp 4) (.tmp 10), .eff⟩,
  ⟨none, none, .store 1 (.tmp 5) (.tmp 11), .eff⟩])
 (.seq (.ops none [
  ⟨(some 6), none, .alloc true [(.bool false)], .eff⟩,
  ⟨none, none, .store 1 (.tmp 6) (.const (.bool true)), .eff⟩])
 (.seq (.ops none [
  ⟨(some 7), none, .alloc true [.nilf], .eff⟩])
 (.seq (.ops none [
  ⟨(some 12), none, .mkfn (.func 50) [] [(.tmp 1), (.tmp 5), (.tmp 6), (.tmp 4), (.tmp 7)], .eff⟩,
  ⟨none, none, .store 1 (.tmp 7) (.tmp 12), .eff⟩])
 (.seq (.seq (.ops none [
  ⟨(some 13), none, .load none (.tmp 1), .eff⟩,
  ⟨(some 14), none, .len .slice (.tmp 13), .eff⟩,
  ⟨(some 15), none, .move (.const (.int .i64 0)), .eff⟩])
 (.block 0 (.loop [6, 7, 13, 14, 15] (.seq (.ops none [
  ⟨(some 16), none, .bin .lss (.tmp 15) (.tmp 14), .eff⟩])
 (.seq (.cond (.tmp 16) .skip
 (.exit 0))
 (.seq (.block 1 (.seq (.ops none [
  ⟨(some 17), none, .iaddr 9 none (.tmp 13) (.tmp 15), .eff⟩,
  ⟨(some 18), none, .load (some 9) (.tmp 17), .eff⟩,
  ⟨(some 9), none, .alloc false [(.int .i64 0), (.int .i64 0), (.int .i64 0), (.int .i64 0), (.int .i64 0), (.int .i64 0), (.int .i64 0), .nils, (.int .i64 0)], .eff⟩,
  ⟨none, none, .store 9 (.tmp 9) (.tmp 18), .eff⟩])
 (.ops none [
  ⟨(some 19), none, .load none (.tmp 7), .eff⟩,
  ⟨(some 20), none, .faddr 0 (.tmp 9), .eff⟩,
  ⟨(some 21), none, .load none (.tmp 20), .eff⟩,
  ⟨(some 22), none, .callv (.tmp 19) [(.tmp 21)], .eff⟩])))
 (.ops none [
  ⟨(some 23), none, .bin .add (.tmp 15) (.const (.int .i64 1)), .eff⟩,
  ⟨(some 15), none, .move (.tmp 23), .eff⟩])))))))
 (.seq (.ops (some []) [
  ⟨(some 24), none, .load none (.tmp 7), .eff⟩,
  ⟨(some 25), none, .load none (.tmp 6), .eff⟩,
  ⟨(some 2), none, .move (.tmp 24), .eff⟩,
  ⟨(some 3), none, .move (.tmp 25), .eff⟩])
 .ret)))))))⟩
set_option maxRecDepth 100000 in
theorem v39_ok : stripF (ttOf Try.prog) { hp := [1, 4, 5, 6, 7], md := [], ks := [[6, 7, 13, 14, 15]] } Try.f39 = some v39 := by kernel_rfl
theorem n39_ok : (Try.f39.name == "runtime.NumGoroutine") = false := by kernel_rfl
def v40 : VFun := ⟨1, 104, [.tmp 2],
 (.seq (.ops none [
  ⟨(some 2), none, .move (.const (.int .i64 0)), .eff⟩])
 (.seq (.seq (.ops none [
  ⟨(some 3), none, .move (.const (.int .i64 0)), .eff⟩])
 (.block 0 (.loop [0, 3] (.seq (.seq (.ops none [
  ⟨(some 11), none, .move (.tmp 3), .eff⟩,
  ⟨(some 12), none, .move (.tmp 0), .eff⟩,
  ⟨(some 13), none, .len .slice (.tmp 12), .eff⟩,
  ⟨(some 14), none, .bin .lss (.tmp 11) (.tmp 13), .eff⟩])
 (.cond (.tmp 14) .skip
 (.exit 0)))
 (.seq (.block 1 (.seq (.ops (some []) [
  ⟨(some 17), none, .move (.tmp 0), .eff⟩,
  ⟨(some 18), none, .move (.tmp 3), .eff⟩,
  ⟨(some 19), none, .iaddr 9 none (.tmp 17) (.tmp 18), .eff⟩,
  ⟨(some 20), none, .load (some 9) (.tmp 19), .eff⟩,
  ⟨(some 21), none, .call 53 [(.tmp 20)], .view⟩,
  ⟨(some 22), none, .un .not (.tmp 21), .eff⟩,
  ⟨(some 23), none, .move (.tmp 22), .eff⟩,
  ⟨(some 24), (some (23, false)), .move (.tmp 3), .eff⟩,
  ⟨(some 25), (some (23, false)), .bin .gtr (.tmp 24) (.const (.int .i64 0)), .eff⟩,
  ⟨(some 26), (some (23, false)), .move (.tmp 25), .eff⟩,
  ⟨(some 27), (some (26, true)), .move (.tmp 0), .eff⟩,
  ⟨(some 28), (some (26, true)), .move (.tmp 3), .eff⟩,
  ⟨(some 29), (some (26, true)), .iaddr 9 none (.tmp 27) (.tmp 28), .eff⟩,
  ⟨(some 30), (some (26, true)), .faddr 0 (.tmp 29), .eff⟩,
  ⟨(some 31), (some (26, true)), .load none (.tmp 30), .eff⟩,
  ⟨(some 32), (some (26, true)), .move (.tmp 0), .eff⟩,
  ⟨(some 33), (some (26, true)), .move (.tmp 3), .eff⟩,
  ⟨(some 34), (some (26, true)), .bin .sub (.tmp 33) (.const (.int .i64 1)), .eff⟩,
  ⟨(some 35), (some (26, true)), .iaddr 9 none (.tmp 32) (.tmp 34), .eff⟩,
  ⟨(some 36), (some (26, true)), .faddr 0 (.tmp 35), .eff⟩,
  ⟨(some 37), (some (26, true)), .load none (.tmp 36), .eff⟩,
  ⟨(some 38), (some (26, true)), .bin .leq (.tmp 31) (.tmp 37), .eff⟩,
  ⟨(some 39), (some (23, false)), .pick (.tmp 26) (.tmp 38) (.const (.bool false)), .eff⟩,
  ⟨(some 40), none, .pick (.tmp 23) (.const (.bool true)) (.tmp 39), .eff⟩])
 (.cond (.tmp 40) (.seq (.ops none [
  ⟨(some 2), none, .move (.const (.int .i64 3)), .eff⟩])
 .ret)
 .skip)))
 (.ops none [
  ⟨(some 15), none, .move (.tmp 3), .eff⟩,
  ⟨(some 16), none, .bin .add (.tmp 15) (.const (.int .i64 1)), .eff⟩,
  ⟨(some 3), none, .move (.tmp 16), .eff⟩]))))))
 (.seq (.seq (.ops none [
  ⟨(some 41), none, .move (.tmp 0), .eff⟩,
  ⟨(some 42), none, .len .slice (.tmp 41), .eff⟩,
  ⟨(some 43), none, .bin .gtr (.tmp 42) (.const (.int .i64 32)), .eff⟩])
 (.cond (.tmp 43) (.seq (.ops none [
  ⟨(some 2), none, .move (.const (.int .i64 12)), .eff⟩])
 .ret)
 .skip))
 (.seq (.seq (.ops none [
  ⟨(some 4), none, .move (.const (.int .i64 0)), .eff⟩])
 (.block 2 (.loop [0, 4] (.seq (.seq (.ops none [
  ⟨(some 44), none, .move (.tmp 4), .eff⟩,
  ⟨(some 45), none, .move (.tmp 0), .eff⟩,
  ⟨(some 46), none, .len .slice (.tmp 45), .eff⟩,
  ⟨(some 47), none, .bin .lss (.tmp 44) (.tmp 46), .eff⟩])
 (.cond (.tmp 47) .skip
 (.exit 2)))
 (.seq (.block 3 (.seq (.ops none [
  ⟨(some 50), none, .move (.tmp 0), .eff⟩,
  ⟨(some 51), none, .move (.tmp 4), .eff⟩,
  ⟨(some 52), none, .iaddr 9 none (.tmp 50) (.tmp 51), .eff⟩,
  ⟨(some 53), none, .load (some 9) (.tmp 52), .eff⟩,
  ⟨(some 54), none, .call 54 [(.tmp 53)], .pure⟩,
  ⟨(some 5), none, .move (.tmp 54), .eff⟩])
 (.seq (.ops none [
  ⟨(some 6), none, .move (.const (.int .i64 0)), .eff⟩])
 (.block 4 (.loop [0, 4, 5, 6] (.seq (.seq (.ops none [
  ⟨(some 55), none, .move (.tmp 6), .eff⟩,
  ⟨(some 56), none, .move (.tmp 5), .eff⟩,
  ⟨(some 57), none, .len .slice (.tmp 56), .eff⟩,
  ⟨(some 58), none, .bin .lss (.tmp 55) (.tmp 57), .eff⟩])
 (.cond (.tmp 58) .skip
 (.exit 4)))
 (.seq (.block 5 (.seq (.ops none [
  ⟨(some 62), none, .move (.tmp 0), .eff⟩,
  ⟨(some 63), none, .move (.tmp 5), .eff⟩,
  ⟨(some 64), none, .move (.tmp 6), .eff⟩,
  ⟨(some 65), none, .iaddr 1 none (.tmp 63) (.tmp 64), .eff⟩,
  ⟨(some 66), none, .load none (.tmp 65), .eff⟩,
  ⟨(some 67), none, .call 55 [(.tmp 62), (.tmp 66)], .pure⟩,
  ⟨(some 61), none, .move (.tmp 67), .eff⟩,
  ⟨(some 68), none, .ext (.tmp 61) 0, .eff⟩,
  ⟨(some 69), none, .ext (.tmp 61) 1, .eff⟩,
  ⟨(some 7), none, .alloc false [(.int .i64 0), (.int .i64 0), (.int .i64 0), (.int .i64 0), (.int .i64 0), (.int .i64 0), (.int .i64 0), .nils, (.int .i64 0)], .eff⟩,
  ⟨none, none, .store 9 (.tmp 7) (.tmp 68), .eff⟩,
  ⟨(some 8), none, .move (.tmp 69), .eff⟩])
 (.seq (.ops none [
  ⟨(some 70), none, .move (.tmp 8), .eff⟩,
  ⟨(some 71), none, .un .not (.tmp 70), .eff⟩,
  ⟨(some 72), none, .move (.tmp 71), .eff⟩,
  ⟨(some 73), (some (72, true)), .move (.tmp 5), .eff⟩,
  ⟨(some 74), (some (72, true)), .move (.tmp 6), .eff⟩,
  ⟨(some 75), (some (72, true)), .iaddr 1 none (.tmp 73) (.tmp 74), .eff⟩,
  ⟨(some 76), (some (72, true)), .load none (.tmp 75), .eff⟩,
  ⟨(some 77), (some (72, true)), .eqv true (.one (.int .i64)) (.tmp 76) (.const (.int .i64 0)), .eff⟩,
  ⟨(some 78), none, .pick (.tmp 72) (.tmp 77) (.const (.bool false)), .eff⟩,
  ⟨(some 79), none, .move (.tmp 78), .eff⟩,
  ⟨(some 80), (some (79, true)), .move (.tmp 5), .eff⟩,
  ⟨(some 81), (some (79, true)), .move (.tmp 6), .eff⟩,
  ⟨(some 82), (some (79, true)), .iaddr 1 none (.tmp 80) (.tmp 81), .eff⟩,
  ⟨(some 83), (some (79, true)), .load none (.tmp 82), .eff⟩,
  ⟨(some 84), (some (79, true)), .eqv true (.one (.int .i64)) (.tmp 83) (.const (.int .i64 65535)), .eff⟩,
  ⟨(some 85), none, .pick (.tmp 79) (.tmp 84) (.const (.bool false)), .eff⟩])
 (.cond (.tmp 85) (.seq (.ops none [
  ⟨(some 2), none, .move (.const (.int .i64 8)), .eff⟩])
 .ret)
 .skip))))
 (.ops none [
  ⟨(some 59), none, .move (.tmp 6), .eff⟩,
  ⟨(some 60), none, .bin .add (.tmp 59) (.const (.int .i64 1)), .eff⟩,
  ⟨(some 6), none, .move (.tmp 60), .eff⟩]))))))))
 (.ops none [
  ⟨(some 48), none, .move (.tmp 4), .eff⟩,
  ⟨(some 49), none, .bin .add (.tmp 48) (.const (.int .i64 1)), .eff⟩,
  ⟨(some 4), none, .move (.tmp 49), .eff⟩]))))))
 (.seq (.ops none [
  ⟨(some 86), none, .move (.tmp 0), .eff⟩,
  ⟨(some 87), none, .move (.tmp 0), .eff⟩,
  ⟨(some 88), none, .len .slice (.tmp 87), .eff⟩,
  ⟨(some 89), none, .bin .add (.tmp 88) (.const (.int .i64 1)), .eff⟩,
  ⟨(some 90), none, .call 41 [(.tmp 86), (.tmp 89)], .pure⟩,
  ⟨(some 9), none, .move (.tmp 90), .eff⟩])
 (.seq (.seq (.ops none [
  ⟨(some 10), none, .move (.const (.int .i64 0)), .eff⟩])
 (.block 6 (.loop [0, 9, 10] (.seq (.seq (.ops none [
  ⟨(some 91), none, .move (.tmp 10), .eff⟩,
  ⟨(some 92), none, .move (.tmp 9), .eff⟩,
  ⟨(some 93), none, .len .slice (.tmp 92), .eff⟩,
  ⟨(some 94), none, .bin .lss (.tmp 91) (.tmp 93), .eff⟩])
 (.cond (.tmp 94) .skip
 (.exit 6)))
 (.seq (.block 7 (.seq (.ops none [
  ⟨(some 97), none, .move (.tmp 9), .eff⟩,
  ⟨(some 98), none, .move (.tmp 10), .eff⟩,
  ⟨(some 99), none, .iaddr 1 none (.tmp 97) (.tmp 98), .eff⟩,
  ⟨(some 100), none, .load none (.tmp 99), .eff⟩,
  ⟨(some 101), none, .move (.tmp 0), .eff⟩,
  ⟨(some 102), none, .len .slice (.tmp 101), .eff⟩,
  ⟨(some 103), none, .bin .gtr (.tmp 100) (.tmp 102), .eff⟩])
 (.cond (.tmp 103) (.seq (.ops none [
  ⟨(some 2), none, .move (.const (.int .i64 10)), .eff⟩])
 .ret)
 .skip)))
 (.ops none [
  ⟨(some 95), none, .move (.tmp 10), .eff⟩,
  ⟨(some 96), none, .bin .add (.tmp 95) (.const (.int .i64 1)), .eff⟩,
  ⟨(some 10), none, .move (.tmp 96), .eff⟩]))))))
 (.seq (.ops none [
  ⟨(some 2), none, .move (.const (.int .i64 0)), .eff⟩])
 .ret)))))))⟩
set_option maxRecDepth 100000 in
theorem v40_ok : stripF (ttOf Try.prog) { hp := [], md := [(21, .view), (54, .pure), (67, .pure), (90, .pure)], ks := [[0, 3], [0, 4], [0, 4, 5, 6], [0, 9, 10]] } Try.f40 = some v40 := by kernel_rfl
theorem n40_ok : (Try.f40.name == "runtime.NumGoroutine") = false := by kernel_rfl
def v41 : VFun := ⟨2, 76, [.tmp 4],
 (.seq (.ops none [
  ⟨(some 4), none, .move (.const (.slice none 0 0)), .eff⟩])
 (.seq (.ops none [
  ⟨(some 12), none, .move (.tmp 0), .eff⟩,
  ⟨(some 13), none, .len .slice (.tmp 12), .eff⟩,
  ⟨(some 14), none, .mkslice [(.int .i64 0)] 8 (.tmp 13) (.tmp 13), .eff⟩,
  ⟨(some 5), none, .move (.tmp 14), .eff⟩])
 (.seq (.seq (.ops none [
  ⟨(some 6), none, .move (.const (.int .i64 0)), .eff⟩])
 (.block 0 (.loop [0, 1, 5, 6] (.seq (.seq (.ops none [
  ⟨(some 15), none, .move (.tmp 6), .eff⟩,
  ⟨(some 16), none, .move (.tmp 1), .eff⟩,
  ⟨(some 17), none, .bin .lss (.tmp 15) (.tmp 16), .eff⟩])
 (.cond (.tmp 17) .skip
 (.exit 0)))
 (.seq (.block 1 (.seq (.ops none [
  ⟨(some 20), none, .move (.tmp 0), .eff⟩,
  ⟨(some 21), none, .len .slice (.tmp 20), .eff⟩,
  ⟨(some 22), none, .mkslice [(.int .i64 0)] 8 (.tmp 21) (.tmp 21), .eff⟩,
  ⟨(some 7), none, .move (.tmp 22), .eff⟩])
 (.seq (.seq (.ops none [
  ⟨(some 8), none, .move (.const (.int .i64 0)), .eff⟩])
 (.block 2 (.loop [0, 1, 5, 6, 7, 8] (.seq (.seq (.ops none [
  ⟨(some 23), none, .move (.tmp 8), .eff⟩,
  ⟨(some 24), none, .move (.tmp 0), .eff⟩,
  ⟨(some 25), none, .len .slice (.tmp 24), .eff⟩,
  ⟨(some 26), none, .bin .lss (.tmp 23) (.tmp 25), .eff⟩])
 (.cond (.tmp 26) .skip
 (.exit 2)))
 (.seq (.block 3 (.seq (.ops none [
  ⟨(some 29), none, .move (.tmp 0), .eff⟩,
  ⟨(some 30), none, .move (.tmp 8), .eff⟩,
  ⟨(some 31), none, .iaddr 9 none (.tmp 29) (.tmp 30), .eff⟩,
  ⟨(some 32), none, .load (some 9) (.tmp 31), .eff⟩,
  ⟨(some 33), none, .call 54 [(.tmp 32)], .pure⟩,
  ⟨(some 9), none, .move (.tmp 33), .eff⟩])
 (.seq (.seq (.ops none [
  ⟨(some 10), none, .move (.const (.int .i64 0)), .eff⟩])
 (.block 4 (.loop [0, 1, 5, 6, 7, 8, 9, 10] (.seq (.seq (.ops none [
  ⟨(some 34), none, .move (.tmp 10), .eff⟩,
  ⟨(some 35), none, .move (.tmp 9), .eff⟩,
  ⟨(some 36), none, .len .slice (.tmp 35), .eff⟩,
  ⟨(some 37), none, .bin .lss (.tmp 34) (.tmp 36), .eff⟩])
 (.cond (.tmp 37) .skip
 (.exit 4)))
 (.seq (.block 5 (.seq (.ops none [
  ⟨(some 11), none, .move (.const (.int .i64 0)), .eff⟩])
 (.block 6 (.loop [0, 1, 5, 6, 7, 8, 9, 10, 11] (.seq (.seq (.ops none [
  ⟨(some 40), none, .move (.tmp 11), .eff⟩,
  ⟨(some 41), none, .move (.tmp 0), .eff⟩,
  ⟨(some 42), none, .len .slice (.tmp 41), .eff⟩,
  ⟨(some 43), none, .bin .lss (.tmp 40) (.tmp 42), .eff⟩])
 (.cond (.tmp 43) .skip
 (.exit 6)))
 (.seq (.block 7 (.seq (.ops (some []) [
  ⟨(some 46), none, .move (.tmp 0), .eff⟩,
  ⟨(some 47), none, .move (.tmp 11), .eff⟩,
  ⟨(some 48), none, .iaddr 9 none (.tmp 46) (.tmp 47), .eff⟩,
  ⟨(some 49), none, .faddr 0 (.tmp 48), .eff⟩,
  ⟨(some 50), none, .load none (.tmp 49), .eff⟩,
  ⟨(some 51), none, .move (.tmp 9), .eff⟩,
  ⟨(some 52), none, .move (.tmp 10), .eff⟩,
  ⟨(some 53), none, .iaddr 1 none (.tmp 51) (.tmp 52), .eff⟩,
  ⟨(some 54), none, .load none (.tmp 53), .eff⟩,
  ⟨(some 55), none, .eqv false (.one (.int .i64)) (.tmp 50) (.tmp 54), .eff⟩])
 (.cond (.tmp 55) (.ops (some []) [
  ⟨(some 56), none, .move (.tmp 7), .eff⟩,
  ⟨(some 57), none, .move (.tmp 8), .eff⟩,
  ⟨(some 58), none, .move (.tmp 7), .eff⟩,
  ⟨(some 59), none, .move (.tmp 8), .eff⟩,
  ⟨(some 60), none, .iaddr 1 none (.tmp 58) (.tmp 59), .eff⟩,
  ⟨(some 61), none, .load none (.tmp 60), .eff⟩,
  ⟨(some 62), none, .move (.tmp 5), .eff⟩,
  ⟨(some 63), none, .move (.tmp 11), .eff⟩,
  ⟨(some 64), none, .iaddr 1 none (.tmp 62) (.tmp 63), .eff⟩,
  ⟨(some 65), none, .load none (.tmp 64), .eff⟩,
  ⟨(some 66), none, .mm true (.tmp 61) [(.tmp 65)], .eff⟩,
  ⟨(some 67), none, .iaddr 1 none (.tmp 56) (.tmp 57), .eff⟩,
  ⟨none, none, .store 1 (.tmp 67) (.tmp 66), .eff⟩])
 .skip)))
 (.ops none [
  ⟨(some 44), none, .move (.tmp 11), .eff⟩,
  ⟨(some 45), none, .bin .add (.tmp 44) (.const (.int .i64 1)), .eff⟩,
  ⟨(some 11), none, .move (.tmp 45), .eff⟩])))))))
 (.ops none [
  ⟨(some 38), none, .move (.tmp 10), .eff⟩,
  ⟨(some 39), none, .bin .add (.tmp 38) (.const (.int .i64 1)), .eff⟩,
  ⟨(some 10), none, .move (.tmp 39), .eff⟩]))))))
 (.ops none [
  ⟨(some 68), none, .move (.tmp 7), .eff⟩,
  ⟨(some 69), none, .move (.tmp 8), .eff⟩,
  ⟨(some 70), none, .iaddr 1 none (.tmp 68) (.tmp 69), .eff⟩,
  ⟨(some 71), none, .load none (.tmp 70), .eff⟩,
  ⟨(some 72), none, .bin .add (.tmp 71) (.const (.int .i64 1)), .eff⟩,
  ⟨(some 73), none, .iaddr 1 none (.tmp 68) (.tmp 69), .eff⟩,
  ⟨none, none, .store 1 (.tmp 73) (.tmp 72), .eff⟩]))))
 (.ops none [
  ⟨(some 27), none, .move (.tmp 8), .eff⟩,
  ⟨(some 28), none, .bin .add (.tmp 27) (.const (.int .i64 1)), .eff⟩,
  ⟨(some 8), none, .move (.tmp 28), .eff⟩]))))))
 (.ops none [
  ⟨(some 74), none, .move (.tmp 7), .eff⟩,
  ⟨(some 5), none, .move (.tmp 74), .eff⟩]))))
 (.ops none [
  ⟨(some 18), none, .move (.tmp 6), .eff⟩,
  ⟨(some 19), none, .bin .add (.tmp 18) (.const (.int .i64 1)), .eff⟩,
  ⟨(some 6), none, .move (.tmp 19), .eff⟩]))))))
 (.seq (.ops none [
  ⟨(some 75), none, .move (.tmp 5), .eff⟩,
  ⟨(some 4), none, .move (.tmp 75), .eff⟩])
 .ret))))⟩
set_option maxRecDepth 100000 in
theorem v41_ok : stripF (ttOf Try.prog) { hp := [], md := [(33, .pure)], ks := [[0, 1, 5, 6], [0, 1, 5, 6, 7, 8], [0, 1, 5, 6, 7, 8, 9, 10], [0, 1, 5, 6, 7, 8, 9, 10, 11]] } Try.f41 = some v41 := by kernel_rfl
theorem n41_ok : (Try.f41.name == "runtime.NumGoroutine") = false := by kernel_rfl
def v42 : VFun := ⟨4, 32, [.tmp 5],
 (.seq (.ops none [
  ⟨(some 4), none, .box false (.tmp 0), .eff⟩,
  ⟨(some 5), none, .move (.const (.bool false)), .eff⟩])
 (.seq (.seq (.ops none [
  ⟨(some 8), none, .load none (.tmp 1), .eff⟩,
  ⟨(some 9), none, .load (some 2) (.tmp 4), .eff⟩,
  ⟨(some 10), none, .lookup (.flat [(.int .i64), (.int .i64)]) (.int .i64 0) (.tmp 8) (.tmp 9) false, .eff⟩,
  ⟨(some 11), none, .eqv true (.one (.int .i64)) (.tmp 10) (.const (.int .i64 0)), .eff⟩])
 (.cond (.tmp 11) (.seq (.ops none [
  ⟨(some 12), none, .load none (.tmp 1), .eff⟩,
  ⟨(some 13), none, .load (some 2) (.tmp 4), .eff⟩,
  ⟨(some 14), none, .lookup (.flat [(.int .i64), (.int .i64)]) (.int .i64 0) (.tmp 12) (.tmp 13) false, .eff⟩,
  ⟨(some 15), none, .eqv false (.one (.int .i64)) (.tmp 14) (.const (.int .i64 1)), .eff⟩,
  ⟨(some 5), none, .move (.tmp 15), .eff⟩])
 .ret)
 .skip))
 (.seq (.ops none [
  ⟨(some 16), none, .load none (.tmp 1), .eff⟩,
  ⟨(some 17), none, .load (some 2) (.tmp 4), .eff⟩,
  ⟨none, none, .mapup (.flat [(.int .i64), (.int .i64)]) (.tmp 16) (.tmp 17) (.const (.int .i64 1)), .eff⟩])
 (.seq (.seq (.ops none [
  ⟨(some 18), none, .load none (.tmp 2), .eff⟩,
  ⟨(some 19), none, .load (some 2) (.tmp 4), .eff⟩,
  ⟨(some 20), none, .call 43 [(.tmp 18), (.tmp 19)], .pure⟩,
  ⟨(some 21), none, .len .slice (.tmp 20), .eff⟩,
  ⟨(some 22), none, .move (.const (.int .i64 0)), .eff⟩])
 (.block 0 (.loop [1, 3, 4, 20, 21, 22] (.seq (.ops none [
  ⟨(some 23), none, .bin .lss (.tmp 22) (.tmp 21), .eff⟩])
 (.seq (.cond (.tmp 23) .skip
 (.exit 0))
 (.seq (.block 1 (.seq (.ops none [
  ⟨(some 24), none, .iaddr 2 none (.tmp 20) (.tmp 22), .eff⟩,
  ⟨(some 25), none, .load (some 2) (.tmp 24), .eff⟩,
  ⟨(some 7), none, .alloc false [(.int .i64 0), (.int .i64 0)], .eff⟩,
  ⟨none, none, .store 2 (.tmp 7) (.tmp 25), .eff⟩])
 (.seq (.ops none [
  ⟨(some 26), none, .load none (.tmp 3), .eff⟩,
  ⟨(some 27), none, .load (some 2) (.tmp 7), .eff⟩,
  ⟨(some 28), none, .callv (.tmp 26) [(.tmp 27)], .eff⟩])
 (.cond (.tmp 28) (.seq (.ops none [
  ⟨(some 5), none, .move (.const (.bool true)), .eff⟩])
 .ret)
 .skip))))
 (.ops none [
  ⟨(some 29), none, .bin .add (.tmp 22) (.const (.int .i64 1)), .eff⟩,
  ⟨(some 22), none, .move (.tmp 29), .eff⟩])))))))
 (.seq (.ops none [
  ⟨(some 30), none, .load none (.tmp 1), .eff⟩,
  ⟨(some 31), none, .load (some 2) (.tmp 4), .eff⟩,
  ⟨none, none, .mapup (.flat [(.int .i64), (.int .i64)]) (.tmp 30) (.tmp 31) (.const (.int .i64 2)), .eff⟩])
 (.seq (.ops none [
  ⟨(some 5), none, .move (.const (.bool false)), .eff⟩])
 .ret))))))⟩
set_option maxRecDepth 100000 in
theorem v42_ok : stripF (ttOf Try.prog) { hp := [], md := [(20, .pure)], ks := [[1, 3, 4, 20, 21, 22]] } Try.f42 = some v42 := by kernel_rfl
theorem n42_ok : (Try.f42.name == "runtime.NumGoroutine") = false := by kernel_rfl
def v43 : VFun := ⟨2, 88, [.tmp 4],
 (.seq (.ops none [
  ⟨(some 3), none, .box false (.tmp 1), .eff⟩,
  ⟨(some 4), none, .move (.const (.slice none 0 0)), .eff⟩])
 (.seq (.ops none [
  ⟨(some 5), none, .move (.const (.slice none 0 0)), .eff⟩])
 (.seq (.seq (.ops none [
  ⟨(some 12), none, .faddr 0 (.tmp 3), .eff⟩,
  ⟨(some 13), none, .load none (.tmp 12), .eff⟩])
 (.block 0 (.seq (.ops none [
  ⟨(some 35), none, .eqv false (.one (.int .i64)) (.tmp 13) (.const (.int .i64 0)), .eff⟩,
  ⟨(some 34), none, .move (.tmp 35), .eff⟩])
 (.cond (.tmp 34) (.seq (.ops (some []) [
  ⟨(some 36), none, .move (.tmp 0), .eff⟩,
  ⟨(some 37), none, .nilck (.tmp 36), .eff⟩,
  ⟨(some 38), none, .faddr 0 (.tmp 37), .eff⟩,
  ⟨(some 39), none, .load none (.tmp 38), .eff⟩,
  ⟨(some 40), none, .faddr 1 (.tmp 3), .eff⟩,
  ⟨(some 41), none, .load none (.tmp 40), .eff⟩,
  ⟨(some 42), none, .lookup (.one (.int .i64)) .nils (.tmp 39) (.tmp 41) false, .eff⟩,
  ⟨(some 43), none, .len .slice (.tmp 42), .eff⟩,
  ⟨(some 44), none, .move (.const (.int .i64 0)), .eff⟩])
 (.block 3 (.loop [5, 42, 43, 44] (.seq (.ops none [
  ⟨(some 45), none, .bin .lss (.tmp 44) (.tmp 43), .eff⟩])
 (.seq (.cond (.tmp 45) .skip
 (.exit 3))
 (.seq (.block 4 (.seq (.ops none [
  ⟨(some 46), none, .iaddr 1 none (.tmp 42) (.tmp 44), .eff⟩,
  ⟨(some 47), none, .load none (.tmp 46), .eff⟩,
  ⟨(some 7), none, .move (.tmp 47), .eff⟩])
 (.ops none [
  ⟨(some 48), none, .move (.tmp 5), .eff⟩,
  ⟨(some 49), none, .move (.tmp 7), .eff⟩,
  ⟨(some 50), none, .build [(.int .i64 0), (.int .i64 0)] [(0, 1, (.const (.int .i64 1))), (1, 1, (.tmp 49))], .eff⟩,
  ⟨(some 51), none, .bslice [(.int .i64 0), (.int .i64 0)] 1 2 [(0, (.tmp 50))], .eff⟩,
  ⟨(some 52), none, .append 2 16 (.tmp 48) (.tmp 51), .eff⟩,
  ⟨(some 5), none, .move (.tmp 52), .eff⟩])))
 (.ops none [
  ⟨(some 53), none, .bin .add (.tmp 44) (.const (.int .i64 1)), .eff⟩,
  ⟨(some 44), none, .move (.tmp 53), .eff⟩])))))))
 (.seq (.ops none [
  ⟨(some 55), none, .eqv false (.one (.int .i64)) (.tmp 13) (.const (.int .i64 1)), .eff⟩,
  ⟨(some 54), none, .move (.tmp 55), .eff⟩])
 (.cond (.tmp 54) (.seq (.ops (some []) [
  ⟨(some 56), none, .move (.tmp 0), .eff⟩,
  ⟨(some 57), none, .nilck (.tmp 56), .eff⟩,
  ⟨(some 58), none, .faddr 1 (.tmp 57), .eff⟩,
  ⟨(some 59), none, .load none (.tmp 58), .eff⟩,
  ⟨(some 60), none, .faddr 1 (.tmp 3), .eff⟩,
  ⟨(some 61), none, .load none (.tmp 60), .eff⟩,
  ⟨(some 62), none, .lookup (.one (.int .i64)) .nils (.tmp 59) (.tmp 61) false, .eff⟩,
  ⟨(some 63), none, .len .slice (.tmp 62), .eff⟩,
  ⟨(some 64), none, .move (.const (.int .i64 0)), .eff⟩])
 (.block 5 (.loop [5, 62, 63, 64] (.seq (.ops none [
  ⟨(some 65), none, .bin .lss (.tmp 64) (.tmp 63), .eff⟩])
 (.seq (.cond (.tmp 65) .skip
 (.exit 5))
 (.seq (.block 6 (.seq (.ops none [
  ⟨(some 66), none, .iaddr 7 none (.tmp 62) (.tmp 64), .eff⟩,
  ⟨(some 67), none, .load (some 7) (.tmp 66), .eff⟩,
  ⟨(some 9), none, .alloc false [(.int .u8 0), (.int .i64 0), (.int .u8 0), (.int .u64 0), (.int .u8 0), (.int .u64 0), (.int .i64 0)], .eff⟩,
  ⟨none, none, .store 7 (.tmp 9) (.tmp 67), .eff⟩])
 (.seq (.ops none [
  ⟨(some 68), none, .faddr 0 (.tmp 9), .eff⟩,
  ⟨(some 69), none, .load none (.tmp 68), .eff⟩])
 (.block 7 (.seq (.ops none [
  ⟨(some 71), none, .eqv false (.one (.int .u8)) (.tmp 69) (.const (.int .u8 13)), .eff⟩,
  ⟨(some 70), none, .move (.tmp 71), .eff⟩])
 (.cond (.tmp 70) (.ops none [
  ⟨(some 72), none, .move (.tmp 5), .eff⟩,
  ⟨(some 73), none, .faddr 6 (.tmp 9), .eff⟩,
  ⟨(some 74), none, .load none (.tmp 73), .eff⟩,
  ⟨(some 75), none, .build [(.int .i64 0), (.int .i64 0)] [(0, 1, (.const (.int .i64 0))), (1, 1, (.tmp 74))], .eff⟩,
  ⟨(some 76), none, .bslice [(.int .i64 0), (.int .i64 0)] 1 2 [(0, (.tmp 75))], .eff⟩,
  ⟨(some 77), none, .append 2 16 (.tmp 72) (.tmp 76), .eff⟩,
  ⟨(some 5), none, .move (.tmp 77), .eff⟩])
 (.seq (.ops none [
  ⟨(some 79), none, .eqv false (.one (.int .u8)) (.tmp 69) (.const (.int .u8 14)), .eff⟩,
  ⟨(some 78), none, .move (.tmp 79), .eff⟩])
 (.cond (.tmp 78) (.ops none [
  ⟨(some 80), none, .move (.tmp 5), .eff⟩,
  ⟨(some 81), none, .faddr 6 (.tmp 9), .eff⟩,
  ⟨(some 82), none, .load none (.tmp 81), .eff⟩,
  ⟨(some 83), none, .build [(.int .i64 0), (.int .i64 0)] [(0, 1, (.const (.int .i64 2))), (1, 1, (.tmp 82))], .eff⟩,
  ⟨(some 84), none, .bslice [(.int .i64 0), (.int .i64 0)] 1 2 [(0, (.tmp 83))], .eff⟩,
  ⟨(some 85), none, .append 2 16 (.tmp 80) (.tmp 84), .eff⟩,
  ⟨(some 5), none, .move (.tmp 85), .eff⟩])
 .skip))))))))
 (.ops none [
  ⟨(some 86), none, .bin .add (.tmp 64) (.const (.int .i64 1)), .eff⟩,
  ⟨(some 64), none, .move (.tmp 86), .eff⟩])))))))
 (.seq (.ops (some []) [
  ⟨(some 14), none, .move (.tmp 0), .eff⟩,
  ⟨(some 15), none, .nilck (.tmp 14), .eff⟩,
  ⟨(some 16), none, .faddr 2 (.tmp 15), .eff⟩,
  ⟨(some 17), none, .load none (.tmp 16), .eff⟩,
  ⟨(some 18), none, .faddr 1 (.tmp 3), .eff⟩,
  ⟨(some 19), none, .load none (.tmp 18), .eff⟩,
  ⟨(some 20), none, .lookup (.one (.int .i64)) (.agg [(.int .i64 0), (.int .u8 0), (.int .i64 0), .nils]) (.tmp 17) (.tmp 19) false, .eff⟩,
  ⟨(some 21), none, .fld 3 none (.tmp 20), .eff⟩,
  ⟨(some 22), none, .len .slice (.tmp 21), .eff⟩,
  ⟨(some 23), none, .move (.const (.int .i64 0)), .eff⟩])
 (.block 1 (.loop [5, 21, 22, 23] (.seq (.ops none [
  ⟨(some 24), none, .bin .lss (.tmp 23) (.tmp 22), .eff⟩])
 (.seq (.cond (.tmp 24) .skip
 (.exit 1))
 (.seq (.block 2 (.seq (.ops none [
  ⟨(some 25), none, .iaddr 2 none (.tmp 21) (.tmp 23), .eff⟩,
  ⟨(some 26), none, .load (some 2) (.tmp 25), .eff⟩,
  ⟨(some 11), none, .alloc false [(.int .u64 0), (.int .i64 0)], .eff⟩,
  ⟨none, none, .store 2 (.tmp 11) (.tmp 26), .eff⟩])
 (.ops none [
  ⟨(some 27), none, .move (.tmp 5), .eff⟩,
  ⟨(some 28), none, .faddr 1 (.tmp 11), .eff⟩,
  ⟨(some 29), none, .load none (.tmp 28), .eff⟩,
  ⟨(some 30), none, .build [(.int .i64 0), (.int .i64 0)] [(0, 1, (.const (.int .i64 1))), (1, 1, (.tmp 29))], .eff⟩,
  ⟨(some 31), none, .bslice [(.int .i64 0), (.int .i64 0)] 1 2 [(0, (.tmp 30))], .eff⟩,
  ⟨(some 32), none, .append 2 16 (.tmp 27) (.tmp 31), .eff⟩,
  ⟨(some 5), none, .move (.tmp 32), .eff⟩])))
 (.ops none [
  ⟨(some 33), none, .bin .add (.tmp 23) (.const (.int .i64 1)), .eff⟩,
  ⟨(some 23), none, .move (.tmp 33), .eff⟩])))))))))))))
 (.seq (.ops none [
  ⟨(some 87), none, .move (.tmp 5), .eff⟩,
  ⟨(some 4), none, .move (.tmp 87), .eff⟩])
 .ret))))⟩
set_option maxRecDepth 100000 in
theorem v43_ok : stripF (ttOf Try.prog) { hp := [], md := [], ks := [[5, 42, 43, 44], [5, 62, 63, 64], [5, 21, 22, 23]] } Try.f43 = some v43 := by kernel_rfl
theorem n43_ok : (Try.f43.name == "runtime.NumGoroutine") = false := by kernel_rfl
def v44 : VFun := ⟨3, 31, [.tmp 6],
 (.seq (.ops none [
  ⟨(some 6), none, .move (.const (.int .i64 0)), .eff⟩])
 (.seq (.seq (.ops none [
  ⟨(some 7), none, .move (.const (.int .i64 0)), .eff⟩])
 (.block 0 (.loop [0, 1, 2, 7] (.seq (.seq (.ops none [
  ⟨(some 8), none, .move (.tmp 7), .eff⟩,
  ⟨(some 9), none, .move (.tmp 0), .eff⟩,
  ⟨(some 10), none, .len .slice (.tmp 9), .eff⟩,
  ⟨(some 11), none, .bin .lss (.tmp 8) (.tmp 10), .eff⟩])
 (.cond (.tmp 11) .skip
 (.exit 0)))
 (.seq (.block 1 (.seq (.ops none [
  ⟨(some 14), none, .move (.tmp 0), .eff⟩,
  ⟨(some 15), none, .move (.tmp 7), .eff⟩,
  ⟨(some 16), none, .iaddr 3 none (.tmp 14) (.tmp 15), .eff⟩,
  ⟨(some 17), none, .faddr 0 (.tmp 16), .eff⟩,
  ⟨(some 18), none, .load none (.tmp 17), .eff⟩,
  ⟨(some 19), none, .move (.tmp 1), .eff⟩,
  ⟨(some 20), none, .eqv false (.one (.int .i64)) (.tmp 18) (.tmp 19), .eff⟩,
  ⟨(some 21), none, .move (.tmp 20), .eff⟩,
  ⟨(some 22), (some (21, true)), .move (.tmp 0), .eff⟩,
  ⟨(some 23), (some (21, true)), .move (.tmp 7), .eff⟩,
  ⟨(some 24), (some (21, true)), .iaddr 3 none (.tmp 22) (.tmp 23), .eff⟩,
  ⟨(some 25), (some (21, true)), .faddr 1 (.tmp 24), .eff⟩,
  ⟨(some 26), (some (21, true)), .load none (.tmp 25), .eff⟩,
  ⟨(some 27), (some (21, true)), .move (.tmp 2), .eff⟩,
  ⟨(some 28), (some (21, true)), .eqv false (.one (.int .i64)) (.tmp 26) (.tmp 27), .eff⟩,
  ⟨(some 29), none, .pick (.tmp 21) (.tmp 28) (.const (.bool false)), .eff⟩])
 (.cond (.tmp 29) (.seq (.ops none [
  ⟨(some 30), none, .move (.tmp 7), .eff⟩,
  ⟨(some 6), none, .move (.tmp 30), .eff⟩])
 .ret)
 .skip)))
 (.ops none [
  ⟨(some 12), none, .move (.tmp 7), .eff⟩,
  ⟨(some 13), none, .bin .add (.tmp 12) (.const (.int .i64 1)), .eff⟩,
  ⟨(some 7), none, .move (.tmp 13), .eff⟩]))))))
 (.seq (.ops none [
  ⟨(some 6), none, .move (.const (.int .i64 (-1))), .eff⟩])
 .ret)))⟩
set_option maxRecDepth 100000 in
theorem v44_ok : stripF (ttOf Try.prog) { hp := [], md := [], ks := [[0, 1, 2, 7]] } Try.f44 = some v44 := by kernel_rfl
theorem n44_ok : (Try.f44.name == "runtime.NumGoroutine") = false := by kernel_rfl
def v45 : VFun := ⟨2, 14, [.tmp 4],
 (.seq (.ops none [
  ⟨(some 2), none, .box true (.tmp 0), .eff⟩,
  ⟨(some 3), none, .box false (.tmp 1), .eff⟩,
  ⟨(some 4), none, .move (.const (.int .i64 0)), .eff⟩])
 (.seq (.ops none [
  ⟨(some 8), none, .mkmap, .eff⟩,
  ⟨(some 5), none, .alloc true [.nilm], .eff⟩,
  ⟨none, none, .store 1 (.tmp 5) (.tmp 8), .eff⟩])
 (.seq (.ops none [
  ⟨(some 6), none, .alloc true [.nilf], .eff⟩])
 (.seq (.ops none [
  ⟨(some 9), none, .mkfn (.func 56) [] [(.tmp 6)], .eff⟩,
  ⟨(some 7), none, .alloc true [.nilf], .eff⟩,
  ⟨none, none, .store 1 (.tmp 7) (.tmp 9), .eff⟩])
 (.seq (.ops none [
  ⟨(some 10), none, .mkfn (.func 57) [] [(.tmp 5), (.tmp 2), (.tmp 6), (.tmp 7)], .eff⟩,
  ⟨none, none, .store 1 (.tmp 6) (.tmp 10), .eff⟩])
 (.seq (.ops none [
  ⟨(some 11), none, .load none (.tmp 6), .eff⟩,
  ⟨(some 12), none, .load (some 2) (.tmp 3), .eff⟩,
  ⟨(some 13), none, .callv (.tmp 11) [(.tmp 12)], .eff⟩,
  ⟨(some 4), none, .move (.tmp 13), .eff⟩])
 .ret))))))⟩
set_option maxRecDepth 100000 in
theorem v45_ok : stripF (ttOf Try.prog) { hp := [2, 5, 6, 7], md := [], ks := [] } Try.f45 = some v45 := by kernel_rfl
theorem n45_ok : (Try.f45.name == "runtime.NumGoroutine") = false := by kernel_rfl
def v46 : VFun := ⟨3, 19, [.tmp 6],
 (.seq (.ops none [
  ⟨(some 6), none, .move (.const (.int .i64 0)), .eff⟩])
 (.seq (.ops none [
  ⟨(some 8), none, .move (.tmp 0), .eff⟩,
  ⟨(some 9), none, .move (.tmp 1), .eff⟩,
  ⟨(some 10), none, .move (.tmp 2), .eff⟩,
  ⟨(some 11), none, .call 44 [(.tmp 8), (.tmp 9), (.tmp 10)], .view⟩,
  ⟨(some 7), none, .move (.tmp 11), .eff⟩])
 (.seq (.seq (.ops none [
  ⟨(some 12), none, .move (.tmp 7), .eff⟩,
  ⟨(some 13), none, .bin .lss (.tmp 12) (.const (.int .i64 0)), .eff⟩])
 (.cond (.tmp 13) (.seq (.ops none [
  ⟨(some 6), none, .move (.const (.int .i64 0)), .eff⟩])
 .ret)
 .skip))
 (.seq (.ops none [
  ⟨(some 14), none, .move (.tmp 0), .eff⟩,
  ⟨(some 15), none, .move (.tmp 7), .eff⟩,
  ⟨(some 16), none, .iaddr 3 none (.tmp 14) (.tmp 15), .eff⟩,
  ⟨(some 17), none, .faddr 2 (.tmp 16), .eff⟩,
  ⟨(some 18), none, .load none (.tmp 17), .eff⟩,
  ⟨(some 6), none, .move (.tmp 18), .eff⟩])
 .ret))))⟩
set_option maxRecDepth 100000 in
theorem v46_ok : stripF (ttOf Try.prog) { hp := [], md := [(11, .view)], ks := [] } Try.f46 = some v46 := by kernel_rfl
theorem n46_ok : (Try.f46.name == "runtime.NumGoroutine") = false := by kernel_rfl
def v47 : VFun := ⟨1, 101, [.tmp 2],
 (.seq (.ops none [
  ⟨(some 1), none, .box false (.tmp 0), .eff⟩,
  ⟨(some 2), none, .move (.const (.slice none 0 0)), .eff⟩])
 (.seq (.ops none [
  ⟨(some 9), none, .load (some 9) (.tmp 1), .eff⟩,
  ⟨(some 10), none, .call 32 [(.tmp 9)], .fresh⟩,
  ⟨(some 3), none, .move (.tmp 10), .eff⟩])
 (.seq (.seq (.ops none [
  ⟨(some 4), none, .move (.const (.int .i64 0)), .eff⟩])
 (.block 0 (.loop [1, 3, 4] (.seq (.seq (.ops none [
  ⟨(some 11), none, .move (.tmp 4), .eff⟩,
  ⟨(some 12), none, .move (.tmp 3), .eff⟩,
  ⟨(some 13), none, .len .slice (.tmp 12), .eff⟩,
  ⟨(some 14), none, .bin .leq (.tmp 11) (.tmp 13), .eff⟩])
 (.cond (.tmp 14) .skip
 (.exit 0)))
 (.seq (.block 1 (.seq (.ops none [
  ⟨(some 17), none, .bslice [(.int .i64 0), (.int .i64 0), (.int .i64 0)] 0 3 [], .eff⟩,
  ⟨(some 18), none, .move (.tmp 3), .eff⟩,
  ⟨(some 19), none, .append 3 24 (.tmp 17) (.tmp 18), .eff⟩,
  ⟨(some 5), none, .move (.tmp 19), .eff⟩])
 (.seq (.seq (.ops none [
  ⟨(some 20), none, .faddr 2 (.tmp 1), .eff⟩,
  ⟨(some 21), none, .load none (.tmp 20), .eff⟩,
  ⟨(some 22), none, .len .slice (.tmp 21), .eff⟩,
  ⟨(some 23), none, .bin .sub (.tmp 22) (.const (.int .i64 1)), .eff⟩,
  ⟨(some 6), none, .move (.tmp 23), .eff⟩])
 (.block 2 (.loop [1, 3, 4, 5, 6] (.seq (.seq (.ops none [
  ⟨(some 24), none, .move (.tmp 6), .eff⟩,
  ⟨(some 25), none, .bin .geq (.tmp 24) (.const (.int .i64 0)), .eff⟩])
 (.cond (.tmp 25) .skip
 (.exit 2)))
 (.seq (.block 3 (.ops (some []) [
  ⟨(some 28), none, .move (.tmp 3), .eff⟩,
  ⟨(some 29), none, .move (.tmp 3), .eff⟩,
  ⟨(some 30), none, .faddr 2 (.tmp 1), .eff⟩,
  ⟨(some 31), none, .load none (.tmp 30), .eff⟩,
  ⟨(some 32), none, .move (.tmp 6), .eff⟩,
  ⟨(some 33), none, .iaddr 5 none (.tmp 31) (.tmp 32), .eff⟩,
  ⟨(some 34), none, .faddr 0 (.tmp 33), .eff⟩,
  ⟨(some 35), none, .load none (.tmp 34), .eff⟩,
  ⟨(some 36), none, .call 44 [(.tmp 29), (.const (.int .i64 1)), (.tmp 35)], .view⟩,
  ⟨(some 37), none, .move (.tmp 5), .eff⟩,
  ⟨(some 38), none, .load (some 9) (.tmp 1), .eff⟩,
  ⟨(some 39), none, .faddr 2 (.tmp 1), .eff⟩,
  ⟨(some 40), none, .load none (.tmp 39), .eff⟩,
  ⟨(some 41), none, .move (.tmp 6), .eff⟩,
  ⟨(some 42), none, .iaddr 5 none (.tmp 40) (.tmp 41), .eff⟩,
  ⟨(some 43), none, .load (some 5) (.tmp 42), .eff⟩,
  ⟨(some 44), none, .call 58 [(.tmp 37), (.tmp 38), (.tmp 43)], .view⟩,
  ⟨(some 45), none, .iaddr 3 none (.tmp 28) (.tmp 36), .eff⟩,
  ⟨(some 46), none, .faddr 2 (.tmp 45), .eff⟩,
  ⟨none, none, .store 1 (.tmp 46) (.tmp 44), .eff⟩]))
 (.ops none [
  ⟨(some 26), none, .move (.tmp 6), .eff⟩,
  ⟨(some 27), none, .bin .sub (.tmp 26) (.const (.int .i64 1)), .eff⟩,
  ⟨(some 6), none, .move (.tmp 27), .eff⟩]))))))
 (.seq (.seq (.ops none [
  ⟨(some 47), none, .faddr 4 (.tmp 1), .eff⟩,
  ⟨(some 48), none, .load none (.tmp 47), .eff⟩,
  ⟨(some 49), none, .len .slice (.tmp 48), .eff⟩,
  ⟨(some 50), none, .bin .sub (.tmp 49) (.const (.int .i64 1)), .eff⟩,
  ⟨(some 7), none, .move (.tmp 50), .eff⟩])
 (.block 4 (.loop [1, 3, 4, 5, 7] (.seq (.seq (.ops none [
  ⟨(some 51), none, .move (.tmp 7), .eff⟩,
  ⟨(some 52), none, .bin .geq (.tmp 51) (.const (.int .i64 0)), .eff⟩])
 (.cond (.tmp 52) .skip
 (.exit 4)))
 (.seq (.block 5 (.ops (some []) [
  ⟨(some 55), none, .move (.tmp 3), .eff⟩,
  ⟨(some 56), none, .move (.tmp 3), .eff⟩,
  ⟨(some 57), none, .faddr 4 (.tmp 1), .eff⟩,
  ⟨(some 58), none, .load none (.tmp 57), .eff⟩,
  ⟨(some 59), none, .move (.tmp 7), .eff⟩,
  ⟨(some 60), none, .iaddr 2 none (.tmp 58) (.tmp 59), .eff⟩,
  ⟨(some 61), none, .faddr 0 (.tmp 60), .eff⟩,
  ⟨(some 62), none, .load none (.tmp 61), .eff⟩,
  ⟨(some 63), none, .call 44 [(.tmp 56), (.const (.int .i64 2)), (.tmp 62)], .view⟩,
  ⟨(some 64), none, .move (.tmp 5), .eff⟩,
  ⟨(some 65), none, .faddr 4 (.tmp 1), .eff⟩,
  ⟨(some 66), none, .load none (.tmp 65), .eff⟩,
  ⟨(some 67), none, .move (.tmp 7), .eff⟩,
  ⟨(some 68), none, .iaddr 2 none (.tmp 66) (.tmp 67), .eff⟩,
  ⟨(some 69), none, .faddr 1 (.tmp 68), .eff⟩,
  ⟨(some 70), none, .load none (.tmp 69), .eff⟩,
  ⟨(some 71), none, .call 59 [(.tmp 64), (.tmp 70)], .view⟩,
  ⟨(some 72), none, .iaddr 3 none (.tmp 55) (.tmp 63), .eff⟩,
  ⟨(some 73), none, .faddr 2 (.tmp 72), .eff⟩,
  ⟨none, none, .store 1 (.tmp 73) (.tmp 71), .eff⟩]))
 (.ops none [
  ⟨(some 53), none, .move (.tmp 7), .eff⟩,
  ⟨(some 54), none, .bin .sub (.tmp 53) (.const (.int .i64 1)), .eff⟩,
  ⟨(some 7), none, .move (.tmp 54), .eff⟩]))))))
 (.seq (.ops none [
  ⟨(some 74), none, .faddr 5 (.tmp 1), .eff⟩,
  ⟨(some 75), none, .load none (.tmp 74), .eff⟩,
  ⟨(some 76), none, .len .slice (.tmp 75), .eff⟩,
  ⟨(some 77), none, .bin .sub (.tmp 76) (.const (.int .i64 1)), .eff⟩,
  ⟨(some 8), none, .move (.tmp 77), .eff⟩])
 (.block 6 (.loop [1, 3, 4, 5, 8] (.seq (.seq (.ops none [
  ⟨(some 78), none, .move (.tmp 8), .eff⟩,
  ⟨(some 79), none, .bin .geq (.tmp 78) (.const (.int .i64 0)), .eff⟩])
 (.cond (.tmp 79) .skip
 (.exit 6)))
 (.seq (.block 7 (.ops (some []) [
  ⟨(some 82), none, .move (.tmp 3), .eff⟩,
  ⟨(some 83), none, .move (.tmp 3), .eff⟩,
  ⟨(some 84), none, .faddr 5 (.tmp 1), .eff⟩,
  ⟨(some 85), none, .load none (.tmp 84), .eff⟩,
  ⟨(some 86), none, .move (.tmp 8), .eff⟩,
  ⟨(some 87), none, .iaddr 4 none (.tmp 85) (.tmp 86), .eff⟩,
  ⟨(some 88), none, .faddr 0 (.tmp 87), .eff⟩,
  ⟨(some 89), none, .load none (.tmp 88), .eff⟩,
  ⟨(some 90), none, .call 44 [(.tmp 83), (.const (.int .i64 3)), (.tmp 89)], .view⟩,
  ⟨(some 91), none, .move (.tmp 5), .eff⟩,
  ⟨(some 92), none, .faddr 5 (.tmp 1), .eff⟩,
  ⟨(some 93), none, .load none (.tmp 92), .eff⟩,
  ⟨(some 94), none, .move (.tmp 8), .eff⟩,
  ⟨(some 95), none, .iaddr 4 none (.tmp 93) (.tmp 94), .eff⟩,
  ⟨(some 96), none, .load (some 4) (.tmp 95), .eff⟩,
  ⟨(some 97), none, .call 60 [(.tmp 91), (.tmp 96)], .view⟩,
  ⟨(some 98), none, .iaddr 3 none (.tmp 82) (.tmp 90), .eff⟩,
  ⟨(some 99), none, .faddr 2 (.tmp 98), .eff⟩,
  ⟨none, none, .store 1 (.tmp 99) (.tmp 97), .eff⟩]))
 (.ops none [
  ⟨(some 80), none, .move (.tmp 8), .eff⟩,
  ⟨(some 81), none, .bin .sub (.tmp 80) (.const (.int .i64 1)), .eff⟩,
  ⟨(some 8), none, .move (.tmp 81), .eff⟩]))))))))))
 (.ops none [
  ⟨(some 15), none, .move (.tmp 4), .eff⟩,
  ⟨(some 16), none, .bin .add (.tmp 15) (.const (.int .i64 1)), .eff⟩,
  ⟨(some 4), none, .move (.tmp 16), .eff⟩]))))))
 (.seq (.ops none [
  ⟨(some 100), none, .move (.tmp 3), .eff⟩,
  ⟨(some 2), none, .move (.tmp 100), .eff⟩])
 .ret))))⟩
set_option maxRecDepth 100000 in
theorem v47_ok : stripF (ttOf Try.prog) { hp := [], md := [(10, .fresh), (36, .view), (44, .view), (63, .view), (71, .view), (90, .view), (97, .view)], ks := [[1, 3, 4], [1, 3, 4, 5, 6], [1, 3, 4, 5, 7], [1, 3, 4, 5, 8]] } Try.f47 = some v47 := by kernel_rfl
theorem n47_ok : (Try.f47.name == "runtime.NumGoroutine") = false := by kernel_rfl
def v48 : VFun := ⟨1, 31, [.tmp 2],
 (.seq (.ops none [
  ⟨(some 2), none, .move (.const (.bool false)), .eff⟩])
 (.seq (.seq (.ops none [
  ⟨(some 5), none, .move (.tmp 0), .eff⟩,
  ⟨(some 6), none, .len .slice (.tmp 5), .eff⟩,
  ⟨(some 7), none, .move (.const (.int .i64 0)), .eff⟩])
 (.block 0 (.loop [0, 5, 6, 7] (.seq (.ops none [
  ⟨(some 8), none, .bin .lss (.tmp 7) (.tmp 6), .eff⟩])
 (.seq (.cond (.tmp 8) .skip
 (.exit 0))
 (.seq (.block 1 (.seq (.ops none [
  ⟨(some 9), none, .move (.tmp 7), .eff⟩,
  ⟨(some 10), none, .iaddr 9 none (.tmp 5) (.tmp 7), .eff⟩,
  ⟨(some 11), none, .load (some 9) (.tmp 10), .eff⟩,
  ⟨(some 4), none, .alloc false [(.int .i64 0), (.int .i64 0), (.int .i64 0), (.int .i64 0), (.int .i64 0), (.int .i64 0), (.int .i64 0), .nils, (.int .i64 0)], .eff⟩,
  ⟨(some 3), none, .move (.tmp 9), .eff⟩,
  ⟨none, none, .store 9 (.tmp 4) (.tmp 11), .eff⟩])
 (.seq (.ops (some []) [
  ⟨(some 12), none, .load (some 9) (.tmp 4), .eff⟩,
  ⟨(some 13), none, .call 61 [(.tmp 12)], .view⟩,
  ⟨(some 14), none, .un .not (.tmp 13), .eff⟩,
  ⟨(some 15), none, .move (.tmp 14), .eff⟩,
  ⟨(some 16), (some (15, false)), .move (.tmp 3), .eff⟩,
  ⟨(some 17), (some (15, false)), .bin .gtr (.tmp 16) (.const (.int .i64 0)), .eff⟩,
  ⟨(some 18), (some (15, false)), .move (.tmp 17), .eff⟩,
  ⟨(some 19), (some (18, true)), .faddr 0 (.tmp 4), .eff⟩,
  ⟨(some 20), (some (18, true)), .load none (.tmp 19), .eff⟩,
  ⟨(some 21), (some (18, true)), .move (.tmp 0), .eff⟩,
  ⟨(some 22), (some (18, true)), .move (.tmp 3), .eff⟩,
  ⟨(some 23), (some (18, true)), .bin .sub (.tmp 22) (.const (.int .i64 1)), .eff⟩,
  ⟨(some 24), (some (18, true)), .iaddr 9 none (.tmp 21) (.tmp 23), .eff⟩,
  ⟨(some 25), (some (18, true)), .faddr 0 (.tmp 24), .eff⟩,
  ⟨(some 26), (some (18, true)), .load none (.tmp 25), .eff⟩,
  ⟨(some 27), (some (18, true)), .bin .leq (.tmp 20) (.tmp 26), .eff⟩,
  ⟨(some 28), (some (15, false)), .pick (.tmp 18) (.tmp 27) (.const (.bool false)), .eff⟩,
  ⟨(some 29), none, .pick (.tmp 15) (.const (.bool true)) (.tmp 28), .eff⟩])
 (.cond (.tmp 29) (.seq (.ops none [
  ⟨(some 2), none, .move (.const (.bool false)), .eff⟩])
 .ret)
 .skip))))
 (.ops none [
  ⟨(some 30), none, .bin .add (.tmp 7) (.const (.int .i64 1)), .eff⟩,
  ⟨(some 7), none, .move (.tmp 30), .eff⟩])))))))
 (.seq (.ops none [
  ⟨(some 2), none, .move (.const (.bool true)), .eff⟩])
 .ret)))⟩
set_option maxRecDepth 100000 in
theorem v48_ok : stripF (ttOf Try.prog) { hp := [], md := [(13, .view)], ks := [[0, 5, 6, 7]] } Try.f48 = some v48 := by kernel_rfl
theorem n48_ok : (Try.f48.name == "runtime.NumGoroutine") = false := by kernel_rfl
def v49 : VFun := ⟨1, 40, [.tmp 2],
 (.seq (.ops none [
  ⟨(some 2), none, .move (.const (.bool false)), .eff⟩])
 (.seq (.seq (.ops none [
  ⟨(some 9), none, .move (.tmp 0), .eff⟩,
  ⟨(some 10), none, .len .slice (.tmp 9), .eff⟩,
  ⟨(some 11), none, .move (.const (.int .i64 0)), .eff⟩])
 (.block 0 (.loop [0, 9, 10, 11] (.seq (.ops none [
  ⟨(some 12), none, .bin .lss (.tmp 11) (.tmp 10), .eff⟩])
 (.seq (.cond (.tmp 12) .skip
 (.exit 0))
 (.seq (.block 1 (.seq (.ops none [
  ⟨(some 13), none, .iaddr 9 none (.tmp 9) (.tmp 11), .eff⟩,
  ⟨(some 14), none, .load (some 9) (.tmp 13), .eff⟩,
  ⟨(some 4), none, .alloc false [(.int .i64 0), (.int .i64 0), (.int .i64 0), (.int .i64 0), (.int .i64 0), (.int .i64 0), (.int .i64 0), .nils, (.int .i64 0)], .eff⟩,
  ⟨none, none, .store 9 (.tmp 4) (.tmp 14), .eff⟩])
 (.seq (.ops none [
  ⟨(some 15), none, .load (some 9) (.tmp 4), .eff⟩,
  ⟨(some 16), none, .call 52 [(.tmp 15)], .pure⟩,
  ⟨(some 17), none, .len .slice (.tmp 16), .eff⟩,
  ⟨(some 18), none, .move (.const (.int .i64 0)), .eff⟩])
 (.block 2 (.loop [0, 9, 10, 11, 16, 17, 18] (.seq (.ops none [
  ⟨(some 19), none, .bin .lss (.tmp 18) (.tmp 17), .eff⟩])
 (.seq (.cond (.tmp 19) .skip
 (.exit 2))
 (.seq (.block 3 (.seq (.ops none [
  ⟨(some 20), none, .iaddr 1 none (.tmp 16) (.tmp 18), .eff⟩,
  ⟨(some 21), none, .load none (.tmp 20), .eff⟩,
  ⟨(some 6), none, .move (.tmp 21), .eff⟩])
 (.seq (.ops none [
  ⟨(some 23), none, .move (.tmp 0), .eff⟩,
  ⟨(some 24), none, .move (.tmp 6), .eff⟩,
  ⟨(some 25), none, .call 51 [(.tmp 23), (.tmp 24)], .pure⟩,
  ⟨(some 22), none, .move (.tmp 25), .eff⟩,
  ⟨(some 26), none, .ext (.tmp 22) 0, .eff⟩,
  ⟨(some 27), none, .ext (.tmp 22) 1, .eff⟩,
  ⟨(some 7), none, .alloc false [(.int .i64 0), (.int .i64 0), (.int .i64 0), (.int .i64 0), (.int .i64 0), (.int .i64 0), (.int .i64 0), .nils, (.int .i64 0)], .eff⟩,
  ⟨none, none, .store 9 (.tmp 7) (.tmp 26), .eff⟩,
  ⟨(some 8), none, .move (.tmp 27), .eff⟩])
 (.seq (.ops none [
  ⟨(some 28), none, .move (.tmp 8), .eff⟩,
  ⟨(some 29), none, .un .not (.tmp 28), .eff⟩,
  ⟨(some 30), none, .move (.tmp 29), .eff⟩,
  ⟨(some 31), (some (30, true)), .move (.tmp 6), .eff⟩,
  ⟨(some 32), (some (30, true)), .eqv true (.one (.int .i64)) (.tmp 31) (.const (.int .i64 0)), .eff⟩,
  ⟨(some 33), none, .pick (.tmp 30) (.tmp 32) (.const (.bool false)), .eff⟩,
  ⟨(some 34), none, .move (.tmp 33), .eff⟩,
  ⟨(some 35), (some (34, true)), .move (.tmp 6), .eff⟩,
  ⟨(some 36), (some (34, true)), .eqv true (.one (.int .i64)) (.tmp 35) (.const (.int .i64 65535)), .eff⟩,
  ⟨(some 37), none, .pick (.tmp 34) (.tmp 36) (.const (.bool false)), .eff⟩])
 (.cond (.tmp 37) (.seq (.ops none [
  ⟨(some 2), none, .move (.const (.bool false)), .eff⟩])
 .ret)
 .skip)))))
 (.ops none [
  ⟨(some 38), none, .bin .add (.tmp 18) (.const (.int .i64 1)), .eff⟩,
  ⟨(some 18), none, .move (.tmp 38), .eff⟩])))))))))
 (.ops none [
  ⟨(some 39), none, .bin .add (.tmp 11) (.const (.int .i64 1)), .eff⟩,
  ⟨(some 11), none, .move (.tmp 39), .eff⟩])))))))
 (.seq (.ops none [
  ⟨(some 2), none, .move (.const (.bool true)), .eff⟩])
 .ret)))⟩
set_option maxRecDepth 100000 in
theorem v49_ok : stripF (ttOf Try.prog) { hp := [], md := [(16, .pure), (25, .pure)], ks := [[0, 9, 10, 11], [0, 9, 10, 11, 16, 17, 18]] } Try.f49 = some v49 := by kernel_rfl
theorem n49_ok : (Try.f49.name == "runtime.NumGoroutine") = false := by kernel_rfl
def v50 : VFun := ⟨6, 62, [.tmp 7],
 (.seq (.ops none [
  ⟨(some 7), none, .move (.const (.int .i64 0)), .eff⟩])
 (.seq (.ops none [
  ⟨(some 14), none, .load none (.tmp 1), .eff⟩,
  ⟨(some 15), none, .move (.tmp 0), .eff⟩,
  ⟨(some 16), none, .call 51 [(.tmp 14), (.tmp 15)], .pure⟩,
  ⟨(some 13), none, .move (.tmp 16), .eff⟩,
  ⟨(some 17), none, .ext (.tmp 13) 0, .eff⟩,
  ⟨(some 18), none, .ext (.tmp 13) 1, .eff⟩,
  ⟨(some 8), none, .alloc false [(.int .i64 0), (.int .i64 0), (.int .i64 0), (.int .i64 0), (.int .i64 0), (.int .i64 0), (.int .i64 0), .nils, (.int .i64 0)], .eff⟩,
  ⟨none, none, .store 9 (.tmp 8) (.tmp 17), .eff⟩,
  ⟨(some 9), none, .move (.tmp 18), .eff⟩])
 (.seq (.block 0 (.seq (.ops none [
  ⟨(some 20), none, .move (.tmp 9), .eff⟩,
  ⟨(some 21), none, .un .not (.tmp 20), .eff⟩,
  ⟨(some 19), none, .move (.tmp 21), .eff⟩])
 (.cond (.tmp 19) (.seq (.ops none [
  ⟨(some 7), none, .move (.const (.int .i64 0)), .eff⟩])
 .ret)
 (.seq (.ops none [
  ⟨(some 23), none, .load none (.tmp 2), .eff⟩,
  ⟨(some 24), none, .move (.tmp 0), .eff⟩,
  ⟨(some 25), none, .lookup (.one (.int .i64)) (.int .i64 0) (.tmp 23) (.tmp 24) false, .eff⟩,
  ⟨(some 26), none, .bin .gtr (.tmp 25) (.const (.int .i64 0)), .eff⟩,
  ⟨(some 22), none, .move (.tmp 26), .eff⟩])
 (.cond (.tmp 22) (.seq (.ops none [
  ⟨none, none, .store 1 (.tmp 3) (.const (.bool false)), .eff⟩])
 (.seq (.ops none [
  ⟨(some 7), none, .move (.const (.int .i64 0)), .eff⟩])
 .ret))
 (.seq (.ops none [
  ⟨(some 28), none, .load none (.tmp 4), .eff⟩,
  ⟨(some 29), none, .move (.tmp 0), .eff⟩,
  ⟨(some 30), none, .lookup (.one (.int .i64)) (.int .i64 0) (.tmp 28) (.tmp 29) false, .eff⟩,
  ⟨(some 31), none, .bin .gtr (.tmp 30) (.const (.int .i64 0)), .eff⟩,
  ⟨(some 27), none, .move (.tmp 31), .eff⟩])
 (.cond (.tmp 27) (.seq (.ops none [
  ⟨(some 32), none, .load none (.tmp 4), .eff⟩,
  ⟨(some 33), none, .move (.tmp 0), .eff⟩,
  ⟨(some 34), none, .lookup (.one (.int .i64)) (.int .i64 0) (.tmp 32) (.tmp 33) false, .eff⟩,
  ⟨(some 7), none, .move (.tmp 34), .eff⟩])
 .ret)
 .skip)))))))
 (.seq (.ops none [
  ⟨(some 35), none, .load none (.tmp 2), .eff⟩,
  ⟨(some 36), none, .move (.tmp 0), .eff⟩,
  ⟨(some 37), none, .lookup (.one (.int .i64)) (.int .i64 0) (.tmp 35) (.tmp 36) false, .eff⟩,
  ⟨(some 38), none, .bin .add (.tmp 37) (.const (.int .i64 1)), .eff⟩,
  ⟨none, none, .mapup (.one (.int .i64)) (.tmp 35) (.tmp 36) (.tmp 38), .eff⟩])
 (.seq (.ops none [
  ⟨(some 10), none, .move (.const (.int .i64 0)), .eff⟩])
 (.seq (.seq (.ops none [
  ⟨(some 39), none, .load (some 9) (.tmp 8), .eff⟩,
  ⟨(some 40), none, .call 52 [(.tmp 39)], .pure⟩,
  ⟨(some 41), none, .len .slice (.tmp 40), .eff⟩,
  ⟨(some 42), none, .move (.const (.int .i64 0)), .eff⟩])
 (.block 1 (.loop [0, 2, 4, 5, 10, 40, 41, 42] (.seq (.ops none [
  ⟨(some 43), none, .bin .lss (.tmp 42) (.tmp 41), .eff⟩])
 (.seq (.cond (.tmp 43) .skip
 (.exit 1))
 (.seq (.block 2 (.seq (.ops none [
  ⟨(some 44), none, .iaddr 1 none (.tmp 40) (.tmp 42), .eff⟩,
  ⟨(some 45), none, .load none (.tmp 44), .eff⟩,
  ⟨(some 12), none, .move (.tmp 45), .eff⟩])
 (.ops none [
  ⟨(some 46), none, .move (.tmp 10), .eff⟩,
  ⟨(some 47), none, .load none (.tmp 5), .eff⟩,
  ⟨(some 48), none, .move (.tmp 12), .eff⟩,
  ⟨(some 49), none, .callv (.tmp 47) [(.tmp 48)], .eff⟩,
  ⟨(some 50), none, .mm true (.tmp 46) [(.tmp 49)], .eff⟩,
  ⟨(some 10), none, .move (.tmp 50), .eff⟩])))
 (.ops none [
  ⟨(some 51), none, .bin .add (.tmp 42) (.const (.int .i64 1)), .eff⟩,
  ⟨(some 42), none, .move (.tmp 51), .eff⟩])))))))
 (.seq (.ops none [
  ⟨(some 52), none, .load none (.tmp 2), .eff⟩,
  ⟨(some 53), none, .move (.tmp 0), .eff⟩,
  ⟨(some 54), none, .lookup (.one (.int .i64)) (.int .i64 0) (.tmp 52) (.tmp 53) false, .eff⟩,
  ⟨(some 55), none, .bin .sub (.tmp 54) (.const (.int .i64 1)), .eff⟩,
  ⟨none, none, .mapup (.one (.int .i64)) (.tmp 52) (.tmp 53) (.tmp 55), .eff⟩])
 (.seq (.ops none [
  ⟨(some 56), none, .load none (.tmp 4), .eff⟩,
  ⟨(some 57), none, .move (.tmp 0), .eff⟩,
  ⟨(some 58), none, .move (.tmp 10), .eff⟩,
  ⟨(some 59), none, .bin .add (.tmp 58) (.const (.int .i64 1)), .eff⟩,
  ⟨none, none, .mapup (.one (.int .i64)) (.tmp 56) (.tmp 57) (.tmp 59), .eff⟩])
 (.seq (.ops none [
  ⟨(some 60), none, .move (.tmp 10), .eff⟩,
  ⟨(some 61), none, .bin .add (.tmp 60) (.const (.int .i64 1)), .eff⟩,
  ⟨(some 7), none, .move (.tmp 61), .eff⟩])
 .ret)))))))))⟩
set_option maxRecDepth 100000 in
theorem v50_ok : stripF (ttOf Try.prog) { hp := [], md := [(16, .pure), (40, .pure)], ks := [[0, 2, 4, 5, 10, 40, 41, 42]] } Try.f50 = some v50 := by kernel_rfl
theorem n50_ok : (Try.f50.name == "runtime.NumGoroutine") = false := by kernel_rfl
def v51 : VFun := ⟨2, 21, [.cell 4 (some 9), .tmp 5],
 (.seq (.ops none [
  ⟨(some 4), none, .alloc false [(.int .i64 0), (.int .i64 0), (.int .i64 0), (.int .i64 0), (.int .i64 0), (.int .i64 0), (.int .i64 0), .nils, (.int .i64 0)], .eff⟩,
  ⟨(some 5), none, .move (.const (.bool false)), .eff⟩])
 (.seq (.seq (.ops none [
  ⟨(some 8), none, .move (.tmp 0), .eff⟩,
  ⟨(some 9), none, .len .slice (.tmp 8), .eff⟩,
  ⟨(some 10), none, .move (.const (.int .i64 0)), .eff⟩])
 (.block 0 (.loop [1, 4, 8, 9, 10] (.seq (.ops none [
  ⟨(some 11), none, .bin .lss (.tmp 10) (.tmp 9), .eff⟩])
 (.seq (.cond (.tmp 11) .skip
 (.exit 0))
 (.seq (.block 1 (.seq (.ops none [
  ⟨(some 12), none, .iaddr 9 none (.tmp 8) (.tmp 10), .eff⟩,
  ⟨(some 13), none, .load (some 9) (.tmp 12), .eff⟩,
  ⟨(some 7), none, .alloc false [(.int .i64 0), (.int .i64 0), (.int .i64 0), (.int .i64 0), (.int .i64 0), (.int .i64 0), (.int .i64 0), .nils, (.int .i64 0)], .eff⟩,
  ⟨none, none, .store 9 (.tmp 7) (.tmp 13), .eff⟩])
 (.seq (.ops none [
  ⟨(some 14), none, .faddr 0 (.tmp 7), .eff⟩,
  ⟨(some 15), none, .load none (.tmp 14), .eff⟩,
  ⟨(some 16), none, .move (.tmp 1), .eff⟩,
  ⟨(some 17), none, .eqv false (.one (.int .i64)) (.tmp 15) (.tmp 16), .eff⟩])
 (.cond (.tmp 17) (.seq (.ops none [
  ⟨(some 18), none, .load (some 9) (.tmp 7), .eff⟩,
  ⟨none, none, .store 9 (.tmp 4) (.tmp 18), .eff⟩,
  ⟨(some 5), none, .move (.const (.bool true)), .eff⟩])
 .ret)
 .skip))))
 (.ops none [
  ⟨(some 19), none, .bin .add (.tmp 10) (.const (.int .i64 1)), .eff⟩,
  ⟨(some 10), none, .move (.tmp 19), .eff⟩])))))))
 (.seq (.ops none [
  ⟨(some 20), none, .build [(.int .i64 0), (.int .i64 0), (.int .i64 0), (.int .i64 0), (.int .i64 0), (.int .i64 0), (.int .i64 0), .nils, (.int .i64 0)] [], .eff⟩,
  ⟨none, none, .store 9 (.tmp 4) (.tmp 20), .eff⟩,
  ⟨(some 5), none, .move (.const (.bool false)), .eff⟩])
 .ret)))⟩
set_option maxRecDepth 100000 in
theorem v51_ok : stripF (ttOf Try.prog) { hp := [], md := [], ks := [[1, 4, 8, 9, 10]] } Try.f51 = some v51 := by kernel_rfl
theorem n51_ok : (Try.f51.name == "runtime.NumGoroutine") = false := by kernel_rfl
def v52 : VFun := ⟨1, 23, [.tmp 2],
 (.seq (.ops none [
  ⟨(some 1), none, .box false (.tmp 0), .eff⟩,
  ⟨(some 2), none, .move (.const (.slice none 0 0)), .eff⟩])
 (.seq (.ops none [
  ⟨(some 6), none, .faddr 8 (.tmp 1), .eff⟩,
  ⟨(some 7), none, .load none (.tmp 6), .eff⟩,
  ⟨(some 8), none, .bslice [(.int .i64 0)] 1 1 [(0, (.tmp 7))], .eff⟩,
  ⟨(some 3), none, .move (.tmp 8), .eff⟩])
 (.seq (.seq (.ops none [
  ⟨(some 9), none, .faddr 7 (.tmp 1), .eff⟩,
  ⟨(some 10), none, .load none (.tmp 9), .eff⟩,
  ⟨(some 11), none, .len .slice (.tmp 10), .eff⟩,
  ⟨(some 12), none, .move (.const (.int .i64 0)), .eff⟩])
 (.block 0 (.loop [3, 10, 11, 12] (.seq (.ops none [
  ⟨(some 13), none, .bin .lss (.tmp 12) (.tmp 11), .eff⟩])
 (.seq (.cond (.tmp 13) .skip
 (.exit 0))
 (.seq (.block 1 (.seq (.ops none [
  ⟨(some 14), none, .iaddr 2 none (.tmp 10) (.tmp 12), .eff⟩,
  ⟨(some 15), none, .load (some 2) (.tmp 14), .eff⟩,
  ⟨(some 5), none, .alloc false [(.int .u32 0), (.int .i64 0)], .eff⟩,
  ⟨none, none, .store 2 (.tmp 5) (.tmp 15), .eff⟩])
 (.ops none [
  ⟨(some 16), none, .move (.tmp 3), .eff⟩,
  ⟨(some 17), none, .faddr 1 (.tmp 5), .eff⟩,
  ⟨(some 18), none, .load none (.tmp 17), .eff⟩,
  ⟨(some 19), none, .bslice [(.int .i64 0)] 1 1 [(0, (.tmp 18))], .eff⟩,
  ⟨(some 20), none, .append 1 8 (.tmp 16) (.tmp 19), .eff⟩,
  ⟨(some 3), none, .move (.tmp 20), .eff⟩])))
 (.ops none [
  ⟨(some 21), none, .bin .add (.tmp 12) (.const (.int .i64 1)), .eff⟩,
  ⟨(some 12), none, .move (.tmp 21), .eff⟩])))))))
 (.seq (.ops none [
  ⟨(some 22), none, .move (.tmp 3), .eff⟩,
  ⟨(some 2), none, .move (.tmp 22), .eff⟩])
 .ret))))⟩
set_option maxRecDepth 100000 in
theorem v52_ok : stripF (ttOf Try.prog) { hp := [], md := [], ks := [[3, 10, 11, 12]] } Try.f52 = some v52 := by kernel_rfl
theorem n52_ok : (Try.f52.name == "runtime.NumGoroutine") = false := by kernel_rfl
def v53 : VFun := ⟨1, 179, [.tmp 2],
 (.seq (.ops none [
  ⟨(some 1), none, .box false (.tmp 0), .eff⟩,
  ⟨(some 2), none, .move (.const (.bool false)), .eff⟩])
 (.seq (.seq (.ops none [
  ⟨(some 7), none, .faddr 0 (.tmp 1), .eff⟩,
  ⟨(some 8), none, .load none (.tmp 7), .eff⟩,
  ⟨(some 9), none, .bin .lss (.tmp 8) (.const (.int .i64 1)), .eff⟩,
  ⟨(some 10), none, .move (.tmp 9), .eff⟩,
  ⟨(some 11), (some (10, false)), .faddr 0 (.tmp 1), .eff⟩,
  ⟨(some 12), (some (10, false)), .load none (.tmp 11), .eff⟩,
  ⟨(some 13), (some (10, false)), .bin .gtr (.tmp 12) (.const (.int .i64 65534)), .eff⟩,
  ⟨(some 14), none, .pick (.tmp 10) (.const (.bool true)) (.tmp 13), .eff⟩,
  ⟨(some 15), none, .move (.tmp 14), .eff⟩,
  ⟨(some 16), (some (15, false)), .faddr 1 (.tmp 1), .eff⟩,
  ⟨(some 17), (some (15, false)), .load none (.tmp 16), .eff⟩,
  ⟨(some 18), (some (15, false)), .bin .lss (.tmp 17) (.const (.int .i64 0)), .eff⟩,
  ⟨(some 19), none, .pick (.tmp 15) (.const (.bool true)) (.tmp 18), .eff⟩,
  ⟨(some 20), none, .move (.tmp 19), .eff⟩,
  ⟨(some 21), (some (20, false)), .faddr 1 (.tmp 1), .eff⟩,
  ⟨(some 22), (some (20, false)), .load none (.tmp 21), .eff⟩,
  ⟨(some 23), (some (20, false)), .bin .gtr (.tmp 22) (.const (.int .i64 256)), .eff⟩,
  ⟨(some 24), none, .pick (.tmp 20) (.const (.bool true)) (.tmp 23), .eff⟩,
  ⟨(some 25), none, .move (.tmp 24), .eff⟩,
  ⟨(some 26), (some (25, false)), .faddr 8 (.tmp 1), .eff⟩,
  ⟨(some 27), (some (25, false)), .load none (.tmp 26), .eff⟩,
  ⟨(some 28), (some (25, false)), .bin .lss (.tmp 27) (.const (.int .i64 0)), .eff⟩,
  ⟨(some 29), none, .pick (.tmp 25) (.const (.bool true)) (.tmp 28), .eff⟩,
  ⟨(some 30), none, .move (.tmp 29), .eff⟩,
  ⟨(some 31), (some (30, false)), .faddr 8 (.tmp 1), .eff⟩,
  ⟨(some 32), (some (30, false)), .load none (.tmp 31), .eff⟩,
  ⟨(some 33), (some (30, false)), .bin .gtr (.tmp 32) (.const (.int .i64 65535)), .eff⟩,
  ⟨(some 34), none, .pick (.tmp 30) (.const (.bool true)) (.tmp 33), .eff⟩])
 (.cond (.tmp 34) (.seq (.ops none [
  ⟨(some 2), none, .move (.const (.bool false)), .eff⟩])
 .ret)
 .skip))
 (.seq (.seq (.ops none [
  ⟨(some 35), none, .faddr 3 (.tmp 1), .eff⟩,
  ⟨(some 36), none, .load none (.tmp 35), .eff⟩,
  ⟨(some 37), none, .eqv false (.one (.int .i64)) (.tmp 36) (.const (.int .i64 0)), .eff⟩,
  ⟨(some 38), none, .move (.tmp 37), .eff⟩,
  ⟨(some 39), (some (38, true)), .faddr 2 (.tmp 1), .eff⟩,
  ⟨(some 40), (some (38, true)), .load none (.tmp 39), .eff⟩,
  ⟨(some 41), (some (38, true)), .eqv true (.one (.int .i64)) (.tmp 40) (.const (.int .i64 0)), .eff⟩,
  ⟨(some 42), (some (38, true)), .move (.tmp 41), .eff⟩,
  ⟨(some 43), (some (42, false)), .faddr 4 (.tmp 1), .eff⟩,
  ⟨(some 44), (some (42, false)), .load none (.tmp 43), .eff⟩,
  ⟨(some 45), (some (42, false)), .eqv true (.one (.int .i64)) (.tmp 44) (.const (.int .i64 0)), .eff⟩,
  ⟨(some 46), (some (38, true)), .pick (.tmp 42) (.const (.bool true)) (.tmp 45), .eff⟩,
  ⟨(some 47), none, .pick (.tmp 38) (.tmp 46) (.const (.bool false)), .eff⟩,
  ⟨(some 48), none, .move (.tmp 47), .eff⟩,
  ⟨(some 49), (some (48, false)), .faddr 3 (.tmp 1), .eff⟩,
  ⟨(some 50), (some (48, false)), .load none (.tmp 49), .eff⟩,
  ⟨(some 51), (some (48, false)), .eqv true (.one (.int .i64)) (.tmp 50) (.const (.int .i64 0)), .eff⟩,
  ⟨(some 52), (some (48, false)), .move (.tmp 51), .eff⟩,
  ⟨(some 53), (some (52, true)), .faddr 3 (.tmp 1), .eff⟩,
  ⟨(some 54), (some (52, true)), .load none (.tmp 53), .eff⟩,
  ⟨(some 55), (some (52, true)), .bin .lss (.tmp 54) (.const (.int .i64 1)), .eff⟩,
  ⟨(some 56), (some (52, true)), .move (.tmp 55), .eff⟩,
  ⟨(some 57), (some (56, false)), .faddr 3 (.tmp 1), .eff⟩,
  ⟨(some 58), (some (56, false)), .load none (.tmp 57), .eff⟩,
  ⟨(some 59), (some (56, false)), .bin .gtr (.tmp 58) (.const (.int .i64 16)), .eff⟩,
  ⟨(some 60), (some (52, true)), .pick (.tmp 56) (.const (.bool true)) (.tmp 59), .eff⟩,
  ⟨(some 61), (some (52, true)), .move (.tmp 60), .eff⟩,
  ⟨(some 62), (some (61, false)), .faddr 4 (.tmp 1), .eff⟩,
  ⟨(some 63), (some (61, false)), .load none (.tmp 62), .eff⟩,
  ⟨(some 64), (some (61, false)), .bin .lss (.tmp 63) (.const (.int .i64 1)), .eff⟩,
  ⟨(some 65), (some (52, true)), .pick (.tmp 61) (.const (.bool true)) (.tmp 64), .eff⟩,
  ⟨(some 66), (some (52, true)), .move (.tmp 65), .eff⟩,
  ⟨(some 67), (some (66, false)), .faddr 4 (.tmp 1), .eff⟩,
  ⟨(some 68), (some (66, false)), .load none (.tmp 67), .eff⟩,
  ⟨(some 69), (some (66, false)), .bin .gtr (.tmp 68) (.const (.int .i64 256)), .eff⟩,
  ⟨(some 70), (some (52, true)), .pick (.tmp 66) (.const (.bool true)) (.tmp 69), .eff⟩,
  ⟨(some 71), (some (52, true)), .move (.tmp 70), .eff⟩,
  ⟨(some 72), (some (71, false)), .faddr 2 (.tmp 1), .eff⟩,
  ⟨(some 73), (some (71, false)), .load none (.tmp 72), .eff⟩,
  ⟨(some 74), (some (71, false)), .bin .lss (.tmp 73) (.const (.int .i64 0)), .eff⟩,
  ⟨(some 75), (some (52, true)), .pick (.tmp 71) (.const (.bool true)) (.tmp 74), .eff⟩,
  ⟨(some 76), (some (52, true)), .move (.tmp 75), .eff⟩,
  ⟨(some 77), (some (76, false)), .faddr 2 (.tmp 1), .eff⟩,
  ⟨(some 78), (some (76, false)), .load none (.tmp 77), .eff⟩,
  ⟨(some 79), (some (76, false)), .bin .gtr (.tmp 78) (.const (.int .i64 2048)), .eff⟩,
  ⟨(some 80), (some (52, true)), .pick (.tmp 76) (.const (.bool true)) (.tmp 79), .eff⟩,
  ⟨(some 81), (some (48, false)), .pick (.tmp 52) (.tmp 80) (.const (.bool false)), .eff⟩,
  ⟨(some 82), none, .pick (.tmp 48) (.const (.bool true)) (.tmp 81), .eff⟩])
 (.cond (.tmp 82) (.seq (.ops none [
  ⟨(some 2), none, .move (.const (.bool false)), .eff⟩])
 .ret)
 .skip))
 (.seq (.seq (.ops none [
  ⟨(some 83), none, .faddr 6 (.tmp 1), .eff⟩,
  ⟨(some 84), none, .load none (.tmp 83), .eff⟩,
  ⟨(some 85), none, .eqv false (.one (.int .i64)) (.tmp 84) (.const (.int .i64 0)), .eff⟩,
  ⟨(some 86), none, .move (.tmp 85), .eff⟩,
  ⟨(some 87), (some (86, true)), .faddr 5 (.tmp 1), .eff⟩,
  ⟨(some 88), (some (86, true)), .load none (.tmp 87), .eff⟩,
  ⟨(some 89), (some (86, true)), .eqv true (.one (.int .i64)) (.tmp 88) (.const (.int .i64 0)), .eff⟩,
  ⟨(some 90), (some (86, true)), .move (.tmp 89), .eff⟩,
  ⟨(some 91), (some (90, false)), .faddr 7 (.tmp 1), .eff⟩,
  ⟨(some 92), (some (90, false)), .load none (.tmp 91), .eff⟩,
  ⟨(some 93), (some (90, false)), .len .slice (.tmp 92), .eff⟩,
  ⟨(some 94), (some (90, false)), .bin .gtr (.tmp 93) (.const (.int .i64 0)), .eff⟩,
  ⟨(some 95), (some (86, true)), .pick (.tmp 90) (.const (.bool true)) (.tmp 94), .eff⟩,
  ⟨(some 96), none, .pick (.tmp 86) (.tmp 95) (.const (.bool false)), .eff⟩,
  ⟨(some 97), none, .move (.tmp 96), .eff⟩,
  ⟨(some 98), (some (97, false)), .faddr 6 (.tmp 1), .eff⟩,
  ⟨(some 99), (some (97, false)), .load none (.tmp 98), .eff⟩,
  ⟨(some 100), (some (97, false)), .eqv true (.one (.int .i64)) (.tmp 99) (.const (.int .i64 0)), .eff⟩,
  ⟨(some 101), (some (97, false)), .move (.tmp 100), .eff⟩,
  ⟨(some 102), (some (101, true)), .faddr 6 (.tmp 1), .eff⟩,
  ⟨(some 103), (some (101, true)), .load none (.tmp 102), .eff⟩,
  ⟨(some 104), (some (101, true)), .bin .lss (.tmp 103) (.const (.int .i64 1)), .eff⟩,
  ⟨(some 105), (some (101, true)), .move (.tmp 104), .eff⟩,
  ⟨(some 106), (some (105, false)), .faddr 6 (.tmp 1), .eff⟩,
  ⟨(some 107), (some (105, false)), .load none (.tmp 106), .eff⟩,
  ⟨(some 108), (some (105, false)), .bin .gtr (.tmp 107) (.const (.int .i64 32)), .eff⟩,
  ⟨(some 109), (some (101, true)), .pick (.tmp 105) (.const (.bool true)) (.tmp 108), .eff⟩,
  ⟨(some 110), (some (101, true)), .move (.tmp 109), .eff⟩,
  ⟨(some 111), (some (110, false)), .faddr 5 (.tmp 1), .eff⟩,
  ⟨(some 112), (some (110, false)), .load none (.tmp 111), .eff⟩,
  ⟨(some 113), (some (110, false)), .bin .lss (.tmp 112) (.const (.int .i64 0)), .eff⟩,
  ⟨(some 114), (some (101, true)), .pick (.tmp 110) (.const (.bool true)) (.tmp 113), .eff⟩,
  ⟨(some 115), (some (101, true)), .move (.tmp 114), .eff⟩,
  ⟨(some 116), (some (115, false)), .faddr 5 (.tmp 1), .eff⟩,
  ⟨(some 117), (some (115, false)), .load none (.tmp 116), .eff⟩,
  ⟨(some 118), (some (115, false)), .bin .gtr (.tmp 117) (.const (.int .i64 2048)), .eff⟩,
  ⟨(some 119), (some (101, true)), .pick (.tmp 115) (.const (.bool true)) (.tmp 118), .eff⟩,
  ⟨(some 120), (some (97, false)), .pick (.tmp 101) (.tmp 119) (.const (.bool false)), .eff⟩,
  ⟨(some 121), none, .pick (.tmp 97) (.const (.bool true)) (.tmp 120), .eff⟩,
  ⟨(some 122), none, .move (.tmp 121), .eff⟩,
  ⟨(some 123), (some (122, false)), .faddr 7 (.tmp 1), .eff⟩,
  ⟨(some 124), (some (122, false)), .load none (.tmp 123), .eff⟩,
  ⟨(some 125), (some (122, false)), .len .slice (.tmp 124), .eff⟩,
  ⟨(some 126), (some (122, false)), .bin .gtr (.tmp 125) (.const (.int .i64 32)), .eff⟩,
  ⟨(some 127), none, .pick (.tmp 122) (.const (.bool true)) (.tmp 126), .eff⟩])
 (.cond (.tmp 127) (.seq (.ops none [
  ⟨(some 2), none, .move (.const (.bool false)), .eff⟩])
 .ret)
 .skip))
 (.seq (.ops none [
  ⟨(some 3), none, .move (.const (.int .u64 1)), .eff⟩])
 (.seq (.seq (.ops none [
  ⟨(some 4), none, .move (.const (.int .i64 0)), .eff⟩])
 (.block 0 (.loop [1, 3, 4] (.seq (.seq (.ops none [
  ⟨(some 128), none, .move (.tmp 4), .eff⟩,
  ⟨(some 129), none, .faddr 6 (.tmp 1), .eff⟩,
  ⟨(some 130), none, .load none (.tmp 129), .eff⟩,
  ⟨(some 131), none, .bin .lss (.tmp 128) (.tmp 130), .eff⟩])
 (.cond (.tmp 131) .skip
 (.exit 0)))
 (.seq (.block 1 (.ops none [
  ⟨(some 134), none, .move (.tmp 3), .eff⟩,
  ⟨(some 135), none, .bin .mul (.tmp 134) (.const (.int .u64 2)), .eff⟩,
  ⟨(some 3), none, .move (.tmp 135), .eff⟩]))
 (.ops none [
  ⟨(some 132), none, .move (.tmp 4), .eff⟩,
  ⟨(some 133), none, .bin .add (.tmp 132) (.const (.int .i64 1)), .eff⟩,
  ⟨(some 4), none, .move (.tmp 133), .eff⟩]))))))
 (.seq (.seq (.ops none [
  ⟨(some 5), none, .move (.const (.int .i64 0)), .eff⟩])
 (.block 2 (.loop [1, 3, 5] (.seq (.seq (.ops none [
  ⟨(some 136), none, .move (.tmp 5), .eff⟩,
  ⟨(some 137), none, .faddr 7 (.tmp 1), .eff⟩,
  ⟨(some 138), none, .load none (.tmp 137), .eff⟩,
  ⟨(some 139), none, .len .slice (.tmp 138), .eff⟩,
  ⟨(some 140), none, .bin .lss (.tmp 136) (.tmp 139), .eff⟩])
 (.cond (.tmp 140) .skip
 (.exit 2)))
 (.seq (.block 3 (.seq (.ops none [
  ⟨(some 143), none, .faddr 7 (.tmp 1), .eff⟩,
  ⟨(some 144), none, .load none (.tmp 143), .eff⟩,
  ⟨(some 145), none, .move (.tmp 5), .eff⟩,
  ⟨(some 146), none, .iaddr 2 none (.tmp 144) (.tmp 145), .eff⟩,
  ⟨(some 147), none, .load (some 2) (.tmp 146), .eff⟩,
  ⟨(some 6), none, .alloc false [(.int .u32 0), (.int .i64 0)], .eff⟩,
  ⟨none, none, .store 2 (.tmp 6) (.tmp 147), .eff⟩])
 (.seq (.ops (some []) [
  ⟨(some 148), none, .faddr 0 (.tmp 6), .eff⟩,
  ⟨(some 149), none, .load none (.tmp 148), .eff⟩,
  ⟨(some 150), none, .cvt (.int .u64) (.tmp 149), .eff⟩,
  ⟨(some 151), none, .move (.tmp 3), .eff⟩,
  ⟨(some 152), none, .bin .geq (.tmp 150) (.tmp 151), .eff⟩,
  ⟨(some 153), none, .move (.tmp 152), .eff⟩,
  ⟨(some 154), (some (153, false)), .move (.tmp 5), .eff⟩,
  ⟨(some 155), (some (153, false)), .bin .gtr (.tmp 154) (.const (.int .i64 0)), .eff⟩,
  ⟨(some 156), (some (153, false)), .move (.tmp 155), .eff⟩,
  ⟨(some 157), (some (156, true)), .faddr 0 (.tmp 6), .eff⟩,
  ⟨(some 158), (some (156, true)), .load none (.tmp 157), .eff⟩,
  ⟨(some 159), (some (156, true)), .faddr 7 (.tmp 1), .eff⟩,
  ⟨(some 160), (some (156, true)), .load none (.tmp 159), .eff⟩,
  ⟨(some 161), (some (156, true)), .move (.tmp 5), .eff⟩,
  ⟨(some 162), (some (156, true)), .bin .sub (.tmp 161) (.const (.int .i64 1)), .eff⟩,
  ⟨(some 163), (some (156, true)), .iaddr 2 none (.tmp 160) (.tmp 162), .eff⟩,
  ⟨(some 164), (some (156, true)), .faddr 0 (.tmp 163), .eff⟩,
  ⟨(some 165), (some (156, true)), .load none (.tmp 164), .eff⟩,
  ⟨(some 166), (some (156, true)), .bin .leq (.tmp 158) (.tmp 165), .eff⟩,
  ⟨(some 167), (some (153, false)), .pick (.tmp 156) (.tmp 166) (.const (.bool false)), .eff⟩,
  ⟨(some 168), none, .pick (.tmp 153) (.const (.bool true)) (.tmp 167), .eff⟩,
  ⟨(some 169), none, .move (.tmp 168), .eff⟩,
  ⟨(some 170), (some (169, false)), .faddr 1 (.tmp 6), .eff⟩,
  ⟨(some 171), (some (169, false)), .load none (.tmp 170), .eff⟩,
  ⟨(some 172), (some (169, false)), .bin .lss (.tmp 171) (.const (.int .i64 0)), .eff⟩,
  ⟨(some 173), none, .pick (.tmp 169) (.const (.bool true)) (.tmp 172), .eff⟩,
  ⟨(some 174), none, .move (.tmp 173), .eff⟩,
  ⟨(some 175), (some (174, false)), .faddr 1 (.tmp 6), .eff⟩,
  ⟨(some 176), (some (174, false)), .load none (.tmp 175), .eff⟩,
  ⟨(some 177), (some (174, false)), .bin .gtr (.tmp 176) (.const (.int .i64 65535)), .eff⟩,
  ⟨(some 178), none, .pick (.tmp 174) (.const (.bool true)) (.tmp 177), .eff⟩])
 (.cond (.tmp 178) (.seq (.ops none [
  ⟨(some 2), none, .move (.const (.bool false)), .eff⟩])
 .ret)
 .skip))))
 (.ops none [
  ⟨(some 141), none, .move (.tmp 5), .eff⟩,
  ⟨(some 142), none, .bin .add (.tmp 141) (.const (.int .i64 1)), .eff⟩,
  ⟨(some 5), none, .move (.tmp 142), .eff⟩]))))))
 (.seq (.ops none [
  ⟨(some 2), none, .move (.const (.bool true)), .eff⟩])
 .ret))))))))⟩
set_option maxRecDepth 100000 in
theorem v53_ok : stripF (ttOf Try.prog) { hp := [], md := [], ks := [[1, 3, 4], [1, 3, 5]] } Try.f53 = some v53 := by kernel_rfl
theorem n53_ok : (Try.f53.name == "runtime.NumGoroutine") = false := by kernel_rfl
def v54 : VFun := ⟨1, 26, [.tmp 2],
 (.seq (.ops none [
  ⟨(some 1), none, .box false (.tmp 0), .eff⟩,
  ⟨(some 2), none, .move (.const (.slice none 0 0)), .eff⟩])
 (.seq (.ops none [
  ⟨(some 3), none, .move (.const (.slice none 0 0)), .eff⟩])
 (.seq (.seq (.ops none [
  ⟨(some 4), none, .move (.const (.int .i64 0)), .eff⟩])
 (.block 0 (.loop [1, 3, 4] (.seq (.seq (.ops none [
  ⟨(some 5), none, .move (.tmp 4), .eff⟩,
  ⟨(some 6), none, .faddr 7 (.tmp 1), .eff⟩,
  ⟨(some 7), none, .load none (.tmp 6), .eff⟩,
  ⟨(some 8), none, .len .slice (.tmp 7), .eff⟩,
  ⟨(some 9), none, .bin .lss (.tmp 5) (.tmp 8), .eff⟩])
 (.cond (.tmp 9) .skip
 (.exit 0)))
 (.seq (.block 1 (.ops none [
  ⟨(some 12), none, .move (.tmp 3), .eff⟩,
  ⟨(some 13), none, .faddr 7 (.tmp 1), .eff⟩,
  ⟨(some 14), none, .load none (.tmp 13), .eff⟩,
  ⟨(some 15), none, .move (.tmp 4), .eff⟩,
  ⟨(some 16), none, .iaddr 2 none (.tmp 14) (.tmp 15), .eff⟩,
  ⟨(some 17), none, .faddr 1 (.tmp 16), .eff⟩,
  ⟨(some 18), none, .load none (.tmp 17), .eff⟩,
  ⟨(some 19), none, .bslice [(.int .i64 0)] 1 1 [(0, (.tmp 18))], .eff⟩,
  ⟨(some 20), none, .append 1 8 (.tmp 12) (.tmp 19), .eff⟩,
  ⟨(some 3), none, .move (.tmp 20), .eff⟩]))
 (.ops none [
  ⟨(some 10), none, .move (.tmp 4), .eff⟩,
  ⟨(some 11), none, .bin .add (.tmp 10) (.const (.int .i64 1)), .eff⟩,
  ⟨(some 4), none, .move (.tmp 11), .eff⟩]))))))
 (.seq (.ops none [
  ⟨(some 21), none, .move (.tmp 3), .eff⟩,
  ⟨(some 22), none, .faddr 8 (.tmp 1), .eff⟩,
  ⟨(some 23), none, .load none (.tmp 22), .eff⟩,
  ⟨(some 24), none, .bslice [(.int .i64 0)] 1 1 [(0, (.tmp 23))], .eff⟩,
  ⟨(some 25), none, .append 1 8 (.tmp 21) (.tmp 24), .eff⟩,
  ⟨(some 2), none, .move (.tmp 25), .eff⟩])
 .ret))))⟩
set_option maxRecDepth 100000 in
theorem v54_ok : stripF (ttOf Try.prog) { hp := [], md := [], ks := [[1, 3, 4]] } Try.f54 = some v54 := by kernel_rfl
theorem n54_ok : (Try.f54.name == "runtime.NumGoroutine") = false := by kernel_rfl
def v55 : VFun := ⟨2, 25, [.cell 4 (some 9), .tmp 5],
 (.seq (.ops none [
  ⟨(some 4), none, .alloc false [(.int .i64 0), (.int .i64 0), (.int .i64 0), (.int .i64 0), (.int .i64 0), (.int .i64 0), (.int .i64 0), .nils, (.int .i64 0)], .eff⟩,
  ⟨(some 5), none, .move (.const (.bool false)), .eff⟩])
 (.seq (.seq (.ops none [
  ⟨(some 6), none, .move (.const (.int .i64 0)), .eff⟩])
 (.block 0 (.loop [0, 1, 4, 6] (.seq (.seq (.ops none [
  ⟨(some 7), none, .move (.tmp 6), .eff⟩,
  ⟨(some 8), none, .move (.tmp 0), .eff⟩,
  ⟨(some 9), none, .len .slice (.tmp 8), .eff⟩,
  ⟨(some 10), none, .bin .lss (.tmp 7) (.tmp 9), .eff⟩])
 (.cond (.tmp 10) .skip
 (.exit 0)))
 (.seq (.block 1 (.seq (.ops none [
  ⟨(some 13), none, .move (.tmp 0), .eff⟩,
  ⟨(some 14), none, .move (.tmp 6), .eff⟩,
  ⟨(some 15), none, .iaddr 9 none (.tmp 13) (.tmp 14), .eff⟩,
  ⟨(some 16), none, .faddr 0 (.tmp 15), .eff⟩,
  ⟨(some 17), none, .load none (.tmp 16), .eff⟩,
  ⟨(some 18), none, .move (.tmp 1), .eff⟩,
  ⟨(some 19), none, .eqv false (.one (.int .i64)) (.tmp 17) (.tmp 18), .eff⟩])
 (.cond (.tmp 19) (.seq (.ops none [
  ⟨(some 20), none, .move (.tmp 0), .eff⟩,
  ⟨(some 21), none, .move (.tmp 6), .eff⟩,
  ⟨(some 22), none, .iaddr 9 none (.tmp 20) (.tmp 21), .eff⟩,
  ⟨(some 23), none, .load (some 9) (.tmp 22), .eff⟩,
  ⟨none, none, .store 9 (.tmp 4) (.tmp 23), .eff⟩,
  ⟨(some 5), none, .move (.const (.bool true)), .eff⟩])
 .ret)
 .skip)))
 (.ops none [
  ⟨(some 11), none, .move (.tmp 6), .eff⟩,
  ⟨(some 12), none, .bin .add (.tmp 11) (.const (.int .i64 1)), .eff⟩,
  ⟨(some 6), none, .move (.tmp 12), .eff⟩]))))))
 (.seq (.ops none [
  ⟨(some 24), none, .build [(.int .i64 0), (.int .i64 0), (.int .i64 0), (.int .i64 0), (.int .i64 0), (.int .i64 0), (.int .i64 0), .nils, (.int .i64 0)] [], .eff⟩,
  ⟨none, none, .store 9 (.tmp 4) (.tmp 24), .eff⟩,
  ⟨(some 5), none, .move (.const (.bool false)), .eff⟩])
 .ret)))⟩
set_option maxRecDepth 100000 in
theorem v55_ok : stripF (ttOf Try.prog) { hp := [], md := [], ks := [[0, 1, 4, 6]] } Try.f55 = some v55 := by kernel_rfl
theorem n55_ok : (Try.f55.name == "runtime.NumGoroutine") = false := by kernel_rfl
def v56 : VFun := ⟨2, 88, [.tmp 3],
 (.seq (.ops none [
  ⟨(some 3), none, .move (.const (.int .i64 0)), .eff⟩])
 (.seq (.ops none [
  ⟨(some 8), none, .move (.tmp 0), .eff⟩,
  ⟨(some 9), none, .len .slice (.tmp 8), .eff⟩,
  ⟨(some 10), none, .bin .add (.tmp 9) (.const (.int .i64 1)), .eff⟩,
  ⟨(some 11), none, .mkslice [(.int .i64 0)] 8 (.tmp 10) (.tmp 10), .eff⟩,
  ⟨(some 4), none, .move (.tmp 11), .eff⟩])
 (.seq (.seq (.ops none [
  ⟨(some 12), none, .move (.tmp 0), .eff⟩,
  ⟨(some 13), none, .len .slice (.tmp 12), .eff⟩,
  ⟨(some 14), none, .bin .sub (.tmp 13) (.const (.int .i64 1)), .eff⟩,
  ⟨(some 5), none, .move (.tmp 14), .eff⟩])
 (.block 0 (.loop [0, 1, 4, 5] (.seq (.seq (.ops none [
  ⟨(some 15), none, .move (.tmp 5), .eff⟩,
  ⟨(some 16), none, .bin .geq (.tmp 15) (.const (.int .i64 0)), .eff⟩])
 (.cond (.tmp 16) .skip
 (.exit 0)))
 (.seq (.block 1 (.seq (.ops none [
  ⟨(some 19), none, .move (.tmp 4), .eff⟩,
  ⟨(some 20), none, .move (.tmp 5), .eff⟩,
  ⟨(some 21), none, .bin .add (.tmp 20) (.const (.int .i64 1)), .eff⟩,
  ⟨(some 22), none, .iaddr 1 none (.tmp 19) (.tmp 21), .eff⟩,
  ⟨(some 23), none, .load none (.tmp 22), .eff⟩,
  ⟨(some 6), none, .move (.tmp 23), .eff⟩])
 (.seq (.seq (.ops none [
  ⟨(some 24), none, .move (.tmp 0), .eff⟩,
  ⟨(some 25), none, .move (.tmp 5), .eff⟩,
  ⟨(some 26), none, .iaddr 7 none (.tmp 24) (.tmp 25), .eff⟩,
  ⟨(some 27), none, .faddr 0 (.tmp 26), .eff⟩,
  ⟨(some 28), none, .load none (.tmp 27), .eff⟩])
 (.block 2 (.seq (.seq (.ops none [
  ⟨(some 30), none, .eqv false (.one (.int .u8)) (.tmp 28) (.const (.int .u8 23)), .eff⟩,
  ⟨(some 29), none, .move (.tmp 30), .eff⟩])
 (.cond (.tmp 29) .skip
 (.ops none [
  ⟨(some 31), none, .eqv false (.one (.int .u8)) (.tmp 28) (.const (.int .u8 22)), .eff⟩,
  ⟨(some 29), none, .move (.tmp 31), .eff⟩])))
 (.cond (.tmp 29) (.ops none [
  ⟨(some 6), none, .move (.const (.int .i64 0)), .eff⟩])
 (.seq (.ops none [
  ⟨(some 33), none, .eqv false (.one (.int .u8)) (.tmp 28) (.const (.int .u8 13)), .eff⟩,
  ⟨(some 32), none, .move (.tmp 33), .eff⟩])
 (.cond (.tmp 32) (.ops (some []) [
  ⟨(some 34), none, .load none (.tmp 1), .eff⟩,
  ⟨(some 35), none, .move (.tmp 0), .eff⟩,
  ⟨(some 36), none, .move (.tmp 5), .eff⟩,
  ⟨(some 37), none, .iaddr 7 none (.tmp 35) (.tmp 36), .eff⟩,
  ⟨(some 38), none, .faddr 6 (.tmp 37), .eff⟩,
  ⟨(some 39), none, .load none (.tmp 38), .eff⟩,
  ⟨(some 40), none, .build [(.int .i64 0), (.int .i64 0)] [(0, 1, (.const (.int .i64 0))), (1, 1, (.tmp 39))], .eff⟩,
  ⟨(some 41), none, .callv (.tmp 34) [(.tmp 40)], .eff⟩,
  ⟨(some 6), none, .move (.tmp 41), .eff⟩])
 (.seq (.ops none [
  ⟨(some 43), none, .eqv false (.one (.int .u8)) (.tmp 28) (.const (.int .u8 14)), .eff⟩,
  ⟨(some 42), none, .move (.tmp 43), .eff⟩])
 (.cond (.tmp 42) (.ops (some []) [
  ⟨(some 44), none, .load none (.tmp 1), .eff⟩,
  ⟨(some 45), none, .move (.tmp 0), .eff⟩,
  ⟨(some 46), none, .move (.tmp 5), .eff⟩,
  ⟨(some 47), none, .iaddr 7 none (.tmp 45) (.tmp 46), .eff⟩,
  ⟨(some 48), none, .faddr 6 (.tmp 47), .eff⟩,
  ⟨(some 49), none, .load none (.tmp 48), .eff⟩,
  ⟨(some 50), none, .build [(.int .i64 0), (.int .i64 0)] [(0, 1, (.const (.int .i64 2))), (1, 1, (.tmp 49))], .eff⟩,
  ⟨(some 51), none, .callv (.tmp 44) [(.tmp 50)], .eff⟩,
  ⟨(some 6), none, .move (.tmp 51), .eff⟩])
 (.seq (.ops none [
  ⟨(some 53), none, .eqv false (.one (.int .u8)) (.tmp 28) (.const (.int .u8 12)), .eff⟩,
  ⟨(some 52), none, .move (.tmp 53), .eff⟩])
 (.cond (.tmp 52) (.seq (.ops none [
  ⟨(some 54), none, .move (.tmp 0), .eff⟩,
  ⟨(some 55), none, .move (.tmp 5), .eff⟩,
  ⟨(some 56), none, .iaddr 7 none (.tmp 54) (.tmp 55), .eff⟩,
  ⟨(some 57), none, .faddr 6 (.tmp 56), .eff⟩,
  ⟨(some 58), none, .load none (.tmp 57), .eff⟩,
  ⟨(some 7), none, .move (.tmp 58), .eff⟩])
 (.seq (.ops none [
  ⟨(some 59), none, .move (.tmp 7), .eff⟩,
  ⟨(some 60), none, .bin .geq (.tmp 59) (.const (.int .i64 0)), .eff⟩,
  ⟨(some 61), none, .move (.tmp 60), .eff⟩,
  ⟨(some 62), (some (61, true)), .move (.tmp 7), .eff⟩,
  ⟨(some 63), (some (61, true)), .move (.tmp 0), .eff⟩,
  ⟨(some 64), (some (61, true)), .len .slice (.tmp 63), .eff⟩,
  ⟨(some 65), (some (61, true)), .bin .sub (.tmp 64) (.const (.int .i64 1)), .eff⟩,
  ⟨(some 66), (some (61, true)), .move (.tmp 5), .eff⟩,
  ⟨(some 67), (some (61, true)), .bin .sub (.tmp 65) (.tmp 66), .eff⟩,
  ⟨(some 68), (some (61, true)), .bin .lss (.tmp 62) (.tmp 67), .eff⟩,
  ⟨(some 69), none, .pick (.tmp 61) (.tmp 68) (.const (.bool false)), .eff⟩])
 (.cond (.tmp 69) (.ops none [
  ⟨(some 70), none, .move (.tmp 6), .eff⟩,
  ⟨(some 71), none, .move (.tmp 4), .eff⟩,
  ⟨(some 72), none, .move (.tmp 5), .eff⟩,
  ⟨(some 73), none, .bin .add (.tmp 72) (.const (.int .i64 1)), .eff⟩,
  ⟨(some 74), none, .move (.tmp 7), .eff⟩,
  ⟨(some 75), none, .bin .add (.tmp 73) (.tmp 74), .eff⟩,
  ⟨(some 76), none, .iaddr 1 none (.tmp 71) (.tmp 75), .eff⟩,
  ⟨(some 77), none, .load none (.tmp 76), .eff⟩,
  ⟨(some 78), none, .mm true (.tmp 70) [(.tmp 77)], .eff⟩,
  ⟨(some 6), none, .move (.tmp 78), .eff⟩])
 .skip)))
 .skip))))))))))
 (.ops none [
  ⟨(some 79), none, .move (.tmp 4), .eff⟩,
  ⟨(some 80), none, .move (.tmp 5), .eff⟩,
  ⟨(some 81), none, .move (.tmp 6), .eff⟩,
  ⟨(some 82), none, .bin .add (.const (.int .i64 1)) (.tmp 81), .eff⟩,
  ⟨(some 83), none, .mm false (.const (.int .i64 65537)) [(.tmp 82)], .eff⟩,
  ⟨(some 84), none, .iaddr 1 none (.tmp 79) (.tmp 80), .eff⟩,
  ⟨none, none, .store 1 (.tmp 84) (.tmp 83), .eff⟩]))))
 (.ops none [
  ⟨(some 17), none, .move (.tmp 5), .eff⟩,
  ⟨(some 18), none, .bin .sub (.tmp 17) (.const (.int .i64 1)), .eff⟩,
  ⟨(some 5), none, .move (.tmp 18), .eff⟩]))))))
 (.seq (.ops none [
  ⟨(some 85), none, .move (.tmp 4), .eff⟩,
  ⟨(some 86), none, .iaddr 1 none (.tmp 85) (.const (.int .i64 0)), .eff⟩,
  ⟨(some 87), none, .load none (.tmp 86), .eff⟩,
  ⟨(some 3), none, .move (.tmp 87), .eff⟩])
 .ret))))⟩
set_option maxRecDepth 100000 in
theorem v56_ok : stripF (ttOf Try.prog) { hp := [], md := [], ks := [[0, 1, 4, 5]] } Try.f56 = some v56 := by kernel_rfl
theorem n56_ok : (Try.f56.name == "runtime.NumGoroutine") = false := by kernel_rfl
def v57 : VFun := ⟨5, 104, [.tmp 6],
 (.seq (.ops none [
  ⟨(some 5), none, .box false (.tmp 0), .eff⟩,
  ⟨(some 6), none, .move (.const (.int .i64 0)), .eff⟩])
 (.seq (.seq (.ops none [
  ⟨(some 19), none, .load none (.tmp 1), .eff⟩,
  ⟨(some 20), none, .load (some 2) (.tmp 5), .eff⟩,
  ⟨(some 21), none, .lookup (.flat [(.int .i64), (.int .i64)]) (.int .i64 0) (.tmp 19) (.tmp 20) true, .eff⟩,
  ⟨(some 18), none, .move (.tmp 21), .eff⟩,
  ⟨(some 22), none, .ext (.tmp 18) 0, .eff⟩,
  ⟨(some 23), none, .ext (.tmp 18) 1, .eff⟩,
  ⟨(some 7), none, .move (.tmp 22), .eff⟩,
  ⟨(some 8), none, .move (.tmp 23), .eff⟩])
 (.seq (.ops none [
  ⟨(some 24), none, .move (.tmp 8), .eff⟩])
 (.cond (.tmp 24) (.seq (.ops none [
  ⟨(some 25), none, .move (.tmp 7), .eff⟩,
  ⟨(some 6), none, .move (.tmp 25), .eff⟩])
 .ret)
 .skip)))
 (.seq (.ops none [
  ⟨(some 9), none, .move (.const (.int .i64 0)), .eff⟩])
 (.seq (.seq (.ops none [
  ⟨(some 26), none, .faddr 0 (.tmp 5), .eff⟩,
  ⟨(some 27), none, .load none (.tmp 26), .eff⟩])
 (.block 0 (.seq (.ops none [
  ⟨(some 59), none, .eqv false (.one (.int .i64)) (.tmp 27) (.const (.int .i64 0)), .eff⟩,
  ⟨(some 58), none, .move (.tmp 59), .eff⟩])
 (.cond (.tmp 58) (.seq (.ops (some []) [
  ⟨(some 61), none, .load none (.tmp 2), .eff⟩,
  ⟨(some 62), none, .nilck (.tmp 61), .eff⟩,
  ⟨(some 63), none, .faddr 0 (.tmp 62), .eff⟩,
  ⟨(some 64), none, .load none (.tmp 63), .eff⟩,
  ⟨(some 65), none, .faddr 1 (.tmp 5), .eff⟩,
  ⟨(some 66), none, .load none (.tmp 65), .eff⟩,
  ⟨(some 67), none, .lookup (.one (.int .i64)) .nils (.tmp 64) (.tmp 66) true, .eff⟩,
  ⟨(some 60), none, .move (.tmp 67), .eff⟩,
  ⟨(some 68), none, .ext (.tmp 60) 0, .eff⟩,
  ⟨(some 69), none, .ext (.tmp 60) 1, .eff⟩,
  ⟨(some 10), none, .move (.tmp 68), .eff⟩,
  ⟨(some 11), none, .move (.tmp 69), .eff⟩])
 (.seq (.seq (.ops none [
  ⟨(some 70), none, .move (.tmp 10), .eff⟩,
  ⟨(some 71), none, .len .slice (.tmp 70), .eff⟩,
  ⟨(some 72), none, .move (.const (.int .i64 0)), .eff⟩])
 (.block 3 (.loop [1, 3, 5, 9, 11, 70, 71, 72] (.seq (.ops none [
  ⟨(some 73), none, .bin .lss (.tmp 72) (.tmp 71), .eff⟩])
 (.seq (.cond (.tmp 73) .skip
 (.exit 3))
 (.seq (.block 4 (.seq (.ops none [
  ⟨(some 74), none, .iaddr 1 none (.tmp 70) (.tmp 72), .eff⟩,
  ⟨(some 75), none, .load none (.tmp 74), .eff⟩,
  ⟨(some 13), none, .move (.tmp 75), .eff⟩])
 (.ops none [
  ⟨(some 76), none, .move (.tmp 9), .eff⟩,
  ⟨(some 77), none, .load none (.tmp 3), .eff⟩,
  ⟨(some 78), none, .move (.tmp 13), .eff⟩,
  ⟨(some 79), none, .build [(.int .i64 0), (.int .i64 0)] [(0, 1, (.const (.int .i64 1))), (1, 1, (.tmp 78))], .eff⟩,
  ⟨(some 80), none, .callv (.tmp 77) [(.tmp 79)], .eff⟩,
  ⟨(some 81), none, .mm true (.tmp 76) [(.tmp 80)], .eff⟩,
  ⟨(some 9), none, .move (.tmp 81), .eff⟩])))
 (.ops none [
  ⟨(some 82), none, .bin .add (.tmp 72) (.const (.int .i64 1)), .eff⟩,
  ⟨(some 72), none, .move (.tmp 82), .eff⟩])))))))
 (.seq (.ops none [
  ⟨(some 83), none, .move (.tmp 11), .eff⟩])
 (.cond (.tmp 83) (.ops none [
  ⟨(some 84), none, .move (.tmp 9), .eff⟩,
  ⟨(some 85), none, .bin .add (.tmp 84) (.const (.int .i64 1)), .eff⟩,
  ⟨(some 9), none, .move (.tmp 85), .eff⟩])
 .skip))))
 (.seq (.ops none [
  ⟨(some 87), none, .eqv false (.one (.int .i64)) (.tmp 27) (.const (.int .i64 1)), .eff⟩,
  ⟨(some 86), none, .move (.tmp 87), .eff⟩])
 (.cond (.tmp 86) (.ops (some []) [
  ⟨(some 88), none, .load none (.tmp 4), .eff⟩,
  ⟨(some 89), none, .load none (.tmp 2), .eff⟩,
  ⟨(some 90), none, .nilck (.tmp 89), .eff⟩,
  ⟨(some 91), none, .faddr 1 (.tmp 90), .eff⟩,
  ⟨(some 92), none, .load none (.tmp 91), .eff⟩,
  ⟨(some 93), none, .faddr 1 (.tmp 5), .eff⟩,
  ⟨(some 94), none, .load none (.tmp 93), .eff⟩,
  ⟨(some 95), none, .lookup (.one (.int .i64)) .nils (.tmp 92) (.tmp 94) false, .eff⟩,
  ⟨(some 96), none, .callv (.tmp 88) [(.tmp 95)], .eff⟩,
  ⟨(some 9), none, .move (.tmp 96), .eff⟩])
 (.seq (.ops (some [(0, 7), (1, 7), (2, 7), (3, 7), (4, 7), (5, 7), (6, 7)]) [
  ⟨(some 28), none, .load none (.tmp 2), .eff⟩,
  ⟨(some 29), none, .nilck (.tmp 28), .eff⟩,
  ⟨(some 30), none, .faddr 2 (.tmp 29), .eff⟩,
  ⟨(some 31), none, .load none (.tmp 30), .eff⟩,
  ⟨(some 32), none, .faddr 1 (.tmp 5), .eff⟩,
  ⟨(some 33), none, .load none (.tmp 32), .eff⟩,
  ⟨(some 34), none, .lookup (.one (.int .i64)) (.agg [(.int .i64 0), (.int .u8 0), (.int .i64 0), .nils]) (.tmp 31) (.tmp 33) false, .eff⟩,
  ⟨(some 14), none, .alloc false [(.int .i64 0), (.int .u8 0), (.int .i64 0), .nils], .eff⟩,
  ⟨none, none, .store 4 (.tmp 14) (.tmp 34), .eff⟩])
 (.seq (.ops none [
  ⟨(some 35), none, .faddr 3 (.tmp 14), .eff⟩,
  ⟨(some 36), none, .load none (.tmp 35), .eff⟩,
  ⟨(some 37), none, .len .slice (.tmp 36), .eff⟩,
  ⟨(some 38), none, .move (.const (.int .i64 0)), .eff⟩])
 (.block 1 (.loop [1, 3, 5, 9, 14, 36, 37, 38] (.seq (.ops none [
  ⟨(some 39), none, .bin .lss (.tmp 38) (.tmp 37), .eff⟩])
 (.seq (.cond (.tmp 39) .skip
 (.exit 1))
 (.seq (.block 2 (.seq (.ops none [
  ⟨(some 40), none, .iaddr 2 none (.tmp 36) (.tmp 38), .eff⟩,
  ⟨(some 41), none, .load (some 2) (.tmp 40), .eff⟩,
  ⟨(some 16), none, .alloc false [(.int .u64 0), (.int .i64 0)], .eff⟩,
  ⟨none, none, .store 2 (.tmp 16) (.tmp 41), .eff⟩])
 (.seq (.ops none [
  ⟨(some 42), none, .load none (.tmp 3), .eff⟩,
  ⟨(some 43), none, .faddr 1 (.tmp 16), .eff⟩,
  ⟨(some 44), none, .load none (.tmp 43), .eff⟩,
  ⟨(some 45), none, .build [(.int .i64 0), (.int .i64 0)] [(0, 1, (.const (.int .i64 1))), (1, 1, (.tmp 44))], .eff⟩,
  ⟨(some 46), none, .callv (.tmp 42) [(.tmp 45)], .eff⟩,
  ⟨(some 17), none, .move (.tmp 46), .eff⟩])
 (.seq (.ops none [
  ⟨(some 47), none, .faddr 1 (.tmp 14), .eff⟩,
  ⟨(some 48), none, .load none (.tmp 47), .eff⟩,
  ⟨(some 49), none, .eqv false (.one (.int .u8)) (.tmp 48) (.const (.int .u8 1)), .eff⟩])
 (.cond (.tmp 49) (.ops none [
  ⟨(some 50), none, .move (.tmp 9), .eff⟩,
  ⟨(some 51), none, .move (.tmp 17), .eff⟩,
  ⟨(some 52), none, .bin .add (.tmp 50) (.tmp 51), .eff⟩,
  ⟨(some 53), none, .mm false (.const (.int .i64 65537)) [(.tmp 52)], .eff⟩,
  ⟨(some 9), none, .move (.tmp 53), .eff⟩])
 (.ops none [
  ⟨(some 54), none, .move (.tmp 9), .eff⟩,
  ⟨(some 55), none, .move (.tmp 17), .eff⟩,
  ⟨(some 56), none, .mm true (.tmp 54) [(.tmp 55)], .eff⟩,
  ⟨(some 9), none, .move (.tmp 56), .eff⟩]))))))
 (.ops none [
  ⟨(some 57), none, .bin .add (.tmp 38) (.const (.int .i64 1)), .eff⟩,
  ⟨(some 38), none, .move (.tmp 57), .eff⟩]))))))))))))))
 (.seq (.ops none [
  ⟨(some 97), none, .load none (.tmp 1), .eff⟩,
  ⟨(some 98), none, .load (some 2) (.tmp 5), .eff⟩,
  ⟨(some 99), none, .move (.tmp 9), .eff⟩,
  ⟨(some 100), none, .mm false (.const (.int .i64 65537)) [(.tmp 99)], .eff⟩,
  ⟨none, none, .mapup (.flat [(.int .i64), (.int .i64)]) (.tmp 97) (.tmp 98) (.tmp 100), .eff⟩])
 (.seq (.ops none [
  ⟨(some 101), none, .load none (.tmp 1), .eff⟩,
  ⟨(some 102), none, .load (some 2) (.tmp 5), .eff⟩,
  ⟨(some 103), none, .lookup (.flat [(.int .i64), (.int .i64)]) (.int .i64 0) (.tmp 101) (.tmp 102) false, .eff⟩,
  ⟨(some 6), none, .move (.tmp 103), .eff⟩])
 .ret))))))⟩
set_option maxRecDepth 100000 in
theorem v57_ok : stripF (ttOf Try.prog) { hp := [], md := [], ks := [[1, 3, 5, 9, 11, 70, 71, 72], [1, 3, 5, 9, 14, 36, 37, 38]] } Try.f57 = some v57 := by kernel_rfl
theorem n57_ok : (Try.f57.name == "runtime.NumGoroutine") = false := by kernel_rfl
def v58 : VFun := ⟨3, 42, [.tmp 6],
 (.seq (.ops none [
  ⟨(some 4), none, .box false (.tmp 1), .eff⟩,
  ⟨(some 5), none, .box false (.tmp 2), .eff⟩,
  ⟨(some 6), none, .move (.const (.int .i64 0)), .eff⟩])
 (.seq (.ops none [
  ⟨(some 9), none, .move (.tmp 0), .eff⟩,
  ⟨(some 10), none, .faddr 4 (.tmp 5), .eff⟩,
  ⟨(some 11), none, .load none (.tmp 10), .eff⟩,
  ⟨(some 12), none, .call 46 [(.tmp 9), (.const (.int .i64 2)), (.tmp 11)], .view⟩,
  ⟨(some 7), none, .move (.tmp 12), .eff⟩])
 (.seq (.seq (.ops none [
  ⟨(some 8), none, .move (.const (.int .i64 0)), .eff⟩])
 (.block 0 (.loop [0, 4, 5, 7, 8] (.seq (.seq (.ops none [
  ⟨(some 13), none, .move (.tmp 8), .eff⟩,
  ⟨(some 14), none, .faddr 3 (.tmp 4), .eff⟩,
  ⟨(some 15), none, .load none (.tmp 14), .eff⟩,
  ⟨(some 16), none, .len .slice (.tmp 15), .eff⟩,
  ⟨(some 17), none, .bin .lss (.tmp 13) (.tmp 16), .eff⟩])
 (.cond (.tmp 17) .skip
 (.exit 0)))
 (.seq (.block 1 (.seq (.ops (some []) [
  ⟨(some 20), none, .faddr 3 (.tmp 4), .eff⟩,
  ⟨(some 21), none, .load none (.tmp 20), .eff⟩,
  ⟨(some 22), none, .move (.tmp 8), .eff⟩,
  ⟨(some 23), none, .iaddr 11 none (.tmp 21) (.tmp 22), .eff⟩,
  ⟨(some 24), none, .faddr 0 (.tmp 23), .eff⟩,
  ⟨(some 25), none, .load none (.tmp 24), .eff⟩,
  ⟨(some 26), none, .faddr 0 (.tmp 5), .eff⟩,
  ⟨(some 27), none, .load none (.tmp 26), .eff⟩,
  ⟨(some 28), none, .eqv false (.one (.int .i64)) (.tmp 25) (.tmp 27), .eff⟩])
 (.cond (.tmp 28) (.ops none [
  ⟨(some 29), none, .move (.tmp 7), .eff⟩,
  ⟨(some 30), none, .move (.tmp 0), .eff⟩,
  ⟨(some 31), none, .faddr 3 (.tmp 4), .eff⟩,
  ⟨(some 32), none, .load none (.tmp 31), .eff⟩,
  ⟨(some 33), none, .move (.tmp 8), .eff⟩,
  ⟨(some 34), none, .iaddr 11 none (.tmp 32) (.tmp 33), .eff⟩,
  ⟨(some 35), none, .faddr 5 (.tmp 34), .eff⟩,
  ⟨(some 36), none, .load none (.tmp 35), .eff⟩,
  ⟨(some 37), none, .call 46 [(.tmp 30), (.const (.int .i64 2)), (.tmp 36)], .view⟩,
  ⟨(some 38), none, .mm true (.tmp 29) [(.tmp 37)], .eff⟩,
  ⟨(some 7), none, .move (.tmp 38), .eff⟩])
 .skip)))
 (.ops none [
  ⟨(some 18), none, .move (.tmp 8), .eff⟩,
  ⟨(some 19), none, .bin .add (.tmp 18) (.const (.int .i64 1)), .eff⟩,
  ⟨(some 8), none, .move (.tmp 19), .eff⟩]))))))
 (.seq (.ops none [
  ⟨(some 39), none, .move (.tmp 7), .eff⟩,
  ⟨(some 40), none, .bin .add (.const (.int .i64 1)) (.tmp 39), .eff⟩,
  ⟨(some 41), none, .call 28 [(.tmp 40)], .view⟩,
  ⟨(some 6), none, .move (.tmp 41), .eff⟩])
 .ret))))⟩
set_option maxRecDepth 100000 in
theorem v58_ok : stripF (ttOf Try.prog) { hp := [], md := [(12, .view), (37, .view), (41, .view)], ks := [[0, 4, 5, 7, 8]] } Try.f58 = some v58 := by kernel_rfl
theorem n58_ok : (Try.f58.name == "runtime.NumGoroutine") = false := by kernel_rfl
def v59 : VFun := ⟨2, 102, [.tmp 4],
 (.seq (.ops none [
  ⟨(some 4), none, .move (.const (.int .i64 0)), .eff⟩])
 (.seq (.ops none [
  ⟨(some 9), none, .move (.tmp 1), .eff⟩,
  ⟨(some 10), none, .len .slice (.tmp 9), .eff⟩,
  ⟨(some 11), none, .bin .add (.tmp 10) (.const (.int .i64 1)), .eff⟩,
  ⟨(some 12), none, .mkslice [(.int .i64 0)] 8 (.tmp 11) (.tmp 11), .eff⟩,
  ⟨(some 5), none, .move (.tmp 12), .eff⟩])
 (.seq (.seq (.ops none [
  ⟨(some 13), none, .move (.tmp 1), .eff⟩,
  ⟨(some 14), none, .len .slice (.tmp 13), .eff⟩,
  ⟨(some 15), none, .bin .sub (.tmp 14) (.const (.int .i64 1)), .eff⟩,
  ⟨(some 6), none, .move (.tmp 15), .eff⟩])
 (.block 0 (.loop [0, 1, 5, 6] (.seq (.seq (.ops none [
  ⟨(some 16), none, .move (.tmp 6), .eff⟩,
  ⟨(some 17), none, .bin .geq (.tmp 16) (.const (.int .i64 0)), .eff⟩])
 (.cond (.tmp 17) .skip
 (.exit 0)))
 (.seq (.block 1 (.seq (.ops none [
  ⟨(some 20), none, .move (.tmp 1), .eff⟩,
  ⟨(some 21), none, .move (.tmp 6), .eff⟩,
  ⟨(some 22), none, .iaddr 7 none (.tmp 20) (.tmp 21), .eff⟩,
  ⟨(some 23), none, .load (some 7) (.tmp 22), .eff⟩,
  ⟨(some 7), none, .alloc false [(.int .u8 0), (.int .i64 0), (.int .u8 0), (.int .u64 0), (.int .u8 0), (.int .u64 0), (.int .i64 0)], .eff⟩,
  ⟨none, none, .store 7 (.tmp 7) (.tmp 23), .eff⟩])
 (.seq (.ops none [
  ⟨(some 24), none, .faddr 0 (.tmp 7), .eff⟩,
  ⟨(some 25), none, .load none (.tmp 24), .eff⟩])
 (.block 2 (.seq (.ops none [
  ⟨(some 37), none, .eqv false (.one (.int .u8)) (.tmp 25) (.const (.int .u8 13)), .eff⟩,
  ⟨(some 36), none, .move (.tmp 37), .eff⟩])
 (.cond (.tmp 36) (.ops none [
  ⟨(some 38), none, .move (.tmp 5), .eff⟩,
  ⟨(some 39), none, .move (.tmp 6), .eff⟩,
  ⟨(some 40), none, .move (.tmp 0), .eff⟩,
  ⟨(some 41), none, .faddr 6 (.tmp 7), .eff⟩,
  ⟨(some 42), none, .load none (.tmp 41), .eff⟩,
  ⟨(some 43), none, .call 46 [(.tmp 40), (.const (.int .i64 1)), (.tmp 42)], .view⟩,
  ⟨(some 44), none, .bin .add (.const (.int .i64 1)) (.tmp 43), .eff⟩,
  ⟨(some 45), none, .call 28 [(.tmp 44)], .view⟩,
  ⟨(some 46), none, .iaddr 1 none (.tmp 38) (.tmp 39), .eff⟩,
  ⟨none, none, .store 1 (.tmp 46) (.tmp 45), .eff⟩])
 (.seq (.ops none [
  ⟨(some 48), none, .eqv false (.one (.int .u8)) (.tmp 25) (.const (.int .u8 14)), .eff⟩,
  ⟨(some 47), none, .move (.tmp 48), .eff⟩])
 (.cond (.tmp 47) (.ops none [
  ⟨(some 49), none, .move (.tmp 5), .eff⟩,
  ⟨(some 50), none, .move (.tmp 6), .eff⟩,
  ⟨(some 51), none, .move (.tmp 0), .eff⟩,
  ⟨(some 52), none, .faddr 6 (.tmp 7), .eff⟩,
  ⟨(some 53), none, .load none (.tmp 52), .eff⟩,
  ⟨(some 54), none, .call 46 [(.tmp 51), (.const (.int .i64 3)), (.tmp 53)], .view⟩,
  ⟨(some 55), none, .bin .add (.const (.int .i64 1)) (.tmp 54), .eff⟩,
  ⟨(some 56), none, .call 28 [(.tmp 55)], .view⟩,
  ⟨(some 57), none, .iaddr 1 none (.tmp 49) (.tmp 50), .eff⟩,
  ⟨none, none, .store 1 (.tmp 57) (.tmp 56), .eff⟩])
 (.seq (.seq (.ops none [
  ⟨(some 59), none, .eqv false (.one (.int .u8)) (.tmp 25) (.const (.int .u8 23)), .eff⟩,
  ⟨(some 58), none, .move (.tmp 59), .eff⟩])
 (.cond (.tmp 58) .skip
 (.ops none [
  ⟨(some 60), none, .eqv false (.one (.int .u8)) (.tmp 25) (.const (.int .u8 22)), .eff⟩,
  ⟨(some 58), none, .move (.tmp 60), .eff⟩])))
 (.cond (.tmp 58) (.ops none [
  ⟨(some 61), none, .move (.tmp 5), .eff⟩,
  ⟨(some 62), none, .move (.tmp 6), .eff⟩,
  ⟨(some 63), none, .iaddr 1 none (.tmp 61) (.tmp 62), .eff⟩,
  ⟨none, none, .store 1 (.tmp 63) (.const (.int .i64 1)), .eff⟩])
 (.seq (.ops none [
  ⟨(some 65), none, .eqv false (.one (.int .u8)) (.tmp 25) (.const (.int .u8 12)), .eff⟩,
  ⟨(some 64), none, .move (.tmp 65), .eff⟩])
 (.cond (.tmp 64) (.seq (.ops none [
  ⟨(some 8), none, .move (.const (.int .i64 0)), .eff⟩])
 (.seq (.seq (.ops none [
  ⟨(some 66), none, .faddr 6 (.tmp 7), .eff⟩,
  ⟨(some 67), none, .load none (.tmp 66), .eff⟩,
  ⟨(some 68), none, .bin .geq (.tmp 67) (.const (.int .i64 0)), .eff⟩,
  ⟨(some 69), none, .move (.tmp 68), .eff⟩,
  ⟨(some 70), (some (69, true)), .faddr 6 (.tmp 7), .eff⟩,
  ⟨(some 71), (some (69, true)), .load none (.tmp 70), .eff⟩,
  ⟨(some 72), (some (69, true)), .move (.tmp 1), .eff⟩,
  ⟨(some 73), (some (69, true)), .len .slice (.tmp 72), .eff⟩,
  ⟨(some 74), (some (69, true)), .bin .sub (.tmp 73) (.const (.int .i64 1)), .eff⟩,
  ⟨(some 75), (some (69, true)), .move (.tmp 6), .eff⟩,
  ⟨(some 76), (some (69, true)), .bin .sub (.tmp 74) (.tmp 75), .eff⟩,
  ⟨(some 77), (some (69, true)), .bin .lss (.tmp 71) (.tmp 76), .eff⟩,
  ⟨(some 78), none, .pick (.tmp 69) (.tmp 77) (.const (.bool false)), .eff⟩])
 (.cond (.tmp 78) (.ops none [
  ⟨(some 79), none, .move (.tmp 5), .eff⟩,
  ⟨(some 80), none, .move (.tmp 6), .eff⟩,
  ⟨(some 81), none, .bin .add (.tmp 80) (.const (.int .i64 1)), .eff⟩,
  ⟨(some 82), none, .faddr 6 (.tmp 7), .eff⟩,
  ⟨(some 83), none, .load none (.tmp 82), .eff⟩,
  ⟨(some 84), none, .bin .add (.tmp 81) (.tmp 83), .eff⟩,
  ⟨(some 85), none, .iaddr 1 none (.tmp 79) (.tmp 84), .eff⟩,
  ⟨(some 86), none, .load none (.tmp 85), .eff⟩,
  ⟨(some 8), none, .move (.tmp 86), .eff⟩])
 .skip))
 (.ops none [
  ⟨(some 87), none, .move (.tmp 5), .eff⟩,
  ⟨(some 88), none, .move (.tmp 6), .eff⟩,
  ⟨(some 89), none, .move (.tmp 5), .eff⟩,
  ⟨(some 90), none, .move (.tmp 6), .eff⟩,
  ⟨(some 91), none, .bin .add (.tmp 90) (.const (.int .i64 1)), .eff⟩,
  ⟨(some 92), none, .iaddr 1 none (.tmp 89) (.tmp 91), .eff⟩,
  ⟨(some 93), none, .load none (.tmp 92), .eff⟩,
  ⟨(some 94), none, .move (.tmp 8), .eff⟩,
  ⟨(some 95), none, .mm true (.tmp 93) [(.tmp 94)], .eff⟩,
  ⟨(some 96), none, .bin .add (.const (.int .i64 1)) (.tmp 95), .eff⟩,
  ⟨(some 97), none, .call 28 [(.tmp 96)], .view⟩,
  ⟨(some 98), none, .iaddr 1 none (.tmp 87) (.tmp 88), .eff⟩,
  ⟨none, none, .store 1 (.tmp 98) (.tmp 97), .eff⟩])))
 (.ops none [
  ⟨(some 26), none, .move (.tmp 5), .eff⟩,
  ⟨(some 27), none, .move (.tmp 6), .eff⟩,
  ⟨(some 28), none, .move (.tmp 5), .eff⟩,
  ⟨(some 29), none, .move (.tmp 6), .eff⟩,
  ⟨(some 30), none, .bin .add (.tmp 29) (.const (.int .i64 1)), .eff⟩,
  ⟨(some 31), none, .iaddr 1 none (.tmp 28) (.tmp 30), .eff⟩,
  ⟨(some 32), none, .load none (.tmp 31), .eff⟩,
  ⟨(some 33), none, .bin .add (.const (.int .i64 1)) (.tmp 32), .eff⟩,
  ⟨(some 34), none, .call 28 [(.tmp 33)], .view⟩,
  ⟨(some 35), none, .iaddr 1 none (.tmp 26) (.tmp 27), .eff⟩,
  ⟨none, none, .store 1 (.tmp 35) (.tmp 34), .eff⟩])))))))))))))
 (.ops none [
  ⟨(some 18), none, .move (.tmp 6), .eff⟩,
  ⟨(some 19), none, .bin .sub (.tmp 18) (.const (.int .i64 1)), .eff⟩,
  ⟨(some 6), none, .move (.tmp 19), .eff⟩]))))))
 (.seq (.ops none [
  ⟨(some 99), none, .move (.tmp 5), .eff⟩,
  ⟨(some 100), none, .iaddr 1 none (.tmp 99) (.const (.int .i64 0)), .eff⟩,
  ⟨(some 101), none, .load none (.tmp 100), .eff⟩,
  ⟨(some 4), none, .move (.tmp 101), .eff⟩])
 .ret))))⟩
set_option maxRecDepth 100000 in
theorem v59_ok : stripF (ttOf Try.prog) { hp := [], md := [(43, .view), (45, .view), (54, .view), (56, .view), (97, .view), (34, .view)], ks := [[0, 1, 5, 6]] } Try.f59 = some v59 := by kernel_rfl
theorem n59_ok : (Try.f59.name == "runtime.NumGoroutine") = false := by kernel_rfl
def v60 : VFun := ⟨2, 36, [.tmp 4],
 (.seq (.ops none [
  ⟨(some 3), none, .box false (.tmp 1), .eff⟩,
  ⟨(some 4), none, .move (.const (.int .i64 0)), .eff⟩])
 (.seq (.ops none [
  ⟨(some 5), none, .move (.const (.int .i64 0)), .eff⟩,
  ⟨(some 6), none, .move (.const (.int .i64 0)), .eff⟩])
 (.seq (.seq (.ops none [
  ⟨(some 7), none, .move (.const (.int .i64 0)), .eff⟩])
 (.block 0 (.loop [0, 3, 5, 6, 7] (.seq (.seq (.ops none [
  ⟨(some 9), none, .move (.tmp 7), .eff⟩,
  ⟨(some 10), none, .faddr 3 (.tmp 3), .eff⟩,
  ⟨(some 11), none, .load none (.tmp 10), .eff⟩,
  ⟨(some 12), none, .len .slice (.tmp 11), .eff⟩,
  ⟨(some 13), none, .bin .lss (.tmp 9) (.tmp 12), .eff⟩])
 (.cond (.tmp 13) .skip
 (.exit 0)))
 (.seq (.block 1 (.seq (.ops none [
  ⟨(some 16), none, .move (.tmp 0), .eff⟩,
  ⟨(some 17), none, .faddr 3 (.tmp 3), .eff⟩,
  ⟨(some 18), none, .load none (.tmp 17), .eff⟩,
  ⟨(some 19), none, .move (.tmp 7), .eff⟩,
  ⟨(some 20), none, .iaddr 2 none (.tmp 18) (.tmp 19), .eff⟩,
  ⟨(some 21), none, .faddr 1 (.tmp 20), .eff⟩,
  ⟨(some 22), none, .load none (.tmp 21), .eff⟩,
  ⟨(some 23), none, .call 46 [(.tmp 16), (.const (.int .i64 2)), (.tmp 22)], .view⟩,
  ⟨(some 8), none, .move (.tmp 23), .eff⟩])
 (.seq (.ops none [
  ⟨(some 24), none, .move (.tmp 5), .eff⟩,
  ⟨(some 25), none, .move (.tmp 8), .eff⟩,
  ⟨(some 26), none, .bin .add (.tmp 24) (.tmp 25), .eff⟩,
  ⟨(some 27), none, .call 28 [(.tmp 26)], .view⟩,
  ⟨(some 5), none, .move (.tmp 27), .eff⟩])
 (.ops none [
  ⟨(some 28), none, .move (.tmp 6), .eff⟩,
  ⟨(some 29), none, .move (.tmp 8), .eff⟩,
  ⟨(some 30), none, .mm true (.tmp 28) [(.tmp 29)], .eff⟩,
  ⟨(some 6), none, .move (.tmp 30), .eff⟩]))))
 (.ops none [
  ⟨(some 14), none, .move (.tmp 7), .eff⟩,
  ⟨(some 15), none, .bin .add (.tmp 14) (.const (.int .i64 1)), .eff⟩,
  ⟨(some 7), none, .move (.tmp 15), .eff⟩]))))))
 (.seq (.seq (.ops none [
  ⟨(some 31), none, .faddr 1 (.tmp 3), .eff⟩,
  ⟨(some 32), none, .load none (.tmp 31), .eff⟩,
  ⟨(some 33), none, .eqv false (.one (.int .u8)) (.tmp 32) (.const (.int .u8 1)), .eff⟩])
 (.cond (.tmp 33) (.seq (.ops none [
  ⟨(some 34), none, .move (.tmp 5), .eff⟩,
  ⟨(some 4), none, .move (.tmp 34), .eff⟩])
 .ret)
 .skip))
 (.seq (.ops none [
  ⟨(some 35), none, .move (.tmp 6), .eff⟩,
  ⟨(some 4), none, .move (.tmp 35), .eff⟩])
 .ret)))))⟩
set_option maxRecDepth 100000 in
theorem v60_ok : stripF (ttOf Try.prog) { hp := [], md := [(23, .view), (27, .view)], ks := [[0, 3, 5, 6, 7]] } Try.f60 = some v60 := by kernel_rfl
theorem n60_ok : (Try.f60.name == "runtime.NumGoroutine") = false := by kernel_rfl
def v61 : VFun := ⟨1, 99, [.tmp 2],
 (.seq (.ops none [
  ⟨(some 1), none, .box false (.tmp 0), .eff⟩,
  ⟨(some 2), none, .move (.const (.bool false)), .eff⟩])
 (.seq (.seq (.ops none [
  ⟨(some 5), none, .faddr 0 (.tmp 1), .eff⟩,
  ⟨(some 6), none, .load none (.tmp 5), .eff⟩,
  ⟨(some 7), none, .bin .lss (.tmp 6) (.const (.int .i64 1)), .eff⟩,
  ⟨(some 8), none, .move (.tmp 7), .eff⟩,
  ⟨(some 9), (some (8, false)), .faddr 0 (.tmp 1), .eff⟩,
  ⟨(some 10), (some (8, false)), .load none (.tmp 9), .eff⟩,
  ⟨(some 11), (some (8, false)), .bin .gtr (.tmp 10) (.const (.int .i64 65534)), .eff⟩,
  ⟨(some 12), none, .pick (.tmp 8) (.const (.bool true)) (.tmp 11), .eff⟩,
  ⟨(some 13), none, .move (.tmp 12), .eff⟩,
  ⟨(some 14), (some (13, false)), .faddr 1 (.tmp 1), .eff⟩,
  ⟨(some 15), (some (13, false)), .load none (.tmp 14), .eff⟩,
  ⟨(some 16), (some (13, false)), .bin .lss (.tmp 15) (.const (.int .i64 0)), .eff⟩,
  ⟨(some 17), none, .pick (.tmp 13) (.const (.bool true)) (.tmp 16), .eff⟩,
  ⟨(some 18), none, .move (.tmp 17), .eff⟩,
  ⟨(some 19), (some (18, false)), .faddr 1 (.tmp 1), .eff⟩,
  ⟨(some 20), (some (18, false)), .load none (.tmp 19), .eff⟩,
  ⟨(some 21), (some (18, false)), .bin .gtr (.tmp 20) (.const (.int .i64 256)), .eff⟩,
  ⟨(some 22), none, .pick (.tmp 18) (.const (.bool true)) (.tmp 21), .eff⟩,
  ⟨(some 23), none, .move (.tmp 22), .eff⟩,
  ⟨(some 24), (some (23, false)), .faddr 8 (.tmp 1), .eff⟩,
  ⟨(some 25), (some (23, false)), .load none (.tmp 24), .eff⟩,
  ⟨(some 26), (some (23, false)), .call 62 [(.tmp 25)], .view⟩,
  ⟨(some 27), (some (23, false)), .un .not (.tmp 26), .eff⟩,
  ⟨(some 28), none, .pick (.tmp 23) (.const (.bool true)) (.tmp 27), .eff⟩,
  ⟨(some 29), none, .move (.tmp 28), .eff⟩,
  ⟨(some 30), (some (29, false)), .faddr 7 (.tmp 1), .eff⟩,
  ⟨(some 31), (some (29, false)), .load none (.tmp 30), .eff⟩,
  ⟨(some 32), (some (29, false)), .len .slice (.tmp 31), .eff⟩,
  ⟨(some 33), (some (29, false)), .bin .gtr (.tmp 32) (.const (.int .i64 32)), .eff⟩,
  ⟨(some 34), none, .pick (.tmp 29) (.const (.bool true)) (.tmp 33), .eff⟩])
 (.cond (.tmp 34) (.seq (.ops none [
  ⟨(some 2), none, .move (.const (.bool false)), .eff⟩])
 .ret)
 .skip))
 (.seq (.seq (.ops none [
  ⟨(some 35), none, .faddr 2 (.tmp 1), .eff⟩,
  ⟨(some 36), none, .load none (.tmp 35), .eff⟩,
  ⟨(some 37), none, .faddr 3 (.tmp 1), .eff⟩,
  ⟨(some 38), none, .load none (.tmp 37), .eff⟩,
  ⟨(some 39), none, .build [(.int .i64 0), (.int .i64 0), (.int .i64 0)] [(0, 1, (.tmp 36)), (1, 1, (.tmp 38)), (2, 1, (.const (.int .i64 16)))], .eff⟩,
  ⟨(some 40), none, .call 63 [(.tmp 39)], .view⟩,
  ⟨(some 41), none, .un .not (.tmp 40), .eff⟩,
  ⟨(some 42), none, .move (.tmp 41), .eff⟩,
  ⟨(some 43), (some (42, false)), .load (some 9) (.tmp 1), .eff⟩,
  ⟨(some 44), (some (42, false)), .call 64 [(.tmp 43)], .view⟩,
  ⟨(some 45), (some (42, false)), .un .not (.tmp 44), .eff⟩,
  ⟨(some 46), none, .pick (.tmp 42) (.const (.bool true)) (.tmp 45), .eff⟩,
  ⟨(some 47), none, .move (.tmp 46), .eff⟩,
  ⟨(some 48), (some (47, false)), .faddr 5 (.tmp 1), .eff⟩,
  ⟨(some 49), (some (47, false)), .load none (.tmp 48), .eff⟩,
  ⟨(some 50), (some (47, false)), .faddr 6 (.tmp 1), .eff⟩,
  ⟨(some 51), (some (47, false)), .load none (.tmp 50), .eff⟩,
  ⟨(some 52), (some (47, false)), .build [(.int .i64 0), (.int .i64 0), (.int .i64 0)] [(0, 1, (.tmp 49)), (1, 1, (.tmp 51)), (2, 1, (.const (.int .i64 32)))], .eff⟩,
  ⟨(some 53), (some (47, false)), .call 63 [(.tmp 52)], .view⟩,
  ⟨(some 54), (some (47, false)), .un .not (.tmp 53), .eff⟩,
  ⟨(some 55), none, .pick (.tmp 47) (.const (.bool true)) (.tmp 54), .eff⟩])
 (.cond (.tmp 55) (.seq (.ops none [
  ⟨(some 2), none, .move (.const (.bool false)), .eff⟩])
 .ret)
 .skip))
 (.seq (.seq (.ops none [
  ⟨(some 56), none, .faddr 7 (.tmp 1), .eff⟩,
  ⟨(some 57), none, .load none (.tmp 56), .eff⟩,
  ⟨(some 58), none, .len .slice (.tmp 57), .eff⟩,
  ⟨(some 59), none, .move (.const (.int .i64 0)), .eff⟩])
 (.block 0 (.loop [1, 57, 58, 59] (.seq (.ops none [
  ⟨(some 60), none, .bin .lss (.tmp 59) (.tmp 58), .eff⟩])
 (.seq (.cond (.tmp 60) .skip
 (.exit 0))
 (.seq (.block 1 (.seq (.ops none [
  ⟨(some 61), none, .move (.tmp 59), .eff⟩,
  ⟨(some 62), none, .iaddr 2 none (.tmp 57) (.tmp 59), .eff⟩,
  ⟨(some 63), none, .load (some 2) (.tmp 62), .eff⟩,
  ⟨(some 4), none, .alloc false [(.int .u32 0), (.int .i64 0)], .eff⟩,
  ⟨(some 3), none, .move (.tmp 61), .eff⟩,
  ⟨none, none, .store 2 (.tmp 4) (.tmp 63), .eff⟩])
 (.seq (.ops (some []) [
  ⟨(some 64), none, .faddr 0 (.tmp 4), .eff⟩,
  ⟨(some 65), none, .load none (.tmp 64), .eff⟩,
  ⟨(some 66), none, .cvt (.int .u64) (.tmp 65), .eff⟩,
  ⟨(some 67), none, .faddr 6 (.tmp 1), .eff⟩,
  ⟨(some 68), none, .load none (.tmp 67), .eff⟩,
  ⟨(some 69), none, .bin .shr (.tmp 66) (.tmp 68), .eff⟩,
  ⟨(some 70), none, .bin .gtr (.tmp 69) (.const (.int .u64 0)), .eff⟩,
  ⟨(some 71), none, .move (.tmp 70), .eff⟩,
  ⟨(some 72), (some (71, false)), .faddr 6 (.tmp 1), .eff⟩,
  ⟨(some 73), (some (71, false)), .load none (.tmp 72), .eff⟩,
  ⟨(some 74), (some (71, false)), .eqv false (.one (.int .i64)) (.tmp 73) (.const (.int .i64 0)), .eff⟩,
  ⟨(some 75), none, .pick (.tmp 71) (.const (.bool true)) (.tmp 74), .eff⟩,
  ⟨(some 76), none, .move (.tmp 75), .eff⟩,
  ⟨(some 77), (some (76, false)), .move (.tmp 3), .eff⟩,
  ⟨(some 78), (some (76, false)), .bin .gtr (.tmp 77) (.const (.int .i64 0)), .eff⟩,
  ⟨(some 79), (some (76, false)), .move (.tmp 78), .eff⟩,
  ⟨(some 80), (some (79, true)), .faddr 0 (.tmp 4), .eff⟩,
  ⟨(some 81), (some (79, true)), .load none (.tmp 80), .eff⟩,
  ⟨(some 82), (some (79, true)), .faddr 7 (.tmp 1), .eff⟩,
  ⟨(some 83), (some (79, true)), .load none (.tmp 82), .eff⟩,
  ⟨(some 84), (some (79, true)), .move (.tmp 3), .eff⟩,
  ⟨(some 85), (some (79, true)), .bin .sub (.tmp 84) (.const (.int .i64 1)), .eff⟩,
  ⟨(some 86), (some (79, true)), .iaddr 2 none (.tmp 83) (.tmp 85), .eff⟩,
  ⟨(some 87), (some (79, true)), .faddr 0 (.tmp 86), .eff⟩,
  ⟨(some 88), (some (79, true)), .load none (.tmp 87), .eff⟩,
  ⟨(some 89), (some (79, true)), .bin .leq (.tmp 81) (.tmp 88), .eff⟩,
  ⟨(some 90), (some (76, false)), .pick (.tmp 79) (.tmp 89) (.const (.bool false)), .eff⟩,
  ⟨(some 91), none, .pick (.tmp 76) (.const (.bool true)) (.tmp 90), .eff⟩,
  ⟨(some 92), none, .move (.tmp 91), .eff⟩,
  ⟨(some 93), (some (92, false)), .faddr 1 (.tmp 4), .eff⟩,
  ⟨(some 94), (some (92, false)), .load none (.tmp 93), .eff⟩,
  ⟨(some 95), (some (92, false)), .call 62 [(.tmp 94)], .view⟩,
  ⟨(some 96), (some (92, false)), .un .not (.tmp 95), .eff⟩,
  ⟨(some 97), none, .pick (.tmp 92) (.const (.bool true)) (.tmp 96), .eff⟩])
 (.cond (.tmp 97) (.seq (.ops none [
  ⟨(some 2), none, .move (.const (.bool false)), .eff⟩])
 .ret)
 .skip))))
 (.ops none [
  ⟨(some 98), none, .bin .add (.tmp 59) (.const (.int .i64 1)), .eff⟩,
  ⟨(some 59), none, .move (.tmp 98), .eff⟩])))))))
 (.seq (.ops none [
  ⟨(some 2), none, .move (.const (.bool true)), .eff⟩])
 .ret)))))⟩
set_option maxRecDepth 100000 in
theorem v61_ok : stripF (ttOf Try.prog) { hp := [], md := [(26, .view), (40, .view), (44, .view), (53, .view), (95, .view)], ks := [[1, 57, 58, 59]] } Try.f61 = some v61 := by kernel_rfl
theorem n61_ok : (Try.f61.name == "runtime.NumGoroutine") = false := by kernel_rfl
def v62 : VFun := ⟨1, 9, [.tmp 2],
 (.seq (.ops none [
  ⟨(some 2), none, .move (.const (.bool false)), .eff⟩])
 (.seq (.ops none [
  ⟨(some 3), none, .move (.tmp 0), .eff⟩,
  ⟨(some 4), none, .bin .geq (.tmp 3) (.const (.int .i64 0)), .eff⟩,
  ⟨(some 5), none, .move (.tmp 4), .eff⟩,
  ⟨(some 6), (some (5, true)), .move (.tmp 0), .eff⟩,
  ⟨(some 7), (some (5, true)), .bin .leq (.tmp 6) (.const (.int .i64 65535)), .eff⟩,
  ⟨(some 8), none, .pick (.tmp 5) (.tmp 7) (.const (.bool false)), .eff⟩,
  ⟨(some 2), none, .move (.tmp 8), .eff⟩])
 .ret))⟩
set_option maxRecDepth 100000 in
theorem v62_ok : stripF (ttOf Try.prog) { hp := [], md := [], ks := [] } Try.f62 = some v62 := by kernel_rfl
theorem n62_ok : (Try.f62.name == "runtime.NumGoroutine") = false := by kernel_rfl
def v63 : VFun := ⟨1, 29, [.tmp 2],
 (.seq (.ops none [
  ⟨(some 1), none, .box false (.tmp 0), .eff⟩,
  ⟨(some 2), none, .move (.const (.bool false)), .eff⟩])
 (.seq (.seq (.ops none [
  ⟨(some 3), none, .faddr 1 (.tmp 1), .eff⟩,
  ⟨(some 4), none, .load none (.tmp 3), .eff⟩,
  ⟨(some 5), none, .eqv false (.one (.int .i64)) (.tmp 4) (.const (.int .i64 0)), .eff⟩])
 (.cond (.tmp 5) (.seq (.ops none [
  ⟨(some 6), none, .faddr 0 (.tmp 1), .eff⟩,
  ⟨(some 7), none, .load none (.tmp 6), .eff⟩,
  ⟨(some 8), none, .eqv false (.one (.int .i64)) (.tmp 7) (.const (.int .i64 0)), .eff⟩,
  ⟨(some 2), none, .move (.tmp 8), .eff⟩])
 .ret)
 .skip))
 (.seq (.ops none [
  ⟨(some 9), none, .faddr 1 (.tmp 1), .eff⟩,
  ⟨(some 10), none, .load none (.tmp 9), .eff⟩,
  ⟨(some 11), none, .bin .gtr (.tmp 10) (.const (.int .i64 0)), .eff⟩,
  ⟨(some 12), none, .move (.tmp 11), .eff⟩,
  ⟨(some 13), (some (12, true)), .faddr 1 (.tmp 1), .eff⟩,
  ⟨(some 14), (some (12, true)), .load none (.tmp 13), .eff⟩,
  ⟨(some 15), (some (12, true)), .faddr 2 (.tmp 1), .eff⟩,
  ⟨(some 16), (some (12, true)), .load none (.tmp 15), .eff⟩,
  ⟨(some 17), (some (12, true)), .bin .leq (.tmp 14) (.tmp 16), .eff⟩,
  ⟨(some 18), none, .pick (.tmp 12) (.tmp 17) (.const (.bool false)), .eff⟩,
  ⟨(some 19), none, .move (.tmp 18), .eff⟩,
  ⟨(some 20), (some (19, true)), .faddr 0 (.tmp 1), .eff⟩,
  ⟨(some 21), (some (19, true)), .load none (.tmp 20), .eff⟩,
  ⟨(some 22), (some (19, true)), .bin .geq (.tmp 21) (.const (.int .i64 0)), .eff⟩,
  ⟨(some 23), none, .pick (.tmp 19) (.tmp 22) (.const (.bool false)), .eff⟩,
  ⟨(some 24), none, .move (.tmp 23), .eff⟩,
  ⟨(some 25), (some (24, true)), .faddr 0 (.tmp 1), .eff⟩,
  ⟨(some 26), (some (24, true)), .load none (.tmp 25), .eff⟩,
  ⟨(some 27), (some (24, true)), .bin .leq (.tmp 26) (.const (.int .i64 2048)), .eff⟩,
  ⟨(some 28), none, .pick (.tmp 24) (.tmp 27) (.const (.bool false)), .eff⟩,
  ⟨(some 2), none, .move (.tmp 28), .eff⟩])
 .ret)))⟩
set_option maxRecDepth 100000 in
theorem v63_ok : stripF (ttOf Try.prog) { hp := [], md := [], ks := [] } Try.f63 = some v63 := by kernel_rfl
theorem n63_ok : (Try.f63.name == "runtime.NumGoroutine") = false := by kernel_rfl
def v64 : VFun := ⟨1, 17, [.tmp 2],
 (.seq (.ops none [
  ⟨(some 1), none, .box false (.tmp 0), .eff⟩,
  ⟨(some 2), none, .move (.const (.bool false)), .eff⟩])
 (.seq (.seq (.ops none [
  ⟨(some 3), none, .faddr 3 (.tmp 1), .eff⟩,
  ⟨(some 4), none, .load none (.tmp 3), .eff⟩,
  ⟨(some 5), none, .eqv false (.one (.int .i64)) (.tmp 4) (.const (.int .i64 0)), .eff⟩])
 (.cond (.tmp 5) (.seq (.ops none [
  ⟨(some 6), none, .faddr 4 (.tmp 1), .eff⟩,
  ⟨(some 7), none, .load none (.tmp 6), .eff⟩,
  ⟨(some 8), none, .eqv false (.one (.int .i64)) (.tmp 7) (.const (.int .i64 0)), .eff⟩,
  ⟨(some 2), none, .move (.tmp 8), .eff⟩])
 .ret)
 .skip))
 (.seq (.ops none [
  ⟨(some 9), none, .faddr 4 (.tmp 1), .eff⟩,
  ⟨(some 10), none, .load none (.tmp 9), .eff⟩,
  ⟨(some 11), none, .bin .geq (.tmp 10) (.const (.int .i64 1)), .eff⟩,
  ⟨(some 12), none, .move (.tmp 11), .eff⟩,
  ⟨(some 13), (some (12, true)), .faddr 4 (.tmp 1), .eff⟩,
  ⟨(some 14), (some (12, true)), .load none (.tmp 13), .eff⟩,
  ⟨(some 15), (some (12, true)), .bin .leq (.tmp 14) (.const (.int .i64 256)), .eff⟩,
  ⟨(some 16), none, .pick (.tmp 12) (.tmp 15) (.const (.bool false)), .eff⟩,
  ⟨(some 2), none, .move (.tmp 16), .eff⟩])
 .ret)))⟩
set_option maxRecDepth 100000 in
theorem v64_ok : stripF (ttOf Try.prog) { hp := [], md := [], ks := [] } Try.f64 = some v64 := by kernel_rfl
theorem n64_ok : (Try.f64.name == "runtime.NumGoroutine") = false := by kernel_rfl
def vfs : List (Nat × VFun) := [(3, v3), (4, v4), (5, v5), (6, v6), (7, v7), (8, v8), (9, v9), (10, v10), (11, v11), (12, v12), (13, v13), (14, v14), (15, v15), (16, v16), (17, v17), (18, v18), (19, v19), (20, v20), (21, v21), (22, v22), (23, v23), (24, v24), (25, v25), (26, v26), (27, v27), (28, v28), (29, v29), (30, v30), (31, v31), (32, v32), (33, v33), (34, v34), (35, v35), (36, v36), (37, v37), (38, v38), (39, v39), (40, v40), (41, v41), (42, v42), (43, v43), (44, v44), (45, v45), (46, v46), (47, v47), (48, v48), (49, v49), (50, v50), (51, v51), (52, v52), (53, v53), (54, v54), (55, v55), (56, v56), (57, v57), (58, v58), (59, v59), (60, v60), (61, v61), (62, v62), (63, v63), (64, v64)]
theorem vfs_ok : TabList Try.prog vfs := .cons Try.func3 n3_ok v3_ok (.cons Try.func4 n4_ok v4_ok (.cons Try.func5 n5_ok v5_ok (.cons Try.func6 n6_ok v6_ok (.cons Try.func7 n7_ok v7_ok (.cons Try.func8 n8_ok v8_ok (.cons Try.func9 n9_ok v9_ok (.cons Try.func10 n10_ok v10_ok (.cons Try.func11 n11_ok v11_ok (.cons Try.func12 n12_ok v12_ok (.cons Try.func13 n13_ok v13_ok (.cons Try.func14 n14_ok v14_ok (.cons Try.func15 n15_ok v15_ok (.cons Try.func16 n16_ok v16_ok (.cons Try.func17 n17_ok v17_ok (.cons Try.func18 n18_ok v18_ok (.cons Try.func19 n19_ok v19_ok (.cons Try.func20 n20_ok v20_ok (.cons Try.func21 n21_ok v21_ok (.cons Try.func22 n22_ok v22_ok (.cons Try.func23 n23_ok v23_ok (.cons Try.func24 n24_ok v24_ok (.cons Try.func25 n25_ok v25_ok (.cons Try.func26 n26_ok v26_ok (.cons Try.func27 n27_ok v27_ok (.cons Try.func28 n28_ok v28_ok (.cons Try.func29 n29_ok v29_ok (.cons Try.func30 n30_ok v30_ok (.cons Try.func31 n31_ok v31_ok (.cons Try.func32 n32_ok v32_ok (.cons Try.func33 n33_ok v33_ok (.cons Try.func34 n34_ok v34_ok (.cons Try.func35 n35_ok v35_ok (.cons Try.func36 n36_ok v36_ok (.cons Try.func37 n37_ok v37_ok (.cons Try.func38 n38_ok v38_ok (.cons Try.func39 n39_ok v39_ok (.cons Try.func40 n40_ok v40_ok (.cons Try.func41 n41_ok v41_ok (.cons Try.func42 n42_ok v42_ok (.cons Try.func43 n43_ok v43_ok (.cons Try.func44 n44_ok v44_ok (.cons Try.func45 n45_ok v45_ok (.cons Try.func46 n46_ok v46_ok (.cons Try.func47 n47_ok v47_ok (.cons Try.func48 n48_ok v48_ok (.cons Try.func49 n49_ok v49_ok (.cons Try.func50 n50_ok v50_ok (.cons Try.func51 n51_ok v51_ok (.cons Try.func52 n52_ok v52_ok (.cons Try.func53 n53_ok v53_ok (.cons Try.func54 n54_ok v54_ok (.cons Try.func55 n55_ok v55_ok (.cons Try.func56 n56_ok v56_ok (.cons Try.func57 n57_ok v57_ok (.cons Try.func58 n58_ok v58_ok (.cons Try.func59 n59_ok v59_ok (.cons Try.func60 n60_ok v60_ok (.cons Try.func61 n61_ok v61_ok (.cons Try.func62 n62_ok v62_ok (.cons Try.func63 n63_ok v63_ok (.cons Try.func64 n64_ok v64_ok (.nil))))))))))))))))))))))))))))))))))))))))))))))))))))))))))))))
theorem follows : Try.prog.follows .mixedOrders = true := by kernel_rfl
theorem sound (k : Nat) : CallSound Try.prog (callT (tabOf vfs) k) := calls_of vfs_ok follows k
end Go.Proofs.Ytebogdeaiecldaa.Tab
