import Derived.Test.YtpillmoddoccfabDoorSxDefs
namespace Go.Proofs.YtpillmoddoccfabDoor
open Go.Sx
def Tys : Go.Sx.Tys :=
  (.node 109 ⟨.func, 1, 8, [.nilf]⟩
 (.node 60 ⟨.slice 81, 1, 24, [.sl .nil (ckL [.int .i64 0, .int .i64 0]) 2 0 (zeroC [.int .i64 0, .int .i64 0])]⟩
 (.node 35 ⟨.func, 1, 8, [.nilf]⟩
 (.node 24 ⟨.struct [(0, 4), (1, 3), (2, 3), (3, 3), (4, 3), (5, 22)], 6, 64, [.bool false, .int .i64 0, .int .i64 0, .int .i64 0, .int .i64 0, .sl .nil (ckL [.int .i64 0, .int .i64 0]) 2 0 (zeroC [.int .i64 0, .int .i64 0])]⟩
 (.node 9 ⟨.str, 1, 16, [.str ByteArray.empty]⟩
 (.node 3 ⟨.int .i64, 1, 8, [.int .i64 0]⟩
 (.node 2 ⟨.int .i64, 1, 8, [.int .i64 0]⟩
 (.node 1 ⟨.func, 1, 8, [.nilf]⟩
 .nil .nil) .nil) (.node 5 ⟨.int .u8, 1, 1, [.int .u8 0]⟩
 (.node 4 ⟨.bool, 1, 1, [.bool false]⟩
 .nil .nil) .nil)) (.node 22 ⟨.slice 141, 1, 24, [.sl .nil (ckL [.int .i64 0, .int .i64 0]) 2 0 (zeroC [.int .i64 0, .int .i64 0])]⟩
 (.node 21 ⟨.int .i32, 1, 4, [.int .i32 0]⟩
 (.node 12 ⟨.int .u64, 1, 8, [.int .u64 0]⟩
 .nil .nil) .nil) (.node 23 ⟨.struct [(0, 4), (1, 3), (2, 3), (3, 3), (4, 3), (5, 22)], 6, 64, [.bool false, .int .i64 0, .int .i64 0, .int .i64 0, .int .i64 0, .sl .nil (ckL [.int .i64 0, .int .i64 0]) 2 0 (zeroC [.int .i64 0, .int .i64 0])]⟩
 .nil .nil))) (.node 30 ⟨.slice 48, 1, 24, [.sl .nil (ckL [.int .i64 0, .int .i64 0, .int .i64 0, .int .i64 0]) 4 0 (zeroC [.int .i64 0, .int .i64 0, .int .i64 0, .int .i64 0])]⟩
 (.node 27 ⟨.struct [(0, 3), (1, 26), (3, 3)], 4, 32, [.int .i64 0, .int .i64 0, .int .i64 0, .int .i64 0]⟩
 (.node 26 ⟨.struct [(0, 3), (1, 3)], 2, 16, [.int .i64 0, .int .i64 0]⟩
 (.node 25 ⟨.struct [(0, 3), (1, 3)], 2, 16, [.int .i64 0, .int .i64 0]⟩
 .nil .nil) .nil) (.node 29 ⟨.slice 3, 1, 24, [.sl .nil (ckL [.int .i64 0]) 1 0 (zeroC [.int .i64 0])]⟩
 (.node 28 ⟨.struct [(0, 3), (1, 26), (3, 3)], 4, 32, [.int .i64 0, .int .i64 0, .int .i64 0, .int .i64 0]⟩
 .nil .nil) .nil)) (.node 33 ⟨.func, 1, 8, [.nilf]⟩
 (.node 32 ⟨.struct [(0, 29), (1, 30)], 2, 48, [.sl .nil (ckL [.int .i64 0]) 1 0 (zeroC [.int .i64 0]), .sl .nil (ckL [.int .i64 0, .int .i64 0, .int .i64 0, .int .i64 0]) 4 0 (zeroC [.int .i64 0, .int .i64 0, .int .i64 0, .int .i64 0])]⟩
 (.node 31 ⟨.struct [(0, 29), (1, 30)], 2, 48, [.sl .nil (ckL [.int .i64 0]) 1 0 (zeroC [.int .i64 0]), .sl .nil (ckL [.int .i64 0, .int .i64 0, .int .i64 0, .int .i64 0]) 4 0 (zeroC [.int .i64 0, .int .i64 0, .int .i64 0, .int .i64 0])]⟩
 .nil .nil) .nil) (.node 34 ⟨.int .i64, 1, 8, [.int .i64 0]⟩
 .nil .nil)))) (.node 50 ⟨.func, 1, 8, [.nilf]⟩
 (.node 44 ⟨.func, 1, 8, [.nilf]⟩
 (.node 39 ⟨.func, 1, 8, [.nilf]⟩
 (.node 37 ⟨.func, 1, 8, [.nilf]⟩
 (.node 36 ⟨.func, 1, 8, [.nilf]⟩
 .nil .nil) .nil) (.node 43 ⟨.func, 1, 8, [.nilf]⟩
 (.node 41 ⟨.func, 1, 8, [.nilf]⟩
 .nil .nil) .nil)) (.node 48 ⟨.struct [(0, 3), (1, 3), (2, 3), (3, 3)], 4, 32, [.int .i64 0, .int .i64 0, .int .i64 0, .int .i64 0]⟩
 (.node 47 ⟨.struct [(0, 3), (1, 3), (2, 3), (3, 3)], 4, 32, [.int .i64 0, .int .i64 0, .int .i64 0, .int .i64 0]⟩
 (.node 46 ⟨.func, 1, 8, [.nilf]⟩
 .nil .nil) .nil) (.node 49 ⟨.func, 1, 8, [.nilf]⟩
 .nil .nil))) (.node 55 ⟨.slice 113, 1, 24, [.sl .nil (ckL [.str ByteArray.empty, .int .i64 0]) 2 0 (zeroC [.str ByteArray.empty, .int .i64 0])]⟩
 (.node 53 ⟨.struct [(0, 3), (1, 29), (2, 51)], 3, 56, [.int .i64 0, .sl .nil (ckL [.int .i64 0]) 1 0 (zeroC [.int .i64 0]), .sl .nil (ckL [.int .i64 0, .sl .nil (ckL [.int .i64 0]) 1 0 (zeroC [.int .i64 0])]) 2 0 (zeroC [.int .i64 0, .sl .nil (ckL [.int .i64 0]) 1 0 (zeroC [.int .i64 0])])]⟩
 (.node 52 ⟨.struct [(0, 3), (1, 29), (2, 51)], 3, 56, [.int .i64 0, .sl .nil (ckL [.int .i64 0]) 1 0 (zeroC [.int .i64 0]), .sl .nil (ckL [.int .i64 0, .sl .nil (ckL [.int .i64 0]) 1 0 (zeroC [.int .i64 0])]) 2 0 (zeroC [.int .i64 0, .sl .nil (ckL [.int .i64 0]) 1 0 (zeroC [.int .i64 0])])]⟩
 (.node 51 ⟨.slice 111, 1, 24, [.sl .nil (ckL [.int .i64 0, .sl .nil (ckL [.int .i64 0]) 1 0 (zeroC [.int .i64 0])]) 2 0 (zeroC [.int .i64 0, .sl .nil (ckL [.int .i64 0]) 1 0 (zeroC [.int .i64 0])])]⟩
 .nil .nil) .nil) (.node 54 ⟨.slice 9, 1, 24, [.sl .nil (ckL [.str ByteArray.empty]) 1 0 (zeroC [.str ByteArray.empty])]⟩
 .nil .nil)) (.node 58 ⟨.struct [(0, 54), (1, 54), (2, 55), (3, 56), (4, 57)], 5, 120, [.sl .nil (ckL [.str ByteArray.empty]) 1 0 (zeroC [.str ByteArray.empty]), .sl .nil (ckL [.str ByteArray.empty]) 1 0 (zeroC [.str ByteArray.empty]), .sl .nil (ckL [.str ByteArray.empty, .int .i64 0]) 2 0 (zeroC [.str ByteArray.empty, .int .i64 0]), .sl .nil (ckL [.str ByteArray.empty, .int .i64 0]) 2 0 (zeroC [.str ByteArray.empty, .int .i64 0]), .sl .nil (ckL [.int .i64 0, .int .i64 0, .sl .nil (ckL [.sl .nil (ckL [.int .i64 0, .int .i64 0, .int .i64 0, .bool false]) 4 0 (zeroC [.int .i64 0, .int .i64 0, .int .i64 0, .bool false])]) 1 0 (zeroC [.sl .nil (ckL [.int .i64 0, .int .i64 0, .int .i64 0, .bool false]) 4 0 (zeroC [.int .i64 0, .int .i64 0, .int .i64 0, .bool false])]), .sl .nil (ckL [.int .i64 0, .int .i64 0]) 2 0 (zeroC [.int .i64 0, .int .i64 0])]) 4 0 (zeroC [.int .i64 0, .int .i64 0, .sl .nil (ckL [.sl .nil (ckL [.int .i64 0, .int .i64 0, .int .i64 0, .bool false]) 4 0 (zeroC [.int .i64 0, .int .i64 0, .int .i64 0, .bool false])]) 1 0 (zeroC [.sl .nil (ckL [.int .i64 0, .int .i64 0, .int .i64 0, .bool false]) 4 0 (zeroC [.int .i64 0, .int .i64 0, .int .i64 0, .bool false])]), .sl .nil (ckL [.int .i64 0, .int .i64 0]) 2 0 (zeroC [.int .i64 0, .int .i64 0])])]⟩
 (.node 57 ⟨.slice 120, 1, 24, [.sl .nil (ckL [.int .i64 0, .int .i64 0, .sl .nil (ckL [.sl .nil (ckL [.int .i64 0, .int .i64 0, .int .i64 0, .bool false]) 4 0 (zeroC [.int .i64 0, .int .i64 0, .int .i64 0, .bool false])]) 1 0 (zeroC [.sl .nil (ckL [.int .i64 0, .int .i64 0, .int .i64 0, .bool false]) 4 0 (zeroC [.int .i64 0, .int .i64 0, .int .i64 0, .bool false])]), .sl .nil (ckL [.int .i64 0, .int .i64 0]) 2 0 (zeroC [.int .i64 0, .int .i64 0])]) 4 0 (zeroC [.int .i64 0, .int .i64 0, .sl .nil (ckL [.sl .nil (ckL [.int .i64 0, .int .i64 0, .int .i64 0, .bool false]) 4 0 (zeroC [.int .i64 0, .int .i64 0, .int .i64 0, .bool false])]) 1 0 (zeroC [.sl .nil (ckL [.int .i64 0, .int .i64 0, .int .i64 0, .bool false]) 4 0 (zeroC [.int .i64 0, .int .i64 0, .int .i64 0, .bool false])]), .sl .nil (ckL [.int .i64 0, .int .i64 0]) 2 0 (zeroC [.int .i64 0, .int .i64 0])])]⟩
 (.node 56 ⟨.slice 79, 1, 24, [.sl .nil (ckL [.str ByteArray.empty, .int .i64 0]) 2 0 (zeroC [.str ByteArray.empty, .int .i64 0])]⟩
 .nil .nil) .nil) (.node 59 ⟨.struct [(0, 54), (1, 54), (2, 55), (3, 56), (4, 57)], 5, 120, [.sl .nil (ckL [.str ByteArray.empty]) 1 0 (zeroC [.str ByteArray.empty]), .sl .nil (ckL [.str ByteArray.empty]) 1 0 (zeroC [.str ByteArray.empty]), .sl .nil (ckL [.str ByteArray.empty, .int .i64 0]) 2 0 (zeroC [.str ByteArray.empty, .int .i64 0]), .sl .nil (ckL [.str ByteArray.empty, .int .i64 0]) 2 0 (zeroC [.str ByteArray.empty, .int .i64 0]), .sl .nil (ckL [.int .i64 0, .int .i64 0, .sl .nil (ckL [.sl .nil (ckL [.int .i64 0, .int .i64 0, .int .i64 0, .bool false]) 4 0 (zeroC [.int .i64 0, .int .i64 0, .int .i64 0, .bool false])]) 1 0 (zeroC [.sl .nil (ckL [.int .i64 0, .int .i64 0, .int .i64 0, .bool false]) 4 0 (zeroC [.int .i64 0, .int .i64 0, .int .i64 0, .bool false])]), .sl .nil (ckL [.int .i64 0, .int .i64 0]) 2 0 (zeroC [.int .i64 0, .int .i64 0])]) 4 0 (zeroC [.int .i64 0, .int .i64 0, .sl .nil (ckL [.sl .nil (ckL [.int .i64 0, .int .i64 0, .int .i64 0, .bool false]) 4 0 (zeroC [.int .i64 0, .int .i64 0, .int .i64 0, .bool false])]) 1 0 (zeroC [.sl .nil (ckL [.int .i64 0, .int .i64 0, .int .i64 0, .bool false]) 4 0 (zeroC [.int .i64 0, .int .i64 0, .int .i64 0, .bool false])]), .sl .nil (ckL [.int .i64 0, .int .i64 0]) 2 0 (zeroC [.int .i64 0, .int .i64 0])])]⟩
 .nil .nil))))) (.node 85 ⟨.func, 1, 8, [.nilf]⟩
 (.node 72 ⟨.arr 2 3, 2, 16, [.int .i64 0, .int .i64 0]⟩
 (.node 66 ⟨.func, 1, 8, [.nilf]⟩
 (.node 63 ⟨.func, 1, 8, [.nilf]⟩
 (.node 62 ⟨.struct [(0, 3), (1, 3), (2, 3), (3, 60)], 4, 48, [.int .i64 0, .int .i64 0, .int .i64 0, .sl .nil (ckL [.int .i64 0, .int .i64 0]) 2 0 (zeroC [.int .i64 0, .int .i64 0])]⟩
 (.node 61 ⟨.struct [(0, 3), (1, 3), (2, 3), (3, 60)], 4, 48, [.int .i64 0, .int .i64 0, .int .i64 0, .sl .nil (ckL [.int .i64 0, .int .i64 0]) 2 0 (zeroC [.int .i64 0, .int .i64 0])]⟩
 .nil .nil) .nil) (.node 65 ⟨.func, 1, 8, [.nilf]⟩
 (.node 64 ⟨.func, 1, 8, [.nilf]⟩
 .nil .nil) .nil)) (.node 70 ⟨.func, 1, 8, [.nilf]⟩
 (.node 68 ⟨.slice 74, 1, 24, [.sl .nil (ckL [.int .i64 0, .int .i64 0, .int .i64 0]) 3 0 (zeroC [.int .i64 0, .int .i64 0, .int .i64 0])]⟩
 (.node 67 ⟨.func, 1, 8, [.nilf]⟩
 .nil .nil) .nil) (.node 71 ⟨.int .u64, 1, 8, [.int .u64 0]⟩
 .nil .nil))) (.node 79 ⟨.struct [(0, 9), (1, 3)], 2, 24, [.str ByteArray.empty, .int .i64 0]⟩
 (.node 76 ⟨.func, 1, 8, [.nilf]⟩
 (.node 74 ⟨.struct [(0, 3), (1, 72)], 3, 24, [.int .i64 0, .int .i64 0, .int .i64 0]⟩
 (.node 73 ⟨.struct [(0, 3), (1, 72)], 3, 24, [.int .i64 0, .int .i64 0, .int .i64 0]⟩
 .nil .nil) .nil) (.node 78 ⟨.struct [(0, 9), (1, 3)], 2, 24, [.str ByteArray.empty, .int .i64 0]⟩
 (.node 77 ⟨.func, 1, 8, [.nilf]⟩
 .nil .nil) .nil)) (.node 82 ⟨.func, 1, 8, [.nilf]⟩
 (.node 81 ⟨.struct [(0, 3), (1, 3)], 2, 16, [.int .i64 0, .int .i64 0]⟩
 (.node 80 ⟨.struct [(0, 3), (1, 3)], 2, 16, [.int .i64 0, .int .i64 0]⟩
 .nil .nil) .nil) (.node 84 ⟨.func, 1, 8, [.nilf]⟩
 .nil .nil)))) (.node 98 ⟨.func, 1, 8, [.nilf]⟩
 (.node 92 ⟨.slice 72, 1, 24, [.sl .nil (ckL [.int .i64 0, .int .i64 0]) 2 0 (zeroC [.int .i64 0, .int .i64 0])]⟩
 (.node 88 ⟨.func, 1, 8, [.nilf]⟩
 (.node 87 ⟨.func, 1, 8, [.nilf]⟩
 (.node 86 ⟨.func, 1, 8, [.nilf]⟩
 .nil .nil) .nil) (.node 91 ⟨.func, 1, 8, [.nilf]⟩
 (.node 89 ⟨.slice 143, 1, 24, [.sl .nil (ckL [.int .i64 0, .int .i64 0]) 2 0 (zeroC [.int .i64 0, .int .i64 0])]⟩
 .nil .nil) .nil)) (.node 96 ⟨.struct [(0, 3), (1, 29), (2, 4)], 3, 40, [.int .i64 0, .sl .nil (ckL [.int .i64 0]) 1 0 (zeroC [.int .i64 0]), .bool false]⟩
 (.node 95 ⟨.struct [(0, 3), (1, 29), (2, 4)], 3, 40, [.int .i64 0, .sl .nil (ckL [.int .i64 0]) 1 0 (zeroC [.int .i64 0]), .bool false]⟩
 (.node 94 ⟨.func, 1, 8, [.nilf]⟩
 .nil .nil) .nil) (.node 97 ⟨.func, 1, 8, [.nilf]⟩
 .nil .nil))) (.node 103 ⟨.func, 1, 8, [.nilf]⟩
 (.node 101 ⟨.struct [(0, 24), (6, 28), (10, 3), (11, 3)], 12, 112, [.bool false, .int .i64 0, .int .i64 0, .int .i64 0, .int .i64 0, .sl .nil (ckL [.int .i64 0, .int .i64 0]) 2 0 (zeroC [.int .i64 0, .int .i64 0]), .int .i64 0, .int .i64 0, .int .i64 0, .int .i64 0, .int .i64 0, .int .i64 0]⟩
 (.node 100 ⟨.func, 1, 8, [.nilf]⟩
 (.node 99 ⟨.func, 1, 8, [.nilf]⟩
 .nil .nil) .nil) (.node 102 ⟨.struct [(0, 24), (6, 28), (10, 3), (11, 3)], 12, 112, [.bool false, .int .i64 0, .int .i64 0, .int .i64 0, .int .i64 0, .sl .nil (ckL [.int .i64 0, .int .i64 0]) 2 0 (zeroC [.int .i64 0, .int .i64 0]), .int .i64 0, .int .i64 0, .int .i64 0, .int .i64 0, .int .i64 0, .int .i64 0]⟩
 .nil .nil)) (.node 107 ⟨.func, 1, 8, [.nilf]⟩
 (.node 105 ⟨.func, 1, 8, [.nilf]⟩
 (.node 104 ⟨.func, 1, 8, [.nilf]⟩
 .nil .nil) .nil) (.node 108 ⟨.func, 1, 8, [.nilf]⟩
 .nil .nil)))))) (.node 152 ⟨.func, 1, 8, [.nilf]⟩
 (.node 131 ⟨.struct [(0, 59)], 5, 120, [.sl .nil (ckL [.str ByteArray.empty]) 1 0 (zeroC [.str ByteArray.empty]), .sl .nil (ckL [.str ByteArray.empty]) 1 0 (zeroC [.str ByteArray.empty]), .sl .nil (ckL [.str ByteArray.empty, .int .i64 0]) 2 0 (zeroC [.str ByteArray.empty, .int .i64 0]), .sl .nil (ckL [.str ByteArray.empty, .int .i64 0]) 2 0 (zeroC [.str ByteArray.empty, .int .i64 0]), .sl .nil (ckL [.int .i64 0, .int .i64 0, .sl .nil (ckL [.sl .nil (ckL [.int .i64 0, .int .i64 0, .int .i64 0, .bool false]) 4 0 (zeroC [.int .i64 0, .int .i64 0, .int .i64 0, .bool false])]) 1 0 (zeroC [.sl .nil (ckL [.int .i64 0, .int .i64 0, .int .i64 0, .bool false]) 4 0 (zeroC [.int .i64 0, .int .i64 0, .int .i64 0, .bool false])]), .sl .nil (ckL [.int .i64 0, .int .i64 0]) 2 0 (zeroC [.int .i64 0, .int .i64 0])]) 4 0 (zeroC [.int .i64 0, .int .i64 0, .sl .nil (ckL [.sl .nil (ckL [.int .i64 0, .int .i64 0, .int .i64 0, .bool false]) 4 0 (zeroC [.int .i64 0, .int .i64 0, .int .i64 0, .bool false])]) 1 0 (zeroC [.sl .nil (ckL [.int .i64 0, .int .i64 0, .int .i64 0, .bool false]) 4 0 (zeroC [.int .i64 0, .int .i64 0, .int .i64 0, .bool false])]), .sl .nil (ckL [.int .i64 0, .int .i64 0]) 2 0 (zeroC [.int .i64 0, .int .i64 0])])]⟩
 (.node 120 ⟨.struct [(0, 3), (1, 3), (2, 117), (3, 118)], 4, 64, [.int .i64 0, .int .i64 0, .sl .nil (ckL [.sl .nil (ckL [.int .i64 0, .int .i64 0, .int .i64 0, .bool false]) 4 0 (zeroC [.int .i64 0, .int .i64 0, .int .i64 0, .bool false])]) 1 0 (zeroC [.sl .nil (ckL [.int .i64 0, .int .i64 0, .int .i64 0, .bool false]) 4 0 (zeroC [.int .i64 0, .int .i64 0, .int .i64 0, .bool false])]), .sl .nil (ckL [.int .i64 0, .int .i64 0]) 2 0 (zeroC [.int .i64 0, .int .i64 0])]⟩
 (.node 115 ⟨.func, 1, 8, [.nilf]⟩
 (.node 112 ⟨.struct [(0, 9), (1, 3)], 2, 24, [.str ByteArray.empty, .int .i64 0]⟩
 (.node 111 ⟨.struct [(0, 3), (1, 29)], 2, 32, [.int .i64 0, .sl .nil (ckL [.int .i64 0]) 1 0 (zeroC [.int .i64 0])]⟩
 (.node 110 ⟨.struct [(0, 3), (1, 29)], 2, 32, [.int .i64 0, .sl .nil (ckL [.int .i64 0]) 1 0 (zeroC [.int .i64 0])]⟩
 .nil .nil) .nil) (.node 114 ⟨.func, 1, 8, [.nilf]⟩
 (.node 113 ⟨.struct [(0, 9), (1, 3)], 2, 24, [.str ByteArray.empty, .int .i64 0]⟩
 .nil .nil) .nil)) (.node 118 ⟨.slice 123, 1, 24, [.sl .nil (ckL [.int .i64 0, .int .i64 0]) 2 0 (zeroC [.int .i64 0, .int .i64 0])]⟩
 (.node 117 ⟨.slice 154, 1, 24, [.sl .nil (ckL [.sl .nil (ckL [.int .i64 0, .int .i64 0, .int .i64 0, .bool false]) 4 0 (zeroC [.int .i64 0, .int .i64 0, .int .i64 0, .bool false])]) 1 0 (zeroC [.sl .nil (ckL [.int .i64 0, .int .i64 0, .int .i64 0, .bool false]) 4 0 (zeroC [.int .i64 0, .int .i64 0, .int .i64 0, .bool false])])]⟩
 (.node 116 ⟨.slice 154, 1, 24, [.sl .nil (ckL [.sl .nil (ckL [.int .i64 0, .int .i64 0, .int .i64 0, .bool false]) 4 0 (zeroC [.int .i64 0, .int .i64 0, .int .i64 0, .bool false])]) 1 0 (zeroC [.sl .nil (ckL [.int .i64 0, .int .i64 0, .int .i64 0, .bool false]) 4 0 (zeroC [.int .i64 0, .int .i64 0, .int .i64 0, .bool false])])]⟩
 .nil .nil) .nil) (.node 119 ⟨.struct [(0, 3), (1, 3), (2, 117), (3, 118)], 4, 64, [.int .i64 0, .int .i64 0, .sl .nil (ckL [.sl .nil (ckL [.int .i64 0, .int .i64 0, .int .i64 0, .bool false]) 4 0 (zeroC [.int .i64 0, .int .i64 0, .int .i64 0, .bool false])]) 1 0 (zeroC [.sl .nil (ckL [.int .i64 0, .int .i64 0, .int .i64 0, .bool false]) 4 0 (zeroC [.int .i64 0, .int .i64 0, .int .i64 0, .bool false])]), .sl .nil (ckL [.int .i64 0, .int .i64 0]) 2 0 (zeroC [.int .i64 0, .int .i64 0])]⟩
 .nil .nil))) (.node 126 ⟨.slice 29, 1, 24, [.sl .nil (ckL [.sl .nil (ckL [.int .i64 0]) 1 0 (zeroC [.int .i64 0])]) 1 0 (zeroC [.sl .nil (ckL [.int .i64 0]) 1 0 (zeroC [.int .i64 0])])]⟩
 (.node 123 ⟨.struct [(0, 3), (1, 3)], 2, 16, [.int .i64 0, .int .i64 0]⟩
 (.node 122 ⟨.struct [(0, 3), (1, 3)], 2, 16, [.int .i64 0, .int .i64 0]⟩
 (.node 121 ⟨.func, 1, 8, [.nilf]⟩
 .nil .nil) .nil) (.node 125 ⟨.func, 1, 8, [.nilf]⟩
 (.node 124 ⟨.func, 1, 8, [.nilf]⟩
 .nil .nil) .nil)) (.node 129 ⟨.ptr 128, 1, 8, [.nilp]⟩
 (.node 128 ⟨.struct [(0, 68), (1, 29), (2, 29), (3, 126)], 4, 96, [.sl .nil (ckL [.int .i64 0, .int .i64 0, .int .i64 0]) 3 0 (zeroC [.int .i64 0, .int .i64 0, .int .i64 0]), .sl .nil (ckL [.int .i64 0]) 1 0 (zeroC [.int .i64 0]), .sl .nil (ckL [.int .i64 0]) 1 0 (zeroC [.int .i64 0]), .sl .nil (ckL [.sl .nil (ckL [.int .i64 0]) 1 0 (zeroC [.int .i64 0])]) 1 0 (zeroC [.sl .nil (ckL [.int .i64 0]) 1 0 (zeroC [.int .i64 0])])]⟩
 (.node 127 ⟨.struct [(0, 68), (1, 29), (2, 29), (3, 126)], 4, 96, [.sl .nil (ckL [.int .i64 0, .int .i64 0, .int .i64 0]) 3 0 (zeroC [.int .i64 0, .int .i64 0, .int .i64 0]), .sl .nil (ckL [.int .i64 0]) 1 0 (zeroC [.int .i64 0]), .sl .nil (ckL [.int .i64 0]) 1 0 (zeroC [.int .i64 0]), .sl .nil (ckL [.sl .nil (ckL [.int .i64 0]) 1 0 (zeroC [.int .i64 0])]) 1 0 (zeroC [.sl .nil (ckL [.int .i64 0]) 1 0 (zeroC [.int .i64 0])])]⟩
 .nil .nil) .nil) (.node 130 ⟨.struct [(0, 59)], 5, 120, [.sl .nil (ckL [.str ByteArray.empty]) 1 0 (zeroC [.str ByteArray.empty]), .sl .nil (ckL [.str ByteArray.empty]) 1 0 (zeroC [.str ByteArray.empty]), .sl .nil (ckL [.str ByteArray.empty, .int .i64 0]) 2 0 (zeroC [.str ByteArray.empty, .int .i64 0]), .sl .nil (ckL [.str ByteArray.empty, .int .i64 0]) 2 0 (zeroC [.str ByteArray.empty, .int .i64 0]), .sl .nil (ckL [.int .i64 0, .int .i64 0, .sl .nil (ckL [.sl .nil (ckL [.int .i64 0, .int .i64 0, .int .i64 0, .bool false]) 4 0 (zeroC [.int .i64 0, .int .i64 0, .int .i64 0, .bool false])]) 1 0 (zeroC [.sl .nil (ckL [.int .i64 0, .int .i64 0, .int .i64 0, .bool false]) 4 0 (zeroC [.int .i64 0, .int .i64 0, .int .i64 0, .bool false])]), .sl .nil (ckL [.int .i64 0, .int .i64 0]) 2 0 (zeroC [.int .i64 0, .int .i64 0])]) 4 0 (zeroC [.int .i64 0, .int .i64 0, .sl .nil (ckL [.sl .nil (ckL [.int .i64 0, .int .i64 0, .int .i64 0, .bool false]) 4 0 (zeroC [.int .i64 0, .int .i64 0, .int .i64 0, .bool false])]) 1 0 (zeroC [.sl .nil (ckL [.int .i64 0, .int .i64 0, .int .i64 0, .bool false]) 4 0 (zeroC [.int .i64 0, .int .i64 0, .int .i64 0, .bool false])]), .sl .nil (ckL [.int .i64 0, .int .i64 0]) 2 0 (zeroC [.int .i64 0, .int .i64 0])])]⟩
 .nil .nil)))) (.node 142 ⟨.struct [(0, 3), (1, 3)], 2, 16, [.int .i64 0, .int .i64 0]⟩
 (.node 137 ⟨.func, 1, 8, [.nilf]⟩
 (.node 134 ⟨.func, 1, 8, [.nilf]⟩
 (.node 133 ⟨.struct [(0, 131)], 5, 120, [.sl .nil (ckL [.str ByteArray.empty]) 1 0 (zeroC [.str ByteArray.empty]), .sl .nil (ckL [.str ByteArray.empty]) 1 0 (zeroC [.str ByteArray.empty]), .sl .nil (ckL [.str ByteArray.empty, .int .i64 0]) 2 0 (zeroC [.str ByteArray.empty, .int .i64 0]), .sl .nil (ckL [.str ByteArray.empty, .int .i64 0]) 2 0 (zeroC [.str ByteArray.empty, .int .i64 0]), .sl .nil (ckL [.int .i64 0, .int .i64 0, .sl .nil (ckL [.sl .nil (ckL [.int .i64 0, .int .i64 0, .int .i64 0, .bool false]) 4 0 (zeroC [.int .i64 0, .int .i64 0, .int .i64 0, .bool false])]) 1 0 (zeroC [.sl .nil (ckL [.int .i64 0, .int .i64 0, .int .i64 0, .bool false]) 4 0 (zeroC [.int .i64 0, .int .i64 0, .int .i64 0, .bool false])]), .sl .nil (ckL [.int .i64 0, .int .i64 0]) 2 0 (zeroC [.int .i64 0, .int .i64 0])]) 4 0 (zeroC [.int .i64 0, .int .i64 0, .sl .nil (ckL [.sl .nil (ckL [.int .i64 0, .int .i64 0, .int .i64 0, .bool false]) 4 0 (zeroC [.int .i64 0, .int .i64 0, .int .i64 0, .bool false])]) 1 0 (zeroC [.sl .nil (ckL [.int .i64 0, .int .i64 0, .int .i64 0, .bool false]) 4 0 (zeroC [.int .i64 0, .int .i64 0, .int .i64 0, .bool false])]), .sl .nil (ckL [.int .i64 0, .int .i64 0]) 2 0 (zeroC [.int .i64 0, .int .i64 0])])]⟩
 (.node 132 ⟨.struct [(0, 131)], 5, 120, [.sl .nil (ckL [.str ByteArray.empty]) 1 0 (zeroC [.str ByteArray.empty]), .sl .nil (ckL [.str ByteArray.empty]) 1 0 (zeroC [.str ByteArray.empty]), .sl .nil (ckL [.str ByteArray.empty, .int .i64 0]) 2 0 (zeroC [.str ByteArray.empty, .int .i64 0]), .sl .nil (ckL [.str ByteArray.empty, .int .i64 0]) 2 0 (zeroC [.str ByteArray.empty, .int .i64 0]), .sl .nil (ckL [.int .i64 0, .int .i64 0, .sl .nil (ckL [.sl .nil (ckL [.int .i64 0, .int .i64 0, .int .i64 0, .bool false]) 4 0 (zeroC [.int .i64 0, .int .i64 0, .int .i64 0, .bool false])]) 1 0 (zeroC [.sl .nil (ckL [.int .i64 0, .int .i64 0, .int .i64 0, .bool false]) 4 0 (zeroC [.int .i64 0, .int .i64 0, .int .i64 0, .bool false])]), .sl .nil (ckL [.int .i64 0, .int .i64 0]) 2 0 (zeroC [.int .i64 0, .int .i64 0])]) 4 0 (zeroC [.int .i64 0, .int .i64 0, .sl .nil (ckL [.sl .nil (ckL [.int .i64 0, .int .i64 0, .int .i64 0, .bool false]) 4 0 (zeroC [.int .i64 0, .int .i64 0, .int .i64 0, .bool false])]) 1 0 (zeroC [.sl .nil (ckL [.int .i64 0, .int .i64 0, .int .i64 0, .bool false]) 4 0 (zeroC [.int .i64 0, .int .i64 0, .int .i64 0, .bool false])]), .sl .nil (ckL [.int .i64 0, .int .i64 0]) 2 0 (zeroC [.int .i64 0, .int .i64 0])])]⟩
 .nil .nil) .nil) (.node 136 ⟨.func, 1, 8, [.nilf]⟩
 (.node 135 ⟨.func, 1, 8, [.nilf]⟩
 .nil .nil) .nil)) (.node 140 ⟨.struct [(0, 3), (1, 3)], 2, 16, [.int .i64 0, .int .i64 0]⟩
 (.node 139 ⟨.struct [(0, 53), (3, 3), (4, 3), (5, 3)], 6, 80, [.int .i64 0, .sl .nil (ckL [.int .i64 0]) 1 0 (zeroC [.int .i64 0]), .sl .nil (ckL [.int .i64 0, .sl .nil (ckL [.int .i64 0]) 1 0 (zeroC [.int .i64 0])]) 2 0 (zeroC [.int .i64 0, .sl .nil (ckL [.int .i64 0]) 1 0 (zeroC [.int .i64 0])]), .int .i64 0, .int .i64 0, .int .i64 0]⟩
 (.node 138 ⟨.struct [(0, 53), (3, 3), (4, 3), (5, 3)], 6, 80, [.int .i64 0, .sl .nil (ckL [.int .i64 0]) 1 0 (zeroC [.int .i64 0]), .sl .nil (ckL [.int .i64 0, .sl .nil (ckL [.int .i64 0]) 1 0 (zeroC [.int .i64 0])]) 2 0 (zeroC [.int .i64 0, .sl .nil (ckL [.int .i64 0]) 1 0 (zeroC [.int .i64 0])]), .int .i64 0, .int .i64 0, .int .i64 0]⟩
 .nil .nil) .nil) (.node 141 ⟨.struct [(0, 3), (1, 3)], 2, 16, [.int .i64 0, .int .i64 0]⟩
 .nil .nil))) (.node 147 ⟨.func, 1, 8, [.nilf]⟩
 (.node 145 ⟨.func, 1, 8, [.nilf]⟩
 (.node 144 ⟨.func, 1, 8, [.nilf]⟩
 (.node 143 ⟨.struct [(0, 3), (1, 3)], 2, 16, [.int .i64 0, .int .i64 0]⟩
 .nil .nil) .nil) (.node 146 ⟨.func, 1, 8, [.nilf]⟩
 .nil .nil)) (.node 150 ⟨.func, 1, 8, [.nilf]⟩
 (.node 149 ⟨.func, 1, 8, [.nilf]⟩
 (.node 148 ⟨.ptr 102, 1, 8, [.nilp]⟩
 .nil .nil) .nil) (.node 151 ⟨.func, 1, 8, [.nilf]⟩
 .nil .nil))))) (.node 174 ⟨.func, 1, 8, [.nilf]⟩
 (.node 163 ⟨.func, 1, 8, [.nilf]⟩
 (.node 158 ⟨.func, 1, 8, [.nilf]⟩
 (.node 155 ⟨.struct [(0, 3), (1, 3), (2, 3), (3, 4)], 4, 32, [.int .i64 0, .int .i64 0, .int .i64 0, .bool false]⟩
 (.node 154 ⟨.slice 156, 1, 24, [.sl .nil (ckL [.int .i64 0, .int .i64 0, .int .i64 0, .bool false]) 4 0 (zeroC [.int .i64 0, .int .i64 0, .int .i64 0, .bool false])]⟩
 (.node 153 ⟨.slice 156, 1, 24, [.sl .nil (ckL [.int .i64 0, .int .i64 0, .int .i64 0, .bool false]) 4 0 (zeroC [.int .i64 0, .int .i64 0, .int .i64 0, .bool false])]⟩
 .nil .nil) .nil) (.node 157 ⟨.slice 4, 1, 24, [.sl .nil (ckL [.bool false]) 1 0 (zeroC [.bool false])]⟩
 (.node 156 ⟨.struct [(0, 3), (1, 3), (2, 3), (3, 4)], 4, 32, [.int .i64 0, .int .i64 0, .int .i64 0, .bool false]⟩
 .nil .nil) .nil)) (.node 161 ⟨.func, 1, 8, [.nilf]⟩
 (.node 160 ⟨.slice 117, 1, 24, [.sl .nil (ckL [.sl .nil (ckL [.sl .nil (ckL [.int .i64 0, .int .i64 0, .int .i64 0, .bool false]) 4 0 (zeroC [.int .i64 0, .int .i64 0, .int .i64 0, .bool false])]) 1 0 (zeroC [.sl .nil (ckL [.int .i64 0, .int .i64 0, .int .i64 0, .bool false]) 4 0 (zeroC [.int .i64 0, .int .i64 0, .int .i64 0, .bool false])])]) 1 0 (zeroC [.sl .nil (ckL [.sl .nil (ckL [.int .i64 0, .int .i64 0, .int .i64 0, .bool false]) 4 0 (zeroC [.int .i64 0, .int .i64 0, .int .i64 0, .bool false])]) 1 0 (zeroC [.sl .nil (ckL [.int .i64 0, .int .i64 0, .int .i64 0, .bool false]) 4 0 (zeroC [.int .i64 0, .int .i64 0, .int .i64 0, .bool false])])])]⟩
 (.node 159 ⟨.func, 1, 8, [.nilf]⟩
 .nil .nil) .nil) (.node 162 ⟨.map 74 3, 1, 8, [.nilm]⟩
 .nil .nil))) (.node 169 ⟨.func, 1, 8, [.nilf]⟩
 (.node 167 ⟨.func, 1, 8, [.nilf]⟩
 (.node 166 ⟨.ptr 74, 1, 8, [.nilp]⟩
 (.node 165 ⟨.func, 1, 8, [.nilf]⟩
 .nil .nil) .nil) (.node 168 ⟨.func, 1, 8, [.nilf]⟩
 .nil .nil)) (.node 172 ⟨.func, 1, 8, [.nilf]⟩
 (.node 171 ⟨.int .u32, 1, 4, [.int .u32 0]⟩
 (.node 170 ⟨.func, 1, 8, [.nilf]⟩
 .nil .nil) .nil) (.node 173 ⟨.int .u64, 1, 8, [.int .u64 0]⟩
 .nil .nil)))) (.node 185 ⟨.func, 1, 8, [.nilf]⟩
 (.node 180 ⟨.func, 1, 8, [.nilf]⟩
 (.node 177 ⟨.func, 1, 8, [.nilf]⟩
 (.node 176 ⟨.func, 1, 8, [.nilf]⟩
 (.node 175 ⟨.func, 1, 8, [.nilf]⟩
 .nil .nil) .nil) (.node 179 ⟨.func, 1, 8, [.nilf]⟩
 (.node 178 ⟨.func, 1, 8, [.nilf]⟩
 .nil .nil) .nil)) (.node 183 ⟨.arr 32 5, 32, 32, [.int .u8 0, .int .u8 0, .int .u8 0, .int .u8 0, .int .u8 0, .int .u8 0, .int .u8 0, .int .u8 0, .int .u8 0, .int .u8 0, .int .u8 0, .int .u8 0, .int .u8 0, .int .u8 0, .int .u8 0, .int .u8 0, .int .u8 0, .int .u8 0, .int .u8 0, .int .u8 0, .int .u8 0, .int .u8 0, .int .u8 0, .int .u8 0, .int .u8 0, .int .u8 0, .int .u8 0, .int .u8 0, .int .u8 0, .int .u8 0, .int .u8 0, .int .u8 0]⟩
 (.node 182 ⟨.ptr 3, 1, 8, [.nilp]⟩
 (.node 181 ⟨.func, 1, 8, [.nilf]⟩
 .nil .nil) .nil) (.node 184 ⟨.arr 64 5, 64, 64, [.int .u8 0, .int .u8 0, .int .u8 0, .int .u8 0, .int .u8 0, .int .u8 0, .int .u8 0, .int .u8 0, .int .u8 0, .int .u8 0, .int .u8 0, .int .u8 0, .int .u8 0, .int .u8 0, .int .u8 0, .int .u8 0, .int .u8 0, .int .u8 0, .int .u8 0, .int .u8 0, .int .u8 0, .int .u8 0, .int .u8 0, .int .u8 0, .int .u8 0, .int .u8 0, .int .u8 0, .int .u8 0, .int .u8 0, .int .u8 0, .int .u8 0, .int .u8 0, .int .u8 0, .int .u8 0, .int .u8 0, .int .u8 0, .int .u8 0, .int .u8 0, .int .u8 0, .int .u8 0, .int .u8 0, .int .u8 0, .int .u8 0, .int .u8 0, .int .u8 0, .int .u8 0, .int .u8 0, .int .u8 0, .int .u8 0, .int .u8 0, .int .u8 0, .int .u8 0, .int .u8 0, .int .u8 0, .int .u8 0, .int .u8 0, .int .u8 0, .int .u8 0, .int .u8 0, .int .u8 0, .int .u8 0, .int .u8 0, .int .u8 0, .int .u8 0]⟩
 .nil .nil))) (.node 190 ⟨.slice 54, 1, 24, [.sl .nil (ckL [.sl .nil (ckL [.str ByteArray.empty]) 1 0 (zeroC [.str ByteArray.empty])]) 1 0 (zeroC [.sl .nil (ckL [.str ByteArray.empty]) 1 0 (zeroC [.str ByteArray.empty])])]⟩
 (.node 188 ⟨.func, 1, 8, [.nilf]⟩
 (.node 187 ⟨.func, 1, 8, [.nilf]⟩
 (.node 186 ⟨.map 9 3, 1, 8, [.nilm]⟩
 .nil .nil) .nil) (.node 189 ⟨.slice 5, 1, 24, [.sl .nil (ckL [.int .u8 0]) 1 0 (zeroC [.int .u8 0])]⟩
 .nil .nil)) (.node 200 ⟨.func, 1, 8, [.nilf]⟩
 (.node 192 ⟨.func, 1, 8, [.nilf]⟩
 (.node 191 ⟨.func, 1, 8, [.nilf]⟩
 .nil .nil) .nil) (.node 201 ⟨.ptr 5, 1, 8, [.nilp]⟩
 .nil .nil)))))))
end Go.Proofs.YtpillmoddoccfabDoor
