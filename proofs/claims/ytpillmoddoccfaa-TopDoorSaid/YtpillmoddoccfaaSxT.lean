import Derived.Test.YtpillmoddoccfaaSxDefs
namespace Go.Proofs.Ytpillmoddoccfaa
open Go.Sx
def Tys : Go.Sx.Tys :=
  (.node 152 ⟨.slice 231, 1, 24, [.sl .nil (ckL [.int .i64 0, .int .i64 0]) 2 0 (zeroC [.int .i64 0, .int .i64 0])]⟩
 (.node 83 ⟨.int .u64, 1, 8, [.int .u64 0]⟩
 (.node 46 ⟨.slice 260, 1, 24, [.sl .nil (ckL [.str ByteArray.empty, .int .i64 0]) 2 0 (zeroC [.str ByteArray.empty, .int .i64 0])]⟩
 (.node 29 ⟨.struct [(0, 3), (1, 3), (2, 3), (3, 3)], 4, 32, [.int .i64 0, .int .i64 0, .int .i64 0, .int .i64 0]⟩
 (.node 21 ⟨.int .i32, 1, 4, [.int .i32 0]⟩
 (.node 4 ⟨.bool, 1, 1, [.bool false]⟩
 (.node 2 ⟨.int .i64, 1, 8, [.int .i64 0]⟩
 (.node 1 ⟨.func, 1, 8, [.nilf]⟩
 .nil .nil) (.node 3 ⟨.int .i64, 1, 8, [.int .i64 0]⟩
 .nil .nil)) (.node 9 ⟨.str, 1, 16, [.str ByteArray.empty]⟩
 (.node 5 ⟨.int .u8, 1, 1, [.int .u8 0]⟩
 .nil .nil) (.node 12 ⟨.int .u64, 1, 8, [.int .u64 0]⟩
 .nil .nil))) (.node 25 ⟨.slice 3, 1, 24, [.sl .nil (ckL [.int .i64 0]) 1 0 (zeroC [.int .i64 0])]⟩
 (.node 23 ⟨.struct [(0, 4), (1, 3), (2, 3), (3, 3), (4, 3), (5, 22)], 6, 64, [.bool false, .int .i64 0, .int .i64 0, .int .i64 0, .int .i64 0, .sl .nil (ckL [.int .i64 0, .int .i64 0]) 2 0 (zeroC [.int .i64 0, .int .i64 0])]⟩
 (.node 22 ⟨.slice 150, 1, 24, [.sl .nil (ckL [.int .i64 0, .int .i64 0]) 2 0 (zeroC [.int .i64 0, .int .i64 0])]⟩
 .nil .nil) (.node 24 ⟨.struct [(0, 4), (1, 3), (2, 3), (3, 3), (4, 3), (5, 22)], 6, 64, [.bool false, .int .i64 0, .int .i64 0, .int .i64 0, .int .i64 0, .sl .nil (ckL [.int .i64 0, .int .i64 0]) 2 0 (zeroC [.int .i64 0, .int .i64 0])]⟩
 .nil .nil)) (.node 27 ⟨.struct [(0, 4), (1, 3), (2, 3), (3, 3), (4, 3), (5, 3), (6, 25), (7, 3), (8, 3)], 9, 88, [.bool false, .int .i64 0, .int .i64 0, .int .i64 0, .int .i64 0, .int .i64 0, .sl .nil (ckL [.int .i64 0]) 1 0 (zeroC [.int .i64 0]), .int .i64 0, .int .i64 0]⟩
 (.node 26 ⟨.struct [(0, 4), (1, 3), (2, 3), (3, 3), (4, 3), (5, 3), (6, 25), (7, 3), (8, 3)], 9, 88, [.bool false, .int .i64 0, .int .i64 0, .int .i64 0, .int .i64 0, .int .i64 0, .sl .nil (ckL [.int .i64 0]) 1 0 (zeroC [.int .i64 0]), .int .i64 0, .int .i64 0]⟩
 .nil .nil) (.node 28 ⟨.struct [(0, 3), (1, 3), (2, 3), (3, 3)], 4, 32, [.int .i64 0, .int .i64 0, .int .i64 0, .int .i64 0]⟩
 .nil .nil)))) (.node 38 ⟨.func, 1, 8, [.nilf]⟩
 (.node 33 ⟨.func, 1, 8, [.nilf]⟩
 (.node 31 ⟨.func, 1, 8, [.nilf]⟩
 (.node 30 ⟨.func, 1, 8, [.nilf]⟩
 .nil .nil) (.node 32 ⟨.int .i64, 1, 8, [.int .i64 0]⟩
 .nil .nil)) (.node 35 ⟨.func, 1, 8, [.nilf]⟩
 (.node 34 ⟨.func, 1, 8, [.nilf]⟩
 .nil .nil) (.node 36 ⟨.func, 1, 8, [.nilf]⟩
 .nil .nil))) (.node 42 ⟨.struct [(0, 3), (1, 3)], 2, 16, [.int .i64 0, .int .i64 0]⟩
 (.node 40 ⟨.func, 1, 8, [.nilf]⟩
 (.node 39 ⟨.func, 1, 8, [.nilf]⟩
 .nil .nil) (.node 41 ⟨.struct [(0, 3), (1, 3)], 2, 16, [.int .i64 0, .int .i64 0]⟩
 .nil .nil)) (.node 44 ⟨.func, 1, 8, [.nilf]⟩
 (.node 43 ⟨.func, 1, 8, [.nilf]⟩
 .nil .nil) (.node 45 ⟨.slice 9, 1, 24, [.sl .nil (ckL [.str ByteArray.empty]) 1 0 (zeroC [.str ByteArray.empty])]⟩
 .nil .nil))))) (.node 65 ⟨.struct [(0, 3), (1, 3)], 2, 16, [.int .i64 0, .int .i64 0]⟩
 (.node 57 ⟨.func, 1, 8, [.nilf]⟩
 (.node 50 ⟨.struct [(0, 45), (1, 45), (2, 46), (3, 47), (4, 48)], 5, 120, [.sl .nil (ckL [.str ByteArray.empty]) 1 0 (zeroC [.str ByteArray.empty]), .sl .nil (ckL [.str ByteArray.empty]) 1 0 (zeroC [.str ByteArray.empty]), .sl .nil (ckL [.str ByteArray.empty, .int .i64 0]) 2 0 (zeroC [.str ByteArray.empty, .int .i64 0]), .sl .nil (ckL [.str ByteArray.empty, .int .i64 0]) 2 0 (zeroC [.str ByteArray.empty, .int .i64 0]), .sl .nil (ckL [.int .i64 0, .int .i64 0, .sl .nil (ckL [.sl .nil (ckL [.int .i64 0, .int .i64 0, .int .i64 0, .bool false]) 4 0 (zeroC [.int .i64 0, .int .i64 0, .int .i64 0, .bool false])]) 1 0 (zeroC [.sl .nil (ckL [.int .i64 0, .int .i64 0, .int .i64 0, .bool false]) 4 0 (zeroC [.int .i64 0, .int .i64 0, .int .i64 0, .bool false])]), .sl .nil (ckL [.int .i64 0, .int .i64 0]) 2 0 (zeroC [.int .i64 0, .int .i64 0])]) 4 0 (zeroC [.int .i64 0, .int .i64 0, .sl .nil (ckL [.sl .nil (ckL [.int .i64 0, .int .i64 0, .int .i64 0, .bool false]) 4 0 (zeroC [.int .i64 0, .int .i64 0, .int .i64 0, .bool false])]) 1 0 (zeroC [.sl .nil (ckL [.int .i64 0, .int .i64 0, .int .i64 0, .bool false]) 4 0 (zeroC [.int .i64 0, .int .i64 0, .int .i64 0, .bool false])]), .sl .nil (ckL [.int .i64 0, .int .i64 0]) 2 0 (zeroC [.int .i64 0, .int .i64 0])])]⟩
 (.node 48 ⟨.slice 174, 1, 24, [.sl .nil (ckL [.int .i64 0, .int .i64 0, .sl .nil (ckL [.sl .nil (ckL [.int .i64 0, .int .i64 0, .int .i64 0, .bool false]) 4 0 (zeroC [.int .i64 0, .int .i64 0, .int .i64 0, .bool false])]) 1 0 (zeroC [.sl .nil (ckL [.int .i64 0, .int .i64 0, .int .i64 0, .bool false]) 4 0 (zeroC [.int .i64 0, .int .i64 0, .int .i64 0, .bool false])]), .sl .nil (ckL [.int .i64 0, .int .i64 0]) 2 0 (zeroC [.int .i64 0, .int .i64 0])]) 4 0 (zeroC [.int .i64 0, .int .i64 0, .sl .nil (ckL [.sl .nil (ckL [.int .i64 0, .int .i64 0, .int .i64 0, .bool false]) 4 0 (zeroC [.int .i64 0, .int .i64 0, .int .i64 0, .bool false])]) 1 0 (zeroC [.sl .nil (ckL [.int .i64 0, .int .i64 0, .int .i64 0, .bool false]) 4 0 (zeroC [.int .i64 0, .int .i64 0, .int .i64 0, .bool false])]), .sl .nil (ckL [.int .i64 0, .int .i64 0]) 2 0 (zeroC [.int .i64 0, .int .i64 0])])]⟩
 (.node 47 ⟨.slice 165, 1, 24, [.sl .nil (ckL [.str ByteArray.empty, .int .i64 0]) 2 0 (zeroC [.str ByteArray.empty, .int .i64 0])]⟩
 .nil .nil) (.node 49 ⟨.struct [(0, 45), (1, 45), (2, 46), (3, 47), (4, 48)], 5, 120, [.sl .nil (ckL [.str ByteArray.empty]) 1 0 (zeroC [.str ByteArray.empty]), .sl .nil (ckL [.str ByteArray.empty]) 1 0 (zeroC [.str ByteArray.empty]), .sl .nil (ckL [.str ByteArray.empty, .int .i64 0]) 2 0 (zeroC [.str ByteArray.empty, .int .i64 0]), .sl .nil (ckL [.str ByteArray.empty, .int .i64 0]) 2 0 (zeroC [.str ByteArray.empty, .int .i64 0]), .sl .nil (ckL [.int .i64 0, .int .i64 0, .sl .nil (ckL [.sl .nil (ckL [.int .i64 0, .int .i64 0, .int .i64 0, .bool false]) 4 0 (zeroC [.int .i64 0, .int .i64 0, .int .i64 0, .bool false])]) 1 0 (zeroC [.sl .nil (ckL [.int .i64 0, .int .i64 0, .int .i64 0, .bool false]) 4 0 (zeroC [.int .i64 0, .int .i64 0, .int .i64 0, .bool false])]), .sl .nil (ckL [.int .i64 0, .int .i64 0]) 2 0 (zeroC [.int .i64 0, .int .i64 0])]) 4 0 (zeroC [.int .i64 0, .int .i64 0, .sl .nil (ckL [.sl .nil (ckL [.int .i64 0, .int .i64 0, .int .i64 0, .bool false]) 4 0 (zeroC [.int .i64 0, .int .i64 0, .int .i64 0, .bool false])]) 1 0 (zeroC [.sl .nil (ckL [.int .i64 0, .int .i64 0, .int .i64 0, .bool false]) 4 0 (zeroC [.int .i64 0, .int .i64 0, .int .i64 0, .bool false])]), .sl .nil (ckL [.int .i64 0, .int .i64 0]) 2 0 (zeroC [.int .i64 0, .int .i64 0])])]⟩
 .nil .nil)) (.node 54 ⟨.func, 1, 8, [.nilf]⟩
 (.node 52 ⟨.func, 1, 8, [.nilf]⟩
 .nil .nil) (.node 55 ⟨.slice 60, 1, 24, [.sl .nil (ckL [.int .i64 0, .int .i64 0, .int .i64 0]) 3 0 (zeroC [.int .i64 0, .int .i64 0, .int .i64 0])]⟩
 .nil .nil))) (.node 61 ⟨.func, 1, 8, [.nilf]⟩
 (.node 59 ⟨.struct [(0, 3), (1, 58)], 3, 24, [.int .i64 0, .int .i64 0, .int .i64 0]⟩
 (.node 58 ⟨.arr 2 3, 2, 16, [.int .i64 0, .int .i64 0]⟩
 .nil .nil) (.node 60 ⟨.struct [(0, 3), (1, 58)], 3, 24, [.int .i64 0, .int .i64 0, .int .i64 0]⟩
 .nil .nil)) (.node 63 ⟨.struct [(0, 3), (1, 25), (2, 62)], 3, 56, [.int .i64 0, .sl .nil (ckL [.int .i64 0]) 1 0 (zeroC [.int .i64 0]), .sl .nil (ckL [.int .i64 0, .sl .nil (ckL [.int .i64 0]) 1 0 (zeroC [.int .i64 0])]) 2 0 (zeroC [.int .i64 0, .sl .nil (ckL [.int .i64 0]) 1 0 (zeroC [.int .i64 0])])]⟩
 (.node 62 ⟨.slice 188, 1, 24, [.sl .nil (ckL [.int .i64 0, .sl .nil (ckL [.int .i64 0]) 1 0 (zeroC [.int .i64 0])]) 2 0 (zeroC [.int .i64 0, .sl .nil (ckL [.int .i64 0]) 1 0 (zeroC [.int .i64 0])])]⟩
 .nil .nil) (.node 64 ⟨.struct [(0, 3), (1, 25), (2, 62)], 3, 56, [.int .i64 0, .sl .nil (ckL [.int .i64 0]) 1 0 (zeroC [.int .i64 0]), .sl .nil (ckL [.int .i64 0, .sl .nil (ckL [.int .i64 0]) 1 0 (zeroC [.int .i64 0])]) 2 0 (zeroC [.int .i64 0, .sl .nil (ckL [.int .i64 0]) 1 0 (zeroC [.int .i64 0])])]⟩
 .nil .nil)))) (.node 73 ⟨.func, 1, 8, [.nilf]⟩
 (.node 69 ⟨.struct [(0, 68), (4, 3), (5, 3), (6, 3), (7, 3), (8, 3), (9, 25)], 10, 96, [.int .i64 0, .int .i64 0, .int .i64 0, .int .i64 0, .int .i64 0, .int .i64 0, .int .i64 0, .int .i64 0, .int .i64 0, .sl .nil (ckL [.int .i64 0]) 1 0 (zeroC [.int .i64 0])]⟩
 (.node 67 ⟨.struct [(0, 3), (1, 66), (3, 3)], 4, 32, [.int .i64 0, .int .i64 0, .int .i64 0, .int .i64 0]⟩
 (.node 66 ⟨.struct [(0, 3), (1, 3)], 2, 16, [.int .i64 0, .int .i64 0]⟩
 .nil .nil) (.node 68 ⟨.struct [(0, 3), (1, 66), (3, 3)], 4, 32, [.int .i64 0, .int .i64 0, .int .i64 0, .int .i64 0]⟩
 .nil .nil)) (.node 71 ⟨.func, 1, 8, [.nilf]⟩
 (.node 70 ⟨.struct [(0, 68), (4, 3), (5, 3), (6, 3), (7, 3), (8, 3), (9, 25)], 10, 96, [.int .i64 0, .int .i64 0, .int .i64 0, .int .i64 0, .int .i64 0, .int .i64 0, .int .i64 0, .int .i64 0, .int .i64 0, .sl .nil (ckL [.int .i64 0]) 1 0 (zeroC [.int .i64 0])]⟩
 .nil .nil) (.node 72 ⟨.func, 1, 8, [.nilf]⟩
 .nil .nil))) (.node 77 ⟨.func, 1, 8, [.nilf]⟩
 (.node 75 ⟨.func, 1, 8, [.nilf]⟩
 (.node 74 ⟨.func, 1, 8, [.nilf]⟩
 .nil .nil) (.node 76 ⟨.func, 1, 8, [.nilf]⟩
 .nil .nil)) (.node 80 ⟨.func, 1, 8, [.nilf]⟩
 (.node 79 ⟨.func, 1, 8, [.nilf]⟩
 .nil .nil) (.node 82 ⟨.func, 1, 8, [.nilf]⟩
 .nil .nil)))))) (.node 119 ⟨.struct [(0, 3), (1, 3), (2, 3), (3, 3), (4, 68)], 8, 64, [.int .i64 0, .int .i64 0, .int .i64 0, .int .i64 0, .int .i64 0, .int .i64 0, .int .i64 0, .int .i64 0]⟩
 (.node 100 ⟨.struct [(0, 3), (1, 3), (2, 3), (3, 4), (4, 66)], 6, 48, [.int .i64 0, .int .i64 0, .int .i64 0, .bool false, .int .i64 0, .int .i64 0]⟩
 (.node 92 ⟨.struct [(0, 90), (1, 3), (2, 3), (3, 3)], 4, 48, [.sl .nil (ckL [.int .i64 0, .int .i64 0]) 2 0 (zeroC [.int .i64 0, .int .i64 0]), .int .i64 0, .int .i64 0, .int .i64 0]⟩
 (.node 88 ⟨.func, 1, 8, [.nilf]⟩
 (.node 85 ⟨.func, 1, 8, [.nilf]⟩
 (.node 84 ⟨.func, 1, 8, [.nilf]⟩
 .nil .nil) (.node 86 ⟨.func, 1, 8, [.nilf]⟩
 .nil .nil)) (.node 90 ⟨.slice 66, 1, 24, [.sl .nil (ckL [.int .i64 0, .int .i64 0]) 2 0 (zeroC [.int .i64 0, .int .i64 0])]⟩
 (.node 89 ⟨.func, 1, 8, [.nilf]⟩
 .nil .nil) (.node 91 ⟨.struct [(0, 90), (1, 3), (2, 3), (3, 3)], 4, 48, [.sl .nil (ckL [.int .i64 0, .int .i64 0]) 2 0 (zeroC [.int .i64 0, .int .i64 0]), .int .i64 0, .int .i64 0, .int .i64 0]⟩
 .nil .nil))) (.node 96 ⟨.struct [(0, 25), (1, 3), (2, 94)], 3, 56, [.sl .nil (ckL [.int .i64 0]) 1 0 (zeroC [.int .i64 0]), .int .i64 0, .sl .nil (ckL [.int .i64 0, .int .i64 0, .int .i64 0, .int .i64 0]) 4 0 (zeroC [.int .i64 0, .int .i64 0, .int .i64 0, .int .i64 0])]⟩
 (.node 94 ⟨.slice 205, 1, 24, [.sl .nil (ckL [.int .i64 0, .int .i64 0, .int .i64 0, .int .i64 0]) 4 0 (zeroC [.int .i64 0, .int .i64 0, .int .i64 0, .int .i64 0])]⟩
 (.node 93 ⟨.slice 100, 1, 24, [.sl .nil (ckL [.int .i64 0, .int .i64 0, .int .i64 0, .bool false, .int .i64 0, .int .i64 0]) 6 0 (zeroC [.int .i64 0, .int .i64 0, .int .i64 0, .bool false, .int .i64 0, .int .i64 0])]⟩
 .nil .nil) (.node 95 ⟨.struct [(0, 25), (1, 3), (2, 94)], 3, 56, [.sl .nil (ckL [.int .i64 0]) 1 0 (zeroC [.int .i64 0]), .int .i64 0, .sl .nil (ckL [.int .i64 0, .int .i64 0, .int .i64 0, .int .i64 0]) 4 0 (zeroC [.int .i64 0, .int .i64 0, .int .i64 0, .int .i64 0])]⟩
 .nil .nil)) (.node 98 ⟨.func, 1, 8, [.nilf]⟩
 (.node 97 ⟨.func, 1, 8, [.nilf]⟩
 .nil .nil) (.node 99 ⟨.struct [(0, 3), (1, 3), (2, 3), (3, 4), (4, 66)], 6, 48, [.int .i64 0, .int .i64 0, .int .i64 0, .bool false, .int .i64 0, .int .i64 0]⟩
 .nil .nil)))) (.node 111 ⟨.slice 218, 1, 24, [.sl .nil (ckL [.int .i64 0, .int .i64 0, .int .i64 0, .int .i64 0, .int .i64 0]) 5 0 (zeroC [.int .i64 0, .int .i64 0, .int .i64 0, .int .i64 0, .int .i64 0])]⟩
 (.node 106 ⟨.func, 1, 8, [.nilf]⟩
 (.node 103 ⟨.func, 1, 8, [.nilf]⟩
 (.node 101 ⟨.func, 1, 8, [.nilf]⟩
 .nil .nil) (.node 104 ⟨.func, 1, 8, [.nilf]⟩
 .nil .nil)) (.node 109 ⟨.func, 1, 8, [.nilf]⟩
 (.node 108 ⟨.func, 1, 8, [.nilf]⟩
 .nil .nil) (.node 110 ⟨.func, 1, 8, [.nilf]⟩
 .nil .nil))) (.node 115 ⟨.struct [(0, 111), (1, 112), (2, 113), (3, 3)], 4, 80, [.sl .nil (ckL [.int .i64 0, .int .i64 0, .int .i64 0, .int .i64 0, .int .i64 0]) 5 0 (zeroC [.int .i64 0, .int .i64 0, .int .i64 0, .int .i64 0, .int .i64 0]), .sl .nil (ckL [.int .i64 0, .int .i64 0, .sl .nil (ckL [.int .i64 0, .int .i64 0, .int .i64 0]) 3 0 (zeroC [.int .i64 0, .int .i64 0, .int .i64 0])]) 3 0 (zeroC [.int .i64 0, .int .i64 0, .sl .nil (ckL [.int .i64 0, .int .i64 0, .int .i64 0]) 3 0 (zeroC [.int .i64 0, .int .i64 0, .int .i64 0])]), .sl .nil (ckL [.int .i64 0, .int .i64 0, .int .i64 0]) 3 0 (zeroC [.int .i64 0, .int .i64 0, .int .i64 0]), .int .i64 0]⟩
 (.node 113 ⟨.slice 223, 1, 24, [.sl .nil (ckL [.int .i64 0, .int .i64 0, .int .i64 0]) 3 0 (zeroC [.int .i64 0, .int .i64 0, .int .i64 0])]⟩
 (.node 112 ⟨.slice 216, 1, 24, [.sl .nil (ckL [.int .i64 0, .int .i64 0, .sl .nil (ckL [.int .i64 0, .int .i64 0, .int .i64 0]) 3 0 (zeroC [.int .i64 0, .int .i64 0, .int .i64 0])]) 3 0 (zeroC [.int .i64 0, .int .i64 0, .sl .nil (ckL [.int .i64 0, .int .i64 0, .int .i64 0]) 3 0 (zeroC [.int .i64 0, .int .i64 0, .int .i64 0])])]⟩
 .nil .nil) (.node 114 ⟨.struct [(0, 111), (1, 112), (2, 113), (3, 3)], 4, 80, [.sl .nil (ckL [.int .i64 0, .int .i64 0, .int .i64 0, .int .i64 0, .int .i64 0]) 5 0 (zeroC [.int .i64 0, .int .i64 0, .int .i64 0, .int .i64 0, .int .i64 0]), .sl .nil (ckL [.int .i64 0, .int .i64 0, .sl .nil (ckL [.int .i64 0, .int .i64 0, .int .i64 0]) 3 0 (zeroC [.int .i64 0, .int .i64 0, .int .i64 0])]) 3 0 (zeroC [.int .i64 0, .int .i64 0, .sl .nil (ckL [.int .i64 0, .int .i64 0, .int .i64 0]) 3 0 (zeroC [.int .i64 0, .int .i64 0, .int .i64 0])]), .sl .nil (ckL [.int .i64 0, .int .i64 0, .int .i64 0]) 3 0 (zeroC [.int .i64 0, .int .i64 0, .int .i64 0]), .int .i64 0]⟩
 .nil .nil)) (.node 117 ⟨.struct [(0, 25), (1, 116), (2, 116)], 3, 72, [.sl .nil (ckL [.int .i64 0]) 1 0 (zeroC [.int .i64 0]), .sl .nil (ckL [.sl .nil (ckL [.int .i64 0]) 1 0 (zeroC [.int .i64 0])]) 1 0 (zeroC [.sl .nil (ckL [.int .i64 0]) 1 0 (zeroC [.int .i64 0])]), .sl .nil (ckL [.sl .nil (ckL [.int .i64 0]) 1 0 (zeroC [.int .i64 0])]) 1 0 (zeroC [.sl .nil (ckL [.int .i64 0]) 1 0 (zeroC [.int .i64 0])])]⟩
 (.node 116 ⟨.slice 25, 1, 24, [.sl .nil (ckL [.sl .nil (ckL [.int .i64 0]) 1 0 (zeroC [.int .i64 0])]) 1 0 (zeroC [.sl .nil (ckL [.int .i64 0]) 1 0 (zeroC [.int .i64 0])])]⟩
 .nil .nil) (.node 118 ⟨.struct [(0, 25), (1, 116), (2, 116)], 3, 72, [.sl .nil (ckL [.int .i64 0]) 1 0 (zeroC [.int .i64 0]), .sl .nil (ckL [.sl .nil (ckL [.int .i64 0]) 1 0 (zeroC [.int .i64 0])]) 1 0 (zeroC [.sl .nil (ckL [.int .i64 0]) 1 0 (zeroC [.int .i64 0])]), .sl .nil (ckL [.sl .nil (ckL [.int .i64 0]) 1 0 (zeroC [.int .i64 0])]) 1 0 (zeroC [.sl .nil (ckL [.int .i64 0]) 1 0 (zeroC [.int .i64 0])])]⟩
 .nil .nil))))) (.node 136 ⟨.struct [(0, 135), (2, 3), (3, 25), (4, 3)], 5, 72, [.sl .nil (ckL [.int .i64 0, .int .i64 0, .int .i64 0, .int .i64 0]) 4 0 (zeroC [.int .i64 0, .int .i64 0, .int .i64 0, .int .i64 0]), .int .i64 0, .int .i64 0, .sl .nil (ckL [.int .i64 0]) 1 0 (zeroC [.int .i64 0]), .int .i64 0]⟩
 (.node 128 ⟨.func, 1, 8, [.nilf]⟩
 (.node 123 ⟨.func, 1, 8, [.nilf]⟩
 (.node 121 ⟨.struct [(0, 24), (6, 120)], 14, 128, [.bool false, .int .i64 0, .int .i64 0, .int .i64 0, .int .i64 0, .sl .nil (ckL [.int .i64 0, .int .i64 0]) 2 0 (zeroC [.int .i64 0, .int .i64 0]), .int .i64 0, .int .i64 0, .int .i64 0, .int .i64 0, .int .i64 0, .int .i64 0, .int .i64 0, .int .i64 0]⟩
 (.node 120 ⟨.struct [(0, 3), (1, 3), (2, 3), (3, 3), (4, 68)], 8, 64, [.int .i64 0, .int .i64 0, .int .i64 0, .int .i64 0, .int .i64 0, .int .i64 0, .int .i64 0, .int .i64 0]⟩
 .nil .nil) (.node 122 ⟨.struct [(0, 24), (6, 120)], 14, 128, [.bool false, .int .i64 0, .int .i64 0, .int .i64 0, .int .i64 0, .sl .nil (ckL [.int .i64 0, .int .i64 0]) 2 0 (zeroC [.int .i64 0, .int .i64 0]), .int .i64 0, .int .i64 0, .int .i64 0, .int .i64 0, .int .i64 0, .int .i64 0, .int .i64 0, .int .i64 0]⟩
 .nil .nil)) (.node 125 ⟨.func, 1, 8, [.nilf]⟩
 (.node 124 ⟨.func, 1, 8, [.nilf]⟩
 .nil .nil) (.node 126 ⟨.func, 1, 8, [.nilf]⟩
 .nil .nil))) (.node 132 ⟨.func, 1, 8, [.nilf]⟩
 (.node 130 ⟨.struct [(0, 3), (1, 3), (2, 27)], 11, 104, [.int .i64 0, .int .i64 0, .bool false, .int .i64 0, .int .i64 0, .int .i64 0, .int .i64 0, .int .i64 0, .sl .nil (ckL [.int .i64 0]) 1 0 (zeroC [.int .i64 0]), .int .i64 0, .int .i64 0]⟩
 (.node 129 ⟨.func, 1, 8, [.nilf]⟩
 .nil .nil) (.node 131 ⟨.struct [(0, 3), (1, 3), (2, 27)], 11, 104, [.int .i64 0, .int .i64 0, .bool false, .int .i64 0, .int .i64 0, .int .i64 0, .int .i64 0, .int .i64 0, .sl .nil (ckL [.int .i64 0]) 1 0 (zeroC [.int .i64 0]), .int .i64 0, .int .i64 0]⟩
 .nil .nil)) (.node 134 ⟨.struct [(0, 133), (1, 3)], 2, 32, [.sl .nil (ckL [.int .i64 0, .int .i64 0, .int .i64 0, .int .i64 0]) 4 0 (zeroC [.int .i64 0, .int .i64 0, .int .i64 0, .int .i64 0]), .int .i64 0]⟩
 (.node 133 ⟨.slice 145, 1, 24, [.sl .nil (ckL [.int .i64 0, .int .i64 0, .int .i64 0, .int .i64 0]) 4 0 (zeroC [.int .i64 0, .int .i64 0, .int .i64 0, .int .i64 0])]⟩
 .nil .nil) (.node 135 ⟨.struct [(0, 133), (1, 3)], 2, 32, [.sl .nil (ckL [.int .i64 0, .int .i64 0, .int .i64 0, .int .i64 0]) 4 0 (zeroC [.int .i64 0, .int .i64 0, .int .i64 0, .int .i64 0]), .int .i64 0]⟩
 .nil .nil)))) (.node 145 ⟨.struct [(0, 3), (1, 3), (2, 66)], 4, 32, [.int .i64 0, .int .i64 0, .int .i64 0, .int .i64 0]⟩
 (.node 140 ⟨.func, 1, 8, [.nilf]⟩
 (.node 138 ⟨.func, 1, 8, [.nilf]⟩
 (.node 137 ⟨.struct [(0, 135), (2, 3), (3, 25), (4, 3)], 5, 72, [.sl .nil (ckL [.int .i64 0, .int .i64 0, .int .i64 0, .int .i64 0]) 4 0 (zeroC [.int .i64 0, .int .i64 0, .int .i64 0, .int .i64 0]), .int .i64 0, .int .i64 0, .sl .nil (ckL [.int .i64 0]) 1 0 (zeroC [.int .i64 0]), .int .i64 0]⟩
 .nil .nil) (.node 139 ⟨.func, 1, 8, [.nilf]⟩
 .nil .nil)) (.node 143 ⟨.func, 1, 8, [.nilf]⟩
 (.node 142 ⟨.func, 1, 8, [.nilf]⟩
 .nil .nil) (.node 144 ⟨.struct [(0, 3), (1, 3), (2, 66)], 4, 32, [.int .i64 0, .int .i64 0, .int .i64 0, .int .i64 0]⟩
 .nil .nil))) (.node 149 ⟨.struct [(0, 3), (1, 3)], 2, 16, [.int .i64 0, .int .i64 0]⟩
 (.node 147 ⟨.func, 1, 8, [.nilf]⟩
 (.node 146 ⟨.func, 1, 8, [.nilf]⟩
 .nil .nil) (.node 148 ⟨.func, 1, 8, [.nilf]⟩
 .nil .nil)) (.node 151 ⟨.func, 1, 8, [.nilf]⟩
 (.node 150 ⟨.struct [(0, 3), (1, 3)], 2, 16, [.int .i64 0, .int .i64 0]⟩
 .nil .nil) .nil)))))) (.node 220 ⟨.struct [(0, 3), (1, 66)], 3, 24, [.int .i64 0, .int .i64 0, .int .i64 0]⟩
 (.node 186 ⟨.func, 1, 8, [.nilf]⟩
 (.node 170 ⟨.slice 169, 1, 24, [.sl .nil (ckL [.sl .nil (ckL [.int .i64 0, .int .i64 0, .int .i64 0, .bool false]) 4 0 (zeroC [.int .i64 0, .int .i64 0, .int .i64 0, .bool false])]) 1 0 (zeroC [.sl .nil (ckL [.int .i64 0, .int .i64 0, .int .i64 0, .bool false]) 4 0 (zeroC [.int .i64 0, .int .i64 0, .int .i64 0, .bool false])])]⟩
 (.node 162 ⟨.func, 1, 8, [.nilf]⟩
 (.node 158 ⟨.func, 1, 8, [.nilf]⟩
 (.node 155 ⟨.slice 58, 1, 24, [.sl .nil (ckL [.int .i64 0, .int .i64 0]) 2 0 (zeroC [.int .i64 0, .int .i64 0])]⟩
 (.node 154 ⟨.func, 1, 8, [.nilf]⟩
 .nil .nil) (.node 157 ⟨.func, 1, 8, [.nilf]⟩
 .nil .nil)) (.node 160 ⟨.func, 1, 8, [.nilf]⟩
 (.node 159 ⟨.func, 1, 8, [.nilf]⟩
 .nil .nil) (.node 161 ⟨.func, 1, 8, [.nilf]⟩
 .nil .nil))) (.node 166 ⟨.struct [(0, 3), (1, 3), (2, 3), (3, 4)], 4, 32, [.int .i64 0, .int .i64 0, .int .i64 0, .bool false]⟩
 (.node 164 ⟨.struct [(0, 9), (1, 3)], 2, 24, [.str ByteArray.empty, .int .i64 0]⟩
 (.node 163 ⟨.func, 1, 8, [.nilf]⟩
 .nil .nil) (.node 165 ⟨.struct [(0, 9), (1, 3)], 2, 24, [.str ByteArray.empty, .int .i64 0]⟩
 .nil .nil)) (.node 168 ⟨.slice 167, 1, 24, [.sl .nil (ckL [.int .i64 0, .int .i64 0, .int .i64 0, .bool false]) 4 0 (zeroC [.int .i64 0, .int .i64 0, .int .i64 0, .bool false])]⟩
 (.node 167 ⟨.struct [(0, 3), (1, 3), (2, 3), (3, 4)], 4, 32, [.int .i64 0, .int .i64 0, .int .i64 0, .bool false]⟩
 .nil .nil) (.node 169 ⟨.slice 167, 1, 24, [.sl .nil (ckL [.int .i64 0, .int .i64 0, .int .i64 0, .bool false]) 4 0 (zeroC [.int .i64 0, .int .i64 0, .int .i64 0, .bool false])]⟩
 .nil .nil)))) (.node 178 ⟨.func, 1, 8, [.nilf]⟩
 (.node 174 ⟨.struct [(0, 3), (1, 3), (2, 171), (3, 172)], 4, 64, [.int .i64 0, .int .i64 0, .sl .nil (ckL [.sl .nil (ckL [.int .i64 0, .int .i64 0, .int .i64 0, .bool false]) 4 0 (zeroC [.int .i64 0, .int .i64 0, .int .i64 0, .bool false])]) 1 0 (zeroC [.sl .nil (ckL [.int .i64 0, .int .i64 0, .int .i64 0, .bool false]) 4 0 (zeroC [.int .i64 0, .int .i64 0, .int .i64 0, .bool false])]), .sl .nil (ckL [.int .i64 0, .int .i64 0]) 2 0 (zeroC [.int .i64 0, .int .i64 0])]⟩
 (.node 172 ⟨.slice 238, 1, 24, [.sl .nil (ckL [.int .i64 0, .int .i64 0]) 2 0 (zeroC [.int .i64 0, .int .i64 0])]⟩
 (.node 171 ⟨.slice 169, 1, 24, [.sl .nil (ckL [.sl .nil (ckL [.int .i64 0, .int .i64 0, .int .i64 0, .bool false]) 4 0 (zeroC [.int .i64 0, .int .i64 0, .int .i64 0, .bool false])]) 1 0 (zeroC [.sl .nil (ckL [.int .i64 0, .int .i64 0, .int .i64 0, .bool false]) 4 0 (zeroC [.int .i64 0, .int .i64 0, .int .i64 0, .bool false])])]⟩
 .nil .nil) (.node 173 ⟨.struct [(0, 3), (1, 3), (2, 171), (3, 172)], 4, 64, [.int .i64 0, .int .i64 0, .sl .nil (ckL [.sl .nil (ckL [.int .i64 0, .int .i64 0, .int .i64 0, .bool false]) 4 0 (zeroC [.int .i64 0, .int .i64 0, .int .i64 0, .bool false])]) 1 0 (zeroC [.sl .nil (ckL [.int .i64 0, .int .i64 0, .int .i64 0, .bool false]) 4 0 (zeroC [.int .i64 0, .int .i64 0, .int .i64 0, .bool false])]), .sl .nil (ckL [.int .i64 0, .int .i64 0]) 2 0 (zeroC [.int .i64 0, .int .i64 0])]⟩
 .nil .nil)) (.node 176 ⟨.struct [(0, 42), (2, 3), (3, 3), (4, 3)], 5, 40, [.int .i64 0, .int .i64 0, .int .i64 0, .int .i64 0, .int .i64 0]⟩
 (.node 175 ⟨.struct [(0, 42), (2, 3), (3, 3), (4, 3)], 5, 40, [.int .i64 0, .int .i64 0, .int .i64 0, .int .i64 0, .int .i64 0]⟩
 .nil .nil) (.node 177 ⟨.func, 1, 8, [.nilf]⟩
 .nil .nil))) (.node 182 ⟨.struct [(0, 181)], 5, 120, [.sl .nil (ckL [.str ByteArray.empty]) 1 0 (zeroC [.str ByteArray.empty]), .sl .nil (ckL [.str ByteArray.empty]) 1 0 (zeroC [.str ByteArray.empty]), .sl .nil (ckL [.str ByteArray.empty, .int .i64 0]) 2 0 (zeroC [.str ByteArray.empty, .int .i64 0]), .sl .nil (ckL [.str ByteArray.empty, .int .i64 0]) 2 0 (zeroC [.str ByteArray.empty, .int .i64 0]), .sl .nil (ckL [.int .i64 0, .int .i64 0, .sl .nil (ckL [.sl .nil (ckL [.int .i64 0, .int .i64 0, .int .i64 0, .bool false]) 4 0 (zeroC [.int .i64 0, .int .i64 0, .int .i64 0, .bool false])]) 1 0 (zeroC [.sl .nil (ckL [.int .i64 0, .int .i64 0, .int .i64 0, .bool false]) 4 0 (zeroC [.int .i64 0, .int .i64 0, .int .i64 0, .bool false])]), .sl .nil (ckL [.int .i64 0, .int .i64 0]) 2 0 (zeroC [.int .i64 0, .int .i64 0])]) 4 0 (zeroC [.int .i64 0, .int .i64 0, .sl .nil (ckL [.sl .nil (ckL [.int .i64 0, .int .i64 0, .int .i64 0, .bool false]) 4 0 (zeroC [.int .i64 0, .int .i64 0, .int .i64 0, .bool false])]) 1 0 (zeroC [.sl .nil (ckL [.int .i64 0, .int .i64 0, .int .i64 0, .bool false]) 4 0 (zeroC [.int .i64 0, .int .i64 0, .int .i64 0, .bool false])]), .sl .nil (ckL [.int .i64 0, .int .i64 0]) 2 0 (zeroC [.int .i64 0, .int .i64 0])])]⟩
 (.node 180 ⟨.struct [(0, 50)], 5, 120, [.sl .nil (ckL [.str ByteArray.empty]) 1 0 (zeroC [.str ByteArray.empty]), .sl .nil (ckL [.str ByteArray.empty]) 1 0 (zeroC [.str ByteArray.empty]), .sl .nil (ckL [.str ByteArray.empty, .int .i64 0]) 2 0 (zeroC [.str ByteArray.empty, .int .i64 0]), .sl .nil (ckL [.str ByteArray.empty, .int .i64 0]) 2 0 (zeroC [.str ByteArray.empty, .int .i64 0]), .sl .nil (ckL [.int .i64 0, .int .i64 0, .sl .nil (ckL [.sl .nil (ckL [.int .i64 0, .int .i64 0, .int .i64 0, .bool false]) 4 0 (zeroC [.int .i64 0, .int .i64 0, .int .i64 0, .bool false])]) 1 0 (zeroC [.sl .nil (ckL [.int .i64 0, .int .i64 0, .int .i64 0, .bool false]) 4 0 (zeroC [.int .i64 0, .int .i64 0, .int .i64 0, .bool false])]), .sl .nil (ckL [.int .i64 0, .int .i64 0]) 2 0 (zeroC [.int .i64 0, .int .i64 0])]) 4 0 (zeroC [.int .i64 0, .int .i64 0, .sl .nil (ckL [.sl .nil (ckL [.int .i64 0, .int .i64 0, .int .i64 0, .bool false]) 4 0 (zeroC [.int .i64 0, .int .i64 0, .int .i64 0, .bool false])]) 1 0 (zeroC [.sl .nil (ckL [.int .i64 0, .int .i64 0, .int .i64 0, .bool false]) 4 0 (zeroC [.int .i64 0, .int .i64 0, .int .i64 0, .bool false])]), .sl .nil (ckL [.int .i64 0, .int .i64 0]) 2 0 (zeroC [.int .i64 0, .int .i64 0])])]⟩
 (.node 179 ⟨.func, 1, 8, [.nilf]⟩
 .nil .nil) (.node 181 ⟨.struct [(0, 50)], 5, 120, [.sl .nil (ckL [.str ByteArray.empty]) 1 0 (zeroC [.str ByteArray.empty]), .sl .nil (ckL [.str ByteArray.empty]) 1 0 (zeroC [.str ByteArray.empty]), .sl .nil (ckL [.str ByteArray.empty, .int .i64 0]) 2 0 (zeroC [.str ByteArray.empty, .int .i64 0]), .sl .nil (ckL [.str ByteArray.empty, .int .i64 0]) 2 0 (zeroC [.str ByteArray.empty, .int .i64 0]), .sl .nil (ckL [.int .i64 0, .int .i64 0, .sl .nil (ckL [.sl .nil (ckL [.int .i64 0, .int .i64 0, .int .i64 0, .bool false]) 4 0 (zeroC [.int .i64 0, .int .i64 0, .int .i64 0, .bool false])]) 1 0 (zeroC [.sl .nil (ckL [.int .i64 0, .int .i64 0, .int .i64 0, .bool false]) 4 0 (zeroC [.int .i64 0, .int .i64 0, .int .i64 0, .bool false])]), .sl .nil (ckL [.int .i64 0, .int .i64 0]) 2 0 (zeroC [.int .i64 0, .int .i64 0])]) 4 0 (zeroC [.int .i64 0, .int .i64 0, .sl .nil (ckL [.sl .nil (ckL [.int .i64 0, .int .i64 0, .int .i64 0, .bool false]) 4 0 (zeroC [.int .i64 0, .int .i64 0, .int .i64 0, .bool false])]) 1 0 (zeroC [.sl .nil (ckL [.int .i64 0, .int .i64 0, .int .i64 0, .bool false]) 4 0 (zeroC [.int .i64 0, .int .i64 0, .int .i64 0, .bool false])]), .sl .nil (ckL [.int .i64 0, .int .i64 0]) 2 0 (zeroC [.int .i64 0, .int .i64 0])])]⟩
 .nil .nil)) (.node 184 ⟨.func, 1, 8, [.nilf]⟩
 (.node 183 ⟨.struct [(0, 181)], 5, 120, [.sl .nil (ckL [.str ByteArray.empty]) 1 0 (zeroC [.str ByteArray.empty]), .sl .nil (ckL [.str ByteArray.empty]) 1 0 (zeroC [.str ByteArray.empty]), .sl .nil (ckL [.str ByteArray.empty, .int .i64 0]) 2 0 (zeroC [.str ByteArray.empty, .int .i64 0]), .sl .nil (ckL [.str ByteArray.empty, .int .i64 0]) 2 0 (zeroC [.str ByteArray.empty, .int .i64 0]), .sl .nil (ckL [.int .i64 0, .int .i64 0, .sl .nil (ckL [.sl .nil (ckL [.int .i64 0, .int .i64 0, .int .i64 0, .bool false]) 4 0 (zeroC [.int .i64 0, .int .i64 0, .int .i64 0, .bool false])]) 1 0 (zeroC [.sl .nil (ckL [.int .i64 0, .int .i64 0, .int .i64 0, .bool false]) 4 0 (zeroC [.int .i64 0, .int .i64 0, .int .i64 0, .bool false])]), .sl .nil (ckL [.int .i64 0, .int .i64 0]) 2 0 (zeroC [.int .i64 0, .int .i64 0])]) 4 0 (zeroC [.int .i64 0, .int .i64 0, .sl .nil (ckL [.sl .nil (ckL [.int .i64 0, .int .i64 0, .int .i64 0, .bool false]) 4 0 (zeroC [.int .i64 0, .int .i64 0, .int .i64 0, .bool false])]) 1 0 (zeroC [.sl .nil (ckL [.int .i64 0, .int .i64 0, .int .i64 0, .bool false]) 4 0 (zeroC [.int .i64 0, .int .i64 0, .int .i64 0, .bool false])]), .sl .nil (ckL [.int .i64 0, .int .i64 0]) 2 0 (zeroC [.int .i64 0, .int .i64 0])])]⟩
 .nil .nil) (.node 185 ⟨.func, 1, 8, [.nilf]⟩
 .nil .nil))))) (.node 202 ⟨.func, 1, 8, [.nilf]⟩
 (.node 194 ⟨.struct [(0, 24), (6, 68), (10, 3), (11, 3)], 12, 112, [.bool false, .int .i64 0, .int .i64 0, .int .i64 0, .int .i64 0, .sl .nil (ckL [.int .i64 0, .int .i64 0]) 2 0 (zeroC [.int .i64 0, .int .i64 0]), .int .i64 0, .int .i64 0, .int .i64 0, .int .i64 0, .int .i64 0, .int .i64 0]⟩
 (.node 190 ⟨.struct [(0, 3), (1, 25), (2, 4)], 3, 40, [.int .i64 0, .sl .nil (ckL [.int .i64 0]) 1 0 (zeroC [.int .i64 0]), .bool false]⟩
 (.node 188 ⟨.struct [(0, 3), (1, 25)], 2, 32, [.int .i64 0, .sl .nil (ckL [.int .i64 0]) 1 0 (zeroC [.int .i64 0])]⟩
 (.node 187 ⟨.struct [(0, 3), (1, 25)], 2, 32, [.int .i64 0, .sl .nil (ckL [.int .i64 0]) 1 0 (zeroC [.int .i64 0])]⟩
 .nil .nil) (.node 189 ⟨.func, 1, 8, [.nilf]⟩
 .nil .nil)) (.node 192 ⟨.func, 1, 8, [.nilf]⟩
 (.node 191 ⟨.struct [(0, 3), (1, 25), (2, 4)], 3, 40, [.int .i64 0, .sl .nil (ckL [.int .i64 0]) 1 0 (zeroC [.int .i64 0]), .bool false]⟩
 .nil .nil) (.node 193 ⟨.struct [(0, 24), (6, 68), (10, 3), (11, 3)], 12, 112, [.bool false, .int .i64 0, .int .i64 0, .int .i64 0, .int .i64 0, .sl .nil (ckL [.int .i64 0, .int .i64 0]) 2 0 (zeroC [.int .i64 0, .int .i64 0]), .int .i64 0, .int .i64 0, .int .i64 0, .int .i64 0, .int .i64 0, .int .i64 0]⟩
 .nil .nil))) (.node 198 ⟨.struct [(0, 64), (3, 3), (4, 3), (5, 3)], 6, 80, [.int .i64 0, .sl .nil (ckL [.int .i64 0]) 1 0 (zeroC [.int .i64 0]), .sl .nil (ckL [.int .i64 0, .sl .nil (ckL [.int .i64 0]) 1 0 (zeroC [.int .i64 0])]) 2 0 (zeroC [.int .i64 0, .sl .nil (ckL [.int .i64 0]) 1 0 (zeroC [.int .i64 0])]), .int .i64 0, .int .i64 0, .int .i64 0]⟩
 (.node 196 ⟨.func, 1, 8, [.nilf]⟩
 (.node 195 ⟨.func, 1, 8, [.nilf]⟩
 .nil .nil) (.node 197 ⟨.func, 1, 8, [.nilf]⟩
 .nil .nil)) (.node 200 ⟨.func, 1, 8, [.nilf]⟩
 (.node 199 ⟨.struct [(0, 64), (3, 3), (4, 3), (5, 3)], 6, 80, [.int .i64 0, .sl .nil (ckL [.int .i64 0]) 1 0 (zeroC [.int .i64 0]), .sl .nil (ckL [.int .i64 0, .sl .nil (ckL [.int .i64 0]) 1 0 (zeroC [.int .i64 0])]) 2 0 (zeroC [.int .i64 0, .sl .nil (ckL [.int .i64 0]) 1 0 (zeroC [.int .i64 0])]), .int .i64 0, .int .i64 0, .int .i64 0]⟩
 .nil .nil) (.node 201 ⟨.func, 1, 8, [.nilf]⟩
 .nil .nil)))) (.node 213 ⟨.func, 1, 8, [.nilf]⟩
 (.node 207 ⟨.func, 1, 8, [.nilf]⟩
 (.node 204 ⟨.struct [(0, 3), (1, 3), (2, 3), (3, 3)], 4, 32, [.int .i64 0, .int .i64 0, .int .i64 0, .int .i64 0]⟩
 (.node 203 ⟨.func, 1, 8, [.nilf]⟩
 .nil .nil) (.node 205 ⟨.struct [(0, 3), (1, 3), (2, 3), (3, 3)], 4, 32, [.int .i64 0, .int .i64 0, .int .i64 0, .int .i64 0]⟩
 .nil .nil)) (.node 211 ⟨.func, 1, 8, [.nilf]⟩
 (.node 209 ⟨.func, 1, 8, [.nilf]⟩
 .nil .nil) (.node 212 ⟨.func, 1, 8, [.nilf]⟩
 .nil .nil))) (.node 217 ⟨.struct [(0, 3), (1, 3), (2, 3), (3, 66)], 5, 40, [.int .i64 0, .int .i64 0, .int .i64 0, .int .i64 0, .int .i64 0]⟩
 (.node 215 ⟨.struct [(0, 66), (2, 214)], 3, 40, [.int .i64 0, .int .i64 0, .sl .nil (ckL [.int .i64 0, .int .i64 0, .int .i64 0]) 3 0 (zeroC [.int .i64 0, .int .i64 0, .int .i64 0])]⟩
 (.node 214 ⟨.slice 221, 1, 24, [.sl .nil (ckL [.int .i64 0, .int .i64 0, .int .i64 0]) 3 0 (zeroC [.int .i64 0, .int .i64 0, .int .i64 0])]⟩
 .nil .nil) (.node 216 ⟨.struct [(0, 66), (2, 214)], 3, 40, [.int .i64 0, .int .i64 0, .sl .nil (ckL [.int .i64 0, .int .i64 0, .int .i64 0]) 3 0 (zeroC [.int .i64 0, .int .i64 0, .int .i64 0])]⟩
 .nil .nil)) (.node 219 ⟨.func, 1, 8, [.nilf]⟩
 (.node 218 ⟨.struct [(0, 3), (1, 3), (2, 3), (3, 66)], 5, 40, [.int .i64 0, .int .i64 0, .int .i64 0, .int .i64 0, .int .i64 0]⟩
 .nil .nil) .nil))))) (.node 252 ⟨.func, 1, 8, [.nilf]⟩
 (.node 236 ⟨.func, 1, 8, [.nilf]⟩
 (.node 228 ⟨.struct [(0, 27), (9, 135), (11, 25), (12, 25), (13, 25), (14, 3)], 15, 200, [.bool false, .int .i64 0, .int .i64 0, .int .i64 0, .int .i64 0, .int .i64 0, .sl .nil (ckL [.int .i64 0]) 1 0 (zeroC [.int .i64 0]), .int .i64 0, .int .i64 0, .sl .nil (ckL [.int .i64 0, .int .i64 0, .int .i64 0, .int .i64 0]) 4 0 (zeroC [.int .i64 0, .int .i64 0, .int .i64 0, .int .i64 0]), .int .i64 0, .sl .nil (ckL [.int .i64 0]) 1 0 (zeroC [.int .i64 0]), .sl .nil (ckL [.int .i64 0]) 1 0 (zeroC [.int .i64 0]), .sl .nil (ckL [.int .i64 0]) 1 0 (zeroC [.int .i64 0]), .int .i64 0]⟩
 (.node 224 ⟨.func, 1, 8, [.nilf]⟩
 (.node 222 ⟨.struct [(0, 3), (1, 3), (2, 3)], 3, 24, [.int .i64 0, .int .i64 0, .int .i64 0]⟩
 (.node 221 ⟨.struct [(0, 3), (1, 66)], 3, 24, [.int .i64 0, .int .i64 0, .int .i64 0]⟩
 .nil .nil) (.node 223 ⟨.struct [(0, 3), (1, 3), (2, 3)], 3, 24, [.int .i64 0, .int .i64 0, .int .i64 0]⟩
 .nil .nil)) (.node 226 ⟨.ptr 228, 1, 8, [.nilp]⟩
 (.node 225 ⟨.func, 1, 8, [.nilf]⟩
 .nil .nil) (.node 227 ⟨.struct [(0, 27), (9, 135), (11, 25), (12, 25), (13, 25), (14, 3)], 15, 200, [.bool false, .int .i64 0, .int .i64 0, .int .i64 0, .int .i64 0, .int .i64 0, .sl .nil (ckL [.int .i64 0]) 1 0 (zeroC [.int .i64 0]), .int .i64 0, .int .i64 0, .sl .nil (ckL [.int .i64 0, .int .i64 0, .int .i64 0, .int .i64 0]) 4 0 (zeroC [.int .i64 0, .int .i64 0, .int .i64 0, .int .i64 0]), .int .i64 0, .sl .nil (ckL [.int .i64 0]) 1 0 (zeroC [.int .i64 0]), .sl .nil (ckL [.int .i64 0]) 1 0 (zeroC [.int .i64 0]), .sl .nil (ckL [.int .i64 0]) 1 0 (zeroC [.int .i64 0]), .int .i64 0]⟩
 .nil .nil))) (.node 232 ⟨.func, 1, 8, [.nilf]⟩
 (.node 230 ⟨.struct [(0, 3), (1, 3)], 2, 16, [.int .i64 0, .int .i64 0]⟩
 (.node 229 ⟨.func, 1, 8, [.nilf]⟩
 .nil .nil) (.node 231 ⟨.struct [(0, 3), (1, 3)], 2, 16, [.int .i64 0, .int .i64 0]⟩
 .nil .nil)) (.node 234 ⟨.ptr 176, 1, 8, [.nilp]⟩
 (.node 233 ⟨.func, 1, 8, [.nilf]⟩
 .nil .nil) (.node 235 ⟨.func, 1, 8, [.nilf]⟩
 .nil .nil)))) (.node 244 ⟨.ptr 194, 1, 8, [.nilp]⟩
 (.node 240 ⟨.ptr 60, 1, 8, [.nilp]⟩
 (.node 238 ⟨.struct [(0, 3), (1, 3)], 2, 16, [.int .i64 0, .int .i64 0]⟩
 (.node 237 ⟨.struct [(0, 3), (1, 3)], 2, 16, [.int .i64 0, .int .i64 0]⟩
 .nil .nil) (.node 239 ⟨.func, 1, 8, [.nilf]⟩
 .nil .nil)) (.node 242 ⟨.func, 1, 8, [.nilf]⟩
 (.node 241 ⟨.slice 4, 1, 24, [.sl .nil (ckL [.bool false]) 1 0 (zeroC [.bool false])]⟩
 .nil .nil) (.node 243 ⟨.func, 1, 8, [.nilf]⟩
 .nil .nil))) (.node 248 ⟨.func, 1, 8, [.nilf]⟩
 (.node 246 ⟨.func, 1, 8, [.nilf]⟩
 (.node 245 ⟨.func, 1, 8, [.nilf]⟩
 .nil .nil) (.node 247 ⟨.func, 1, 8, [.nilf]⟩
 .nil .nil)) (.node 250 ⟨.func, 1, 8, [.nilf]⟩
 (.node 249 ⟨.func, 1, 8, [.nilf]⟩
 .nil .nil) (.node 251 ⟨.func, 1, 8, [.nilf]⟩
 .nil .nil))))) (.node 269 ⟨.func, 1, 8, [.nilf]⟩
 (.node 261 ⟨.func, 1, 8, [.nilf]⟩
 (.node 257 ⟨.func, 1, 8, [.nilf]⟩
 (.node 254 ⟨.func, 1, 8, [.nilf]⟩
 (.node 253 ⟨.func, 1, 8, [.nilf]⟩
 .nil .nil) (.node 256 ⟨.func, 1, 8, [.nilf]⟩
 .nil .nil)) (.node 259 ⟨.struct [(0, 9), (1, 3)], 2, 24, [.str ByteArray.empty, .int .i64 0]⟩
 (.node 258 ⟨.func, 1, 8, [.nilf]⟩
 .nil .nil) (.node 260 ⟨.struct [(0, 9), (1, 3)], 2, 24, [.str ByteArray.empty, .int .i64 0]⟩
 .nil .nil))) (.node 265 ⟨.func, 1, 8, [.nilf]⟩
 (.node 263 ⟨.func, 1, 8, [.nilf]⟩
 (.node 262 ⟨.func, 1, 8, [.nilf]⟩
 .nil .nil) (.node 264 ⟨.func, 1, 8, [.nilf]⟩
 .nil .nil)) (.node 267 ⟨.ptr 3, 1, 8, [.nilp]⟩
 (.node 266 ⟨.func, 1, 8, [.nilf]⟩
 .nil .nil) (.node 268 ⟨.func, 1, 8, [.nilf]⟩
 .nil .nil)))) (.node 277 ⟨.slice 5, 1, 24, [.sl .nil (ckL [.int .u8 0]) 1 0 (zeroC [.int .u8 0])]⟩
 (.node 273 ⟨.func, 1, 8, [.nilf]⟩
 (.node 271 ⟨.func, 1, 8, [.nilf]⟩
 (.node 270 ⟨.map 9 3, 1, 8, [.nilm]⟩
 .nil .nil) (.node 272 ⟨.func, 1, 8, [.nilf]⟩
 .nil .nil)) (.node 275 ⟨.func, 1, 8, [.nilf]⟩
 (.node 274 ⟨.func, 1, 8, [.nilf]⟩
 .nil .nil) (.node 276 ⟨.func, 1, 8, [.nilf]⟩
 .nil .nil))) (.node 286 ⟨.int .u32, 1, 4, [.int .u32 0]⟩
 (.node 279 ⟨.func, 1, 8, [.nilf]⟩
 (.node 278 ⟨.slice 45, 1, 24, [.sl .nil (ckL [.sl .nil (ckL [.str ByteArray.empty]) 1 0 (zeroC [.str ByteArray.empty])]) 1 0 (zeroC [.sl .nil (ckL [.str ByteArray.empty]) 1 0 (zeroC [.str ByteArray.empty])])]⟩
 .nil .nil) (.node 280 ⟨.func, 1, 8, [.nilf]⟩
 .nil .nil)) (.node 290 ⟨.ptr 5, 1, 8, [.nilp]⟩
 (.node 289 ⟨.func, 1, 8, [.nilf]⟩
 .nil .nil) .nil)))))))
end Go.Proofs.Ytpillmoddoccfaa
