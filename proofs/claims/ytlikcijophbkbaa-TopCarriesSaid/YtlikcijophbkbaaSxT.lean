import Derived.Test.YtlikcijophbkbaaSxDefs
namespace Go.Proofs.Ytlikcijophbkbaa
open Go.Sx
def Tys : Go.Sx.Tys :=
  (.node 87 ⟨.struct [(0, 3), (1, 35)], 3, 24, [.int .i64 0, .int .i64 0, .int .i64 0]⟩
 (.node 47 ⟨.func, 1, 8, [.nilf]⟩
 (.node 30 ⟨.struct [(0, 27), (1, 28), (2, 28)], 3, 72, [.sl .nil (ckL [.int .i64 0]) 1 0 (zeroC [.int .i64 0]), .sl .nil (ckL [.sl .nil (ckL [.int .i64 0]) 1 0 (zeroC [.int .i64 0])]) 1 0 (zeroC [.sl .nil (ckL [.int .i64 0]) 1 0 (zeroC [.int .i64 0])]), .sl .nil (ckL [.sl .nil (ckL [.int .i64 0]) 1 0 (zeroC [.int .i64 0])]) 1 0 (zeroC [.sl .nil (ckL [.int .i64 0]) 1 0 (zeroC [.int .i64 0])])]⟩
 (.node 22 ⟨.slice 84, 1, 24, [.sl .nil (ckL [.int .i64 0, .int .i64 0, .int .i64 0, .int .i64 0, .int .i64 0]) 5 0 (zeroC [.int .i64 0, .int .i64 0, .int .i64 0, .int .i64 0, .int .i64 0])]⟩
 (.node 5 ⟨.int .u8, 1, 1, [.int .u8 0]⟩
 (.node 3 ⟨.int .i64, 1, 8, [.int .i64 0]⟩
 (.node 2 ⟨.int .i64, 1, 8, [.int .i64 0]⟩
 (.node 1 ⟨.func, 1, 8, [.nilf]⟩
 .nil .nil) .nil) (.node 4 ⟨.bool, 1, 1, [.bool false]⟩
 .nil .nil)) (.node 12 ⟨.int .u64, 1, 8, [.int .u64 0]⟩
 (.node 9 ⟨.str, 1, 16, [.str ByteArray.empty]⟩
 .nil .nil) (.node 21 ⟨.int .i32, 1, 4, [.int .i32 0]⟩
 .nil .nil))) (.node 26 ⟨.struct [(0, 22), (1, 23), (2, 24), (3, 3)], 4, 80, [.sl .nil (ckL [.int .i64 0, .int .i64 0, .int .i64 0, .int .i64 0, .int .i64 0]) 5 0 (zeroC [.int .i64 0, .int .i64 0, .int .i64 0, .int .i64 0, .int .i64 0]), .sl .nil (ckL [.int .i64 0, .int .i64 0, .sl .nil (ckL [.int .i64 0, .int .i64 0, .int .i64 0]) 3 0 (zeroC [.int .i64 0, .int .i64 0, .int .i64 0])]) 3 0 (zeroC [.int .i64 0, .int .i64 0, .sl .nil (ckL [.int .i64 0, .int .i64 0, .int .i64 0]) 3 0 (zeroC [.int .i64 0, .int .i64 0, .int .i64 0])]), .sl .nil (ckL [.int .i64 0, .int .i64 0, .int .i64 0]) 3 0 (zeroC [.int .i64 0, .int .i64 0, .int .i64 0]), .int .i64 0]⟩
 (.node 24 ⟨.slice 89, 1, 24, [.sl .nil (ckL [.int .i64 0, .int .i64 0, .int .i64 0]) 3 0 (zeroC [.int .i64 0, .int .i64 0, .int .i64 0])]⟩
 (.node 23 ⟨.slice 81, 1, 24, [.sl .nil (ckL [.int .i64 0, .int .i64 0, .sl .nil (ckL [.int .i64 0, .int .i64 0, .int .i64 0]) 3 0 (zeroC [.int .i64 0, .int .i64 0, .int .i64 0])]) 3 0 (zeroC [.int .i64 0, .int .i64 0, .sl .nil (ckL [.int .i64 0, .int .i64 0, .int .i64 0]) 3 0 (zeroC [.int .i64 0, .int .i64 0, .int .i64 0])])]⟩
 .nil .nil) (.node 25 ⟨.struct [(0, 22), (1, 23), (2, 24), (3, 3)], 4, 80, [.sl .nil (ckL [.int .i64 0, .int .i64 0, .int .i64 0, .int .i64 0, .int .i64 0]) 5 0 (zeroC [.int .i64 0, .int .i64 0, .int .i64 0, .int .i64 0, .int .i64 0]), .sl .nil (ckL [.int .i64 0, .int .i64 0, .sl .nil (ckL [.int .i64 0, .int .i64 0, .int .i64 0]) 3 0 (zeroC [.int .i64 0, .int .i64 0, .int .i64 0])]) 3 0 (zeroC [.int .i64 0, .int .i64 0, .sl .nil (ckL [.int .i64 0, .int .i64 0, .int .i64 0]) 3 0 (zeroC [.int .i64 0, .int .i64 0, .int .i64 0])]), .sl .nil (ckL [.int .i64 0, .int .i64 0, .int .i64 0]) 3 0 (zeroC [.int .i64 0, .int .i64 0, .int .i64 0]), .int .i64 0]⟩
 .nil .nil)) (.node 28 ⟨.slice 27, 1, 24, [.sl .nil (ckL [.sl .nil (ckL [.int .i64 0]) 1 0 (zeroC [.int .i64 0])]) 1 0 (zeroC [.sl .nil (ckL [.int .i64 0]) 1 0 (zeroC [.int .i64 0])])]⟩
 (.node 27 ⟨.slice 3, 1, 24, [.sl .nil (ckL [.int .i64 0]) 1 0 (zeroC [.int .i64 0])]⟩
 .nil .nil) (.node 29 ⟨.struct [(0, 27), (1, 28), (2, 28)], 3, 72, [.sl .nil (ckL [.int .i64 0]) 1 0 (zeroC [.int .i64 0]), .sl .nil (ckL [.sl .nil (ckL [.int .i64 0]) 1 0 (zeroC [.int .i64 0])]) 1 0 (zeroC [.sl .nil (ckL [.int .i64 0]) 1 0 (zeroC [.int .i64 0])]), .sl .nil (ckL [.sl .nil (ckL [.int .i64 0]) 1 0 (zeroC [.int .i64 0])]) 1 0 (zeroC [.sl .nil (ckL [.int .i64 0]) 1 0 (zeroC [.int .i64 0])])]⟩
 .nil .nil)))) (.node 39 ⟨.struct [(0, 3), (1, 3), (2, 3), (3, 3), (4, 37)], 8, 64, [.int .i64 0, .int .i64 0, .int .i64 0, .int .i64 0, .int .i64 0, .int .i64 0, .int .i64 0, .int .i64 0]⟩
 (.node 35 ⟨.struct [(0, 3), (1, 3)], 2, 16, [.int .i64 0, .int .i64 0]⟩
 (.node 33 ⟨.struct [(0, 4), (1, 3), (2, 3), (3, 3), (4, 3), (5, 31)], 6, 64, [.bool false, .int .i64 0, .int .i64 0, .int .i64 0, .int .i64 0, .sl .nil (ckL [.int .i64 0, .int .i64 0]) 2 0 (zeroC [.int .i64 0, .int .i64 0])]⟩
 (.node 32 ⟨.struct [(0, 4), (1, 3), (2, 3), (3, 3), (4, 3), (5, 31)], 6, 64, [.bool false, .int .i64 0, .int .i64 0, .int .i64 0, .int .i64 0, .sl .nil (ckL [.int .i64 0, .int .i64 0]) 2 0 (zeroC [.int .i64 0, .int .i64 0])]⟩
 (.node 31 ⟨.slice 120, 1, 24, [.sl .nil (ckL [.int .i64 0, .int .i64 0]) 2 0 (zeroC [.int .i64 0, .int .i64 0])]⟩
 .nil .nil) .nil) (.node 34 ⟨.struct [(0, 3), (1, 3)], 2, 16, [.int .i64 0, .int .i64 0]⟩
 .nil .nil)) (.node 37 ⟨.struct [(0, 3), (1, 35), (3, 3)], 4, 32, [.int .i64 0, .int .i64 0, .int .i64 0, .int .i64 0]⟩
 (.node 36 ⟨.struct [(0, 3), (1, 35), (3, 3)], 4, 32, [.int .i64 0, .int .i64 0, .int .i64 0, .int .i64 0]⟩
 .nil .nil) (.node 38 ⟨.struct [(0, 3), (1, 3), (2, 3), (3, 3), (4, 37)], 8, 64, [.int .i64 0, .int .i64 0, .int .i64 0, .int .i64 0, .int .i64 0, .int .i64 0, .int .i64 0, .int .i64 0]⟩
 .nil .nil))) (.node 43 ⟨.func, 1, 8, [.nilf]⟩
 (.node 41 ⟨.struct [(0, 33), (6, 39)], 14, 128, [.bool false, .int .i64 0, .int .i64 0, .int .i64 0, .int .i64 0, .sl .nil (ckL [.int .i64 0, .int .i64 0]) 2 0 (zeroC [.int .i64 0, .int .i64 0]), .int .i64 0, .int .i64 0, .int .i64 0, .int .i64 0, .int .i64 0, .int .i64 0, .int .i64 0, .int .i64 0]⟩
 (.node 40 ⟨.struct [(0, 33), (6, 39)], 14, 128, [.bool false, .int .i64 0, .int .i64 0, .int .i64 0, .int .i64 0, .sl .nil (ckL [.int .i64 0, .int .i64 0]) 2 0 (zeroC [.int .i64 0, .int .i64 0]), .int .i64 0, .int .i64 0, .int .i64 0, .int .i64 0, .int .i64 0, .int .i64 0, .int .i64 0, .int .i64 0]⟩
 .nil .nil) (.node 42 ⟨.func, 1, 8, [.nilf]⟩
 .nil .nil)) (.node 45 ⟨.func, 1, 8, [.nilf]⟩
 (.node 44 ⟨.int .i64, 1, 8, [.int .i64 0]⟩
 .nil .nil) (.node 46 ⟨.func, 1, 8, [.nilf]⟩
 .nil .nil))))) (.node 69 ⟨.struct [(0, 3), (1, 3), (2, 3), (3, 3), (4, 27), (5, 3), (6, 3), (7, 3), (8, 3), (9, 3), (10, 3), (11, 3)], 12, 112, [.int .i64 0, .int .i64 0, .int .i64 0, .int .i64 0, .sl .nil (ckL [.int .i64 0]) 1 0 (zeroC [.int .i64 0]), .int .i64 0, .int .i64 0, .int .i64 0, .int .i64 0, .int .i64 0, .int .i64 0, .int .i64 0]⟩
 (.node 60 ⟨.struct [(0, 4), (1, 3), (2, 3), (3, 3), (4, 3), (5, 3), (6, 27), (7, 3), (8, 3)], 9, 88, [.bool false, .int .i64 0, .int .i64 0, .int .i64 0, .int .i64 0, .int .i64 0, .sl .nil (ckL [.int .i64 0]) 1 0 (zeroC [.int .i64 0]), .int .i64 0, .int .i64 0]⟩
 (.node 55 ⟨.func, 1, 8, [.nilf]⟩
 (.node 52 ⟨.func, 1, 8, [.nilf]⟩
 (.node 51 ⟨.func, 1, 8, [.nilf]⟩
 (.node 49 ⟨.func, 1, 8, [.nilf]⟩
 .nil .nil) .nil) (.node 54 ⟨.func, 1, 8, [.nilf]⟩
 .nil .nil)) (.node 58 ⟨.func, 1, 8, [.nilf]⟩
 (.node 57 ⟨.func, 1, 8, [.nilf]⟩
 .nil .nil) (.node 59 ⟨.struct [(0, 4), (1, 3), (2, 3), (3, 3), (4, 3), (5, 3), (6, 27), (7, 3), (8, 3)], 9, 88, [.bool false, .int .i64 0, .int .i64 0, .int .i64 0, .int .i64 0, .int .i64 0, .sl .nil (ckL [.int .i64 0]) 1 0 (zeroC [.int .i64 0]), .int .i64 0, .int .i64 0]⟩
 .nil .nil))) (.node 64 ⟨.func, 1, 8, [.nilf]⟩
 (.node 62 ⟨.struct [(0, 3), (1, 3), (2, 60)], 11, 104, [.int .i64 0, .int .i64 0, .bool false, .int .i64 0, .int .i64 0, .int .i64 0, .int .i64 0, .int .i64 0, .sl .nil (ckL [.int .i64 0]) 1 0 (zeroC [.int .i64 0]), .int .i64 0, .int .i64 0]⟩
 (.node 61 ⟨.struct [(0, 3), (1, 3), (2, 60)], 11, 104, [.int .i64 0, .int .i64 0, .bool false, .int .i64 0, .int .i64 0, .int .i64 0, .int .i64 0, .int .i64 0, .sl .nil (ckL [.int .i64 0]) 1 0 (zeroC [.int .i64 0]), .int .i64 0, .int .i64 0]⟩
 .nil .nil) (.node 63 ⟨.func, 1, 8, [.nilf]⟩
 .nil .nil)) (.node 67 ⟨.func, 1, 8, [.nilf]⟩
 (.node 65 ⟨.func, 1, 8, [.nilf]⟩
 .nil .nil) (.node 68 ⟨.func, 1, 8, [.nilf]⟩
 .nil .nil)))) (.node 79 ⟨.slice 87, 1, 24, [.sl .nil (ckL [.int .i64 0, .int .i64 0, .int .i64 0]) 3 0 (zeroC [.int .i64 0, .int .i64 0, .int .i64 0])]⟩
 (.node 74 ⟨.func, 1, 8, [.nilf]⟩
 (.node 72 ⟨.struct [(0, 70), (12, 39), (20, 3), (21, 3)], 22, 192, [.int .i64 0, .int .i64 0, .int .i64 0, .int .i64 0, .sl .nil (ckL [.int .i64 0]) 1 0 (zeroC [.int .i64 0]), .int .i64 0, .int .i64 0, .int .i64 0, .int .i64 0, .int .i64 0, .int .i64 0, .int .i64 0, .int .i64 0, .int .i64 0, .int .i64 0, .int .i64 0, .int .i64 0, .int .i64 0, .int .i64 0, .int .i64 0, .int .i64 0, .int .i64 0]⟩
 (.node 71 ⟨.struct [(0, 70), (12, 39), (20, 3), (21, 3)], 22, 192, [.int .i64 0, .int .i64 0, .int .i64 0, .int .i64 0, .sl .nil (ckL [.int .i64 0]) 1 0 (zeroC [.int .i64 0]), .int .i64 0, .int .i64 0, .int .i64 0, .int .i64 0, .int .i64 0, .int .i64 0, .int .i64 0, .int .i64 0, .int .i64 0, .int .i64 0, .int .i64 0, .int .i64 0, .int .i64 0, .int .i64 0, .int .i64 0, .int .i64 0, .int .i64 0]⟩
 (.node 70 ⟨.struct [(0, 3), (1, 3), (2, 3), (3, 3), (4, 27), (5, 3), (6, 3), (7, 3), (8, 3), (9, 3), (10, 3), (11, 3)], 12, 112, [.int .i64 0, .int .i64 0, .int .i64 0, .int .i64 0, .sl .nil (ckL [.int .i64 0]) 1 0 (zeroC [.int .i64 0]), .int .i64 0, .int .i64 0, .int .i64 0, .int .i64 0, .int .i64 0, .int .i64 0, .int .i64 0]⟩
 .nil .nil) .nil) (.node 73 ⟨.func, 1, 8, [.nilf]⟩
 .nil .nil)) (.node 77 ⟨.func, 1, 8, [.nilf]⟩
 (.node 75 ⟨.func, 1, 8, [.nilf]⟩
 .nil .nil) (.node 78 ⟨.func, 1, 8, [.nilf]⟩
 .nil .nil))) (.node 83 ⟨.struct [(0, 3), (1, 3), (2, 3), (3, 35)], 5, 40, [.int .i64 0, .int .i64 0, .int .i64 0, .int .i64 0, .int .i64 0]⟩
 (.node 81 ⟨.struct [(0, 35), (2, 79)], 3, 40, [.int .i64 0, .int .i64 0, .sl .nil (ckL [.int .i64 0, .int .i64 0, .int .i64 0]) 3 0 (zeroC [.int .i64 0, .int .i64 0, .int .i64 0])]⟩
 (.node 80 ⟨.struct [(0, 35), (2, 79)], 3, 40, [.int .i64 0, .int .i64 0, .sl .nil (ckL [.int .i64 0, .int .i64 0, .int .i64 0]) 3 0 (zeroC [.int .i64 0, .int .i64 0, .int .i64 0])]⟩
 .nil .nil) (.node 82 ⟨.func, 1, 8, [.nilf]⟩
 .nil .nil)) (.node 85 ⟨.func, 1, 8, [.nilf]⟩
 (.node 84 ⟨.struct [(0, 3), (1, 3), (2, 3), (3, 35)], 5, 40, [.int .i64 0, .int .i64 0, .int .i64 0, .int .i64 0, .int .i64 0]⟩
 .nil .nil) (.node 86 ⟨.struct [(0, 3), (1, 35)], 3, 24, [.int .i64 0, .int .i64 0, .int .i64 0]⟩
 .nil .nil)))))) (.node 123 ⟨.struct [(0, 3), (1, 3)], 2, 16, [.int .i64 0, .int .i64 0]⟩
 (.node 106 ⟨.func, 1, 8, [.nilf]⟩
 (.node 97 ⟨.slice 128, 1, 24, [.sl .nil (ckL [.int .i64 0, .int .i64 0]) 2 0 (zeroC [.int .i64 0, .int .i64 0])]⟩
 (.node 92 ⟨.struct [(0, 3), (1, 27), (2, 91)], 3, 56, [.int .i64 0, .sl .nil (ckL [.int .i64 0]) 1 0 (zeroC [.int .i64 0]), .sl .nil (ckL [.int .i64 0, .sl .nil (ckL [.int .i64 0]) 1 0 (zeroC [.int .i64 0])]) 2 0 (zeroC [.int .i64 0, .sl .nil (ckL [.int .i64 0]) 1 0 (zeroC [.int .i64 0])])]⟩
 (.node 90 ⟨.func, 1, 8, [.nilf]⟩
 (.node 89 ⟨.struct [(0, 3), (1, 3), (2, 3)], 3, 24, [.int .i64 0, .int .i64 0, .int .i64 0]⟩
 (.node 88 ⟨.struct [(0, 3), (1, 3), (2, 3)], 3, 24, [.int .i64 0, .int .i64 0, .int .i64 0]⟩
 .nil .nil) .nil) (.node 91 ⟨.slice 122, 1, 24, [.sl .nil (ckL [.int .i64 0, .sl .nil (ckL [.int .i64 0]) 1 0 (zeroC [.int .i64 0])]) 2 0 (zeroC [.int .i64 0, .sl .nil (ckL [.int .i64 0]) 1 0 (zeroC [.int .i64 0])])]⟩
 .nil .nil)) (.node 94 ⟨.slice 124, 1, 24, [.sl .nil (ckL [.int .i64 0, .int .i64 0]) 2 0 (zeroC [.int .i64 0, .int .i64 0])]⟩
 (.node 93 ⟨.struct [(0, 3), (1, 27), (2, 91)], 3, 56, [.int .i64 0, .sl .nil (ckL [.int .i64 0]) 1 0 (zeroC [.int .i64 0]), .sl .nil (ckL [.int .i64 0, .sl .nil (ckL [.int .i64 0]) 1 0 (zeroC [.int .i64 0])]) 2 0 (zeroC [.int .i64 0, .sl .nil (ckL [.int .i64 0]) 1 0 (zeroC [.int .i64 0])])]⟩
 .nil .nil) (.node 96 ⟨.func, 1, 8, [.nilf]⟩
 .nil .nil))) (.node 102 ⟨.func, 1, 8, [.nilf]⟩
 (.node 100 ⟨.func, 1, 8, [.nilf]⟩
 (.node 99 ⟨.func, 1, 8, [.nilf]⟩
 .nil .nil) (.node 101 ⟨.func, 1, 8, [.nilf]⟩
 .nil .nil)) (.node 104 ⟨.struct [(0, 3), (1, 27), (2, 4)], 3, 40, [.int .i64 0, .sl .nil (ckL [.int .i64 0]) 1 0 (zeroC [.int .i64 0]), .bool false]⟩
 (.node 103 ⟨.int .u64, 1, 8, [.int .u64 0]⟩
 .nil .nil) (.node 105 ⟨.struct [(0, 3), (1, 27), (2, 4)], 3, 40, [.int .i64 0, .sl .nil (ckL [.int .i64 0]) 1 0 (zeroC [.int .i64 0]), .bool false]⟩
 .nil .nil)))) (.node 115 ⟨.func, 1, 8, [.nilf]⟩
 (.node 111 ⟨.struct [(0, 33), (6, 37), (10, 3), (11, 3)], 12, 112, [.bool false, .int .i64 0, .int .i64 0, .int .i64 0, .int .i64 0, .sl .nil (ckL [.int .i64 0, .int .i64 0]) 2 0 (zeroC [.int .i64 0, .int .i64 0]), .int .i64 0, .int .i64 0, .int .i64 0, .int .i64 0, .int .i64 0, .int .i64 0]⟩
 (.node 109 ⟨.func, 1, 8, [.nilf]⟩
 (.node 108 ⟨.func, 1, 8, [.nilf]⟩
 (.node 107 ⟨.func, 1, 8, [.nilf]⟩
 .nil .nil) .nil) (.node 110 ⟨.struct [(0, 33), (6, 37), (10, 3), (11, 3)], 12, 112, [.bool false, .int .i64 0, .int .i64 0, .int .i64 0, .int .i64 0, .sl .nil (ckL [.int .i64 0, .int .i64 0]) 2 0 (zeroC [.int .i64 0, .int .i64 0]), .int .i64 0, .int .i64 0, .int .i64 0, .int .i64 0, .int .i64 0, .int .i64 0]⟩
 .nil .nil)) (.node 113 ⟨.func, 1, 8, [.nilf]⟩
 (.node 112 ⟨.func, 1, 8, [.nilf]⟩
 .nil .nil) (.node 114 ⟨.func, 1, 8, [.nilf]⟩
 .nil .nil))) (.node 119 ⟨.struct [(0, 3), (1, 3)], 2, 16, [.int .i64 0, .int .i64 0]⟩
 (.node 117 ⟨.func, 1, 8, [.nilf]⟩
 (.node 116 ⟨.func, 1, 8, [.nilf]⟩
 .nil .nil) (.node 118 ⟨.func, 1, 8, [.nilf]⟩
 .nil .nil)) (.node 121 ⟨.struct [(0, 3), (1, 27)], 2, 32, [.int .i64 0, .sl .nil (ckL [.int .i64 0]) 1 0 (zeroC [.int .i64 0])]⟩
 (.node 120 ⟨.struct [(0, 3), (1, 3)], 2, 16, [.int .i64 0, .int .i64 0]⟩
 .nil .nil) (.node 122 ⟨.struct [(0, 3), (1, 27)], 2, 32, [.int .i64 0, .sl .nil (ckL [.int .i64 0]) 1 0 (zeroC [.int .i64 0])]⟩
 .nil .nil))))) (.node 141 ⟨.func, 1, 8, [.nilf]⟩
 (.node 132 ⟨.func, 1, 8, [.nilf]⟩
 (.node 128 ⟨.arr 2 3, 2, 16, [.int .i64 0, .int .i64 0]⟩
 (.node 126 ⟨.func, 1, 8, [.nilf]⟩
 (.node 125 ⟨.func, 1, 8, [.nilf]⟩
 (.node 124 ⟨.struct [(0, 3), (1, 3)], 2, 16, [.int .i64 0, .int .i64 0]⟩
 .nil .nil) .nil) (.node 127 ⟨.func, 1, 8, [.nilf]⟩
 .nil .nil)) (.node 130 ⟨.func, 1, 8, [.nilf]⟩
 (.node 129 ⟨.func, 1, 8, [.nilf]⟩
 .nil .nil) (.node 131 ⟨.func, 1, 8, [.nilf]⟩
 .nil .nil))) (.node 136 ⟨.ptr 111, 1, 8, [.nilp]⟩
 (.node 134 ⟨.func, 1, 8, [.nilf]⟩
 (.node 133 ⟨.func, 1, 8, [.nilf]⟩
 .nil .nil) (.node 135 ⟨.func, 1, 8, [.nilf]⟩
 .nil .nil)) (.node 138 ⟨.func, 1, 8, [.nilf]⟩
 (.node 137 ⟨.func, 1, 8, [.nilf]⟩
 .nil .nil) (.node 139 ⟨.func, 1, 8, [.nilf]⟩
 .nil .nil)))) (.node 150 ⟨.func, 1, 8, [.nilf]⟩
 (.node 146 ⟨.func, 1, 8, [.nilf]⟩
 (.node 144 ⟨.struct [(0, 93), (3, 3), (4, 3), (5, 3)], 6, 80, [.int .i64 0, .sl .nil (ckL [.int .i64 0]) 1 0 (zeroC [.int .i64 0]), .sl .nil (ckL [.int .i64 0, .sl .nil (ckL [.int .i64 0]) 1 0 (zeroC [.int .i64 0])]) 2 0 (zeroC [.int .i64 0, .sl .nil (ckL [.int .i64 0]) 1 0 (zeroC [.int .i64 0])]), .int .i64 0, .int .i64 0, .int .i64 0]⟩
 (.node 143 ⟨.func, 1, 8, [.nilf]⟩
 (.node 142 ⟨.func, 1, 8, [.nilf]⟩
 .nil .nil) .nil) (.node 145 ⟨.struct [(0, 93), (3, 3), (4, 3), (5, 3)], 6, 80, [.int .i64 0, .sl .nil (ckL [.int .i64 0]) 1 0 (zeroC [.int .i64 0]), .sl .nil (ckL [.int .i64 0, .sl .nil (ckL [.int .i64 0]) 1 0 (zeroC [.int .i64 0])]) 2 0 (zeroC [.int .i64 0, .sl .nil (ckL [.int .i64 0]) 1 0 (zeroC [.int .i64 0])]), .int .i64 0, .int .i64 0, .int .i64 0]⟩
 .nil .nil)) (.node 148 ⟨.func, 1, 8, [.nilf]⟩
 (.node 147 ⟨.func, 1, 8, [.nilf]⟩
 .nil .nil) (.node 149 ⟨.slice 4, 1, 24, [.sl .nil (ckL [.bool false]) 1 0 (zeroC [.bool false])]⟩
 .nil .nil))) (.node 154 ⟨.func, 1, 8, [.nilf]⟩
 (.node 152 ⟨.func, 1, 8, [.nilf]⟩
 (.node 151 ⟨.func, 1, 8, [.nilf]⟩
 .nil .nil) (.node 153 ⟨.func, 1, 8, [.nilf]⟩
 .nil .nil)) (.node 163 ⟨.func, 1, 8, [.nilf]⟩
 (.node 160 ⟨.int .u32, 1, 4, [.int .u32 0]⟩
 .nil .nil) (.node 164 ⟨.ptr 5, 1, 8, [.nilp]⟩
 .nil .nil)))))))
end Go.Proofs.Ytlikcijophbkbaa
