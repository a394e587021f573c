import Derived.Test.YtpillmoddoccfabSxDefs
namespace Go.Proofs.Ytpillmoddoccfab
open Go.Sx
def Tys : Go.Sx.Tys :=
  (.node 133 ⟨.func, 1, 8, [.nilf]⟩
 (.node 72 ⟨.slice 22, 1, 24, [.sl .nil (ckL [.sl .nil (ckL [.int .i64 0]) 1 0 (zeroC [.int .i64 0])]) 1 0 (zeroC [.sl .nil (ckL [.int .i64 0]) 1 0 (zeroC [.int .i64 0])])]⟩
 (.node 43 ⟨.func, 1, 8, [.nilf]⟩
 (.node 27 ⟨.struct [(0, 3), (1, 3), (2, 3), (3, 22), (4, 3)], 5, 56, [.int .i64 0, .int .i64 0, .int .i64 0, .sl .nil (ckL [.int .i64 0]) 1 0 (zeroC [.int .i64 0]), .int .i64 0]⟩
 (.node 12 ⟨.int .u64, 1, 8, [.int .u64 0]⟩
 (.node 4 ⟨.bool, 1, 1, [.bool false]⟩
 (.node 2 ⟨.int .i64, 1, 8, [.int .i64 0]⟩
 (.node 1 ⟨.func, 1, 8, [.nilf]⟩
 .nil .nil) (.node 3 ⟨.int .i64, 1, 8, [.int .i64 0]⟩
 .nil .nil)) (.node 9 ⟨.str, 1, 16, [.str ByteArray.empty]⟩
 (.node 5 ⟨.int .u8, 1, 1, [.int .u8 0]⟩
 .nil .nil) .nil)) (.node 24 ⟨.struct [(0, 3), (1, 3), (2, 3), (3, 3), (4, 22), (5, 3), (6, 3), (7, 3), (8, 3), (9, 3), (10, 3), (11, 3)], 12, 112, [.int .i64 0, .int .i64 0, .int .i64 0, .int .i64 0, .sl .nil (ckL [.int .i64 0]) 1 0 (zeroC [.int .i64 0]), .int .i64 0, .int .i64 0, .int .i64 0, .int .i64 0, .int .i64 0, .int .i64 0, .int .i64 0]⟩
 (.node 22 ⟨.slice 3, 1, 24, [.sl .nil (ckL [.int .i64 0]) 1 0 (zeroC [.int .i64 0])]⟩
 (.node 21 ⟨.int .i32, 1, 4, [.int .i32 0]⟩
 .nil .nil) (.node 23 ⟨.struct [(0, 3), (1, 3), (2, 3), (3, 3), (4, 22), (5, 3), (6, 3), (7, 3), (8, 3), (9, 3), (10, 3), (11, 3)], 12, 112, [.int .i64 0, .int .i64 0, .int .i64 0, .int .i64 0, .sl .nil (ckL [.int .i64 0]) 1 0 (zeroC [.int .i64 0]), .int .i64 0, .int .i64 0, .int .i64 0, .int .i64 0, .int .i64 0, .int .i64 0, .int .i64 0]⟩
 .nil .nil)) (.node 26 ⟨.struct [(0, 3), (1, 3)], 2, 16, [.int .i64 0, .int .i64 0]⟩
 (.node 25 ⟨.struct [(0, 3), (1, 3)], 2, 16, [.int .i64 0, .int .i64 0]⟩
 .nil .nil) .nil))) (.node 34 ⟨.func, 1, 8, [.nilf]⟩
 (.node 31 ⟨.func, 1, 8, [.nilf]⟩
 (.node 29 ⟨.func, 1, 8, [.nilf]⟩
 (.node 28 ⟨.struct [(0, 3), (1, 3), (2, 3), (3, 22), (4, 3)], 5, 56, [.int .i64 0, .int .i64 0, .int .i64 0, .sl .nil (ckL [.int .i64 0]) 1 0 (zeroC [.int .i64 0]), .int .i64 0]⟩
 .nil .nil) (.node 30 ⟨.int .i64, 1, 8, [.int .i64 0]⟩
 .nil .nil)) (.node 33 ⟨.func, 1, 8, [.nilf]⟩
 (.node 32 ⟨.func, 1, 8, [.nilf]⟩
 .nil .nil) .nil)) (.node 40 ⟨.func, 1, 8, [.nilf]⟩
 (.node 37 ⟨.func, 1, 8, [.nilf]⟩
 (.node 35 ⟨.func, 1, 8, [.nilf]⟩
 .nil .nil) (.node 39 ⟨.func, 1, 8, [.nilf]⟩
 .nil .nil)) (.node 42 ⟨.struct [(0, 3), (1, 3), (2, 3), (3, 3), (4, 3)], 5, 40, [.int .i64 0, .int .i64 0, .int .i64 0, .int .i64 0, .int .i64 0]⟩
 (.node 41 ⟨.struct [(0, 3), (1, 3), (2, 3), (3, 3), (4, 3)], 5, 40, [.int .i64 0, .int .i64 0, .int .i64 0, .int .i64 0, .int .i64 0]⟩
 .nil .nil) .nil)))) (.node 57 ⟨.func, 1, 8, [.nilf]⟩
 (.node 50 ⟨.struct [(0, 3), (1, 4), (2, 3), (3, 3)], 4, 32, [.int .i64 0, .bool false, .int .i64 0, .int .i64 0]⟩
 (.node 47 ⟨.slice 116, 1, 24, [.sl .nil (ckL [.int .i64 0, .int .i64 0, .int .i64 0, .int .i64 0, .int .i64 0, .int .i64 0, .int .i64 0]) 7 0 (zeroC [.int .i64 0, .int .i64 0, .int .i64 0, .int .i64 0, .int .i64 0, .int .i64 0, .int .i64 0])]⟩
 (.node 45 ⟨.func, 1, 8, [.nilf]⟩
 (.node 44 ⟨.func, 1, 8, [.nilf]⟩
 .nil .nil) (.node 46 ⟨.func, 1, 8, [.nilf]⟩
 .nil .nil)) (.node 49 ⟨.struct [(0, 3), (1, 47), (2, 22)], 3, 56, [.int .i64 0, .sl .nil (ckL [.int .i64 0, .int .i64 0, .int .i64 0, .int .i64 0, .int .i64 0, .int .i64 0, .int .i64 0]) 7 0 (zeroC [.int .i64 0, .int .i64 0, .int .i64 0, .int .i64 0, .int .i64 0, .int .i64 0, .int .i64 0]), .sl .nil (ckL [.int .i64 0]) 1 0 (zeroC [.int .i64 0])]⟩
 (.node 48 ⟨.struct [(0, 3), (1, 47), (2, 22)], 3, 56, [.int .i64 0, .sl .nil (ckL [.int .i64 0, .int .i64 0, .int .i64 0, .int .i64 0, .int .i64 0, .int .i64 0, .int .i64 0]) 7 0 (zeroC [.int .i64 0, .int .i64 0, .int .i64 0, .int .i64 0, .int .i64 0, .int .i64 0, .int .i64 0]), .sl .nil (ckL [.int .i64 0]) 1 0 (zeroC [.int .i64 0])]⟩
 .nil .nil) .nil)) (.node 54 ⟨.struct [(0, 3), (1, 52), (2, 22), (3, 3), (4, 3)], 5, 72, [.int .i64 0, .sl .nil (ckL [.int .i64 0, .int .i64 0, .sl .nil (ckL [.int .i64 0]) 1 0 (zeroC [.int .i64 0])]) 3 0 (zeroC [.int .i64 0, .int .i64 0, .sl .nil (ckL [.int .i64 0]) 1 0 (zeroC [.int .i64 0])]), .sl .nil (ckL [.int .i64 0]) 1 0 (zeroC [.int .i64 0]), .int .i64 0, .int .i64 0]⟩
 (.node 52 ⟨.slice 148, 1, 24, [.sl .nil (ckL [.int .i64 0, .int .i64 0, .sl .nil (ckL [.int .i64 0]) 1 0 (zeroC [.int .i64 0])]) 3 0 (zeroC [.int .i64 0, .int .i64 0, .sl .nil (ckL [.int .i64 0]) 1 0 (zeroC [.int .i64 0])])]⟩
 (.node 51 ⟨.struct [(0, 3), (1, 4), (2, 3), (3, 3)], 4, 32, [.int .i64 0, .bool false, .int .i64 0, .int .i64 0]⟩
 .nil .nil) (.node 53 ⟨.struct [(0, 3), (1, 52), (2, 22), (3, 3), (4, 3)], 5, 72, [.int .i64 0, .sl .nil (ckL [.int .i64 0, .int .i64 0, .sl .nil (ckL [.int .i64 0]) 1 0 (zeroC [.int .i64 0])]) 3 0 (zeroC [.int .i64 0, .int .i64 0, .sl .nil (ckL [.int .i64 0]) 1 0 (zeroC [.int .i64 0])]), .sl .nil (ckL [.int .i64 0]) 1 0 (zeroC [.int .i64 0]), .int .i64 0, .int .i64 0]⟩
 .nil .nil)) (.node 56 ⟨.struct [(0, 54), (5, 22)], 6, 96, [.int .i64 0, .sl .nil (ckL [.int .i64 0, .int .i64 0, .sl .nil (ckL [.int .i64 0]) 1 0 (zeroC [.int .i64 0])]) 3 0 (zeroC [.int .i64 0, .int .i64 0, .sl .nil (ckL [.int .i64 0]) 1 0 (zeroC [.int .i64 0])]), .sl .nil (ckL [.int .i64 0]) 1 0 (zeroC [.int .i64 0]), .int .i64 0, .int .i64 0, .sl .nil (ckL [.int .i64 0]) 1 0 (zeroC [.int .i64 0])]⟩
 (.node 55 ⟨.struct [(0, 54), (5, 22)], 6, 96, [.int .i64 0, .sl .nil (ckL [.int .i64 0, .int .i64 0, .sl .nil (ckL [.int .i64 0]) 1 0 (zeroC [.int .i64 0])]) 3 0 (zeroC [.int .i64 0, .int .i64 0, .sl .nil (ckL [.int .i64 0]) 1 0 (zeroC [.int .i64 0])]), .sl .nil (ckL [.int .i64 0]) 1 0 (zeroC [.int .i64 0]), .int .i64 0, .int .i64 0, .sl .nil (ckL [.int .i64 0]) 1 0 (zeroC [.int .i64 0])]⟩
 .nil .nil) .nil))) (.node 66 ⟨.func, 1, 8, [.nilf]⟩
 (.node 63 ⟨.func, 1, 8, [.nilf]⟩
 (.node 60 ⟨.func, 1, 8, [.nilf]⟩
 (.node 58 ⟨.func, 1, 8, [.nilf]⟩
 .nil .nil) (.node 62 ⟨.func, 1, 8, [.nilf]⟩
 .nil .nil)) (.node 65 ⟨.int .u64, 1, 8, [.int .u64 0]⟩
 (.node 64 ⟨.func, 1, 8, [.nilf]⟩
 .nil .nil) .nil)) (.node 69 ⟨.slice 172, 1, 24, [.sl .nil (ckL [.int .i64 0, .int .i64 0, .int .i64 0]) 3 0 (zeroC [.int .i64 0, .int .i64 0, .int .i64 0])]⟩
 (.node 68 ⟨.slice 165, 1, 24, [.sl .nil (ckL [.int .i64 0, .int .i64 0, .sl .nil (ckL [.int .i64 0, .int .i64 0, .int .i64 0]) 3 0 (zeroC [.int .i64 0, .int .i64 0, .int .i64 0])]) 3 0 (zeroC [.int .i64 0, .int .i64 0, .sl .nil (ckL [.int .i64 0, .int .i64 0, .int .i64 0]) 3 0 (zeroC [.int .i64 0, .int .i64 0, .int .i64 0])])]⟩
 (.node 67 ⟨.slice 167, 1, 24, [.sl .nil (ckL [.int .i64 0, .int .i64 0, .int .i64 0, .int .i64 0, .int .i64 0]) 5 0 (zeroC [.int .i64 0, .int .i64 0, .int .i64 0, .int .i64 0, .int .i64 0])]⟩
 .nil .nil) .nil) (.node 71 ⟨.struct [(0, 67), (1, 68), (2, 69), (3, 3)], 4, 80, [.sl .nil (ckL [.int .i64 0, .int .i64 0, .int .i64 0, .int .i64 0, .int .i64 0]) 5 0 (zeroC [.int .i64 0, .int .i64 0, .int .i64 0, .int .i64 0, .int .i64 0]), .sl .nil (ckL [.int .i64 0, .int .i64 0, .sl .nil (ckL [.int .i64 0, .int .i64 0, .int .i64 0]) 3 0 (zeroC [.int .i64 0, .int .i64 0, .int .i64 0])]) 3 0 (zeroC [.int .i64 0, .int .i64 0, .sl .nil (ckL [.int .i64 0, .int .i64 0, .int .i64 0]) 3 0 (zeroC [.int .i64 0, .int .i64 0, .int .i64 0])]), .sl .nil (ckL [.int .i64 0, .int .i64 0, .int .i64 0]) 3 0 (zeroC [.int .i64 0, .int .i64 0, .int .i64 0]), .int .i64 0]⟩
 (.node 70 ⟨.struct [(0, 67), (1, 68), (2, 69), (3, 3)], 4, 80, [.sl .nil (ckL [.int .i64 0, .int .i64 0, .int .i64 0, .int .i64 0, .int .i64 0]) 5 0 (zeroC [.int .i64 0, .int .i64 0, .int .i64 0, .int .i64 0, .int .i64 0]), .sl .nil (ckL [.int .i64 0, .int .i64 0, .sl .nil (ckL [.int .i64 0, .int .i64 0, .int .i64 0]) 3 0 (zeroC [.int .i64 0, .int .i64 0, .int .i64 0])]) 3 0 (zeroC [.int .i64 0, .int .i64 0, .sl .nil (ckL [.int .i64 0, .int .i64 0, .int .i64 0]) 3 0 (zeroC [.int .i64 0, .int .i64 0, .int .i64 0])]), .sl .nil (ckL [.int .i64 0, .int .i64 0, .int .i64 0]) 3 0 (zeroC [.int .i64 0, .int .i64 0, .int .i64 0]), .int .i64 0]⟩
 .nil .nil) .nil))))) (.node 103 ⟨.func, 1, 8, [.nilf]⟩
 (.node 86 ⟨.func, 1, 8, [.nilf]⟩
 (.node 79 ⟨.struct [(0, 3), (1, 3), (2, 3), (3, 3), (4, 78)], 8, 64, [.int .i64 0, .int .i64 0, .int .i64 0, .int .i64 0, .int .i64 0, .int .i64 0, .int .i64 0, .int .i64 0]⟩
 (.node 76 ⟨.struct [(0, 3), (1, 3)], 2, 16, [.int .i64 0, .int .i64 0]⟩
 (.node 74 ⟨.struct [(0, 22), (1, 72), (2, 72)], 3, 72, [.sl .nil (ckL [.int .i64 0]) 1 0 (zeroC [.int .i64 0]), .sl .nil (ckL [.sl .nil (ckL [.int .i64 0]) 1 0 (zeroC [.int .i64 0])]) 1 0 (zeroC [.sl .nil (ckL [.int .i64 0]) 1 0 (zeroC [.int .i64 0])]), .sl .nil (ckL [.sl .nil (ckL [.int .i64 0]) 1 0 (zeroC [.int .i64 0])]) 1 0 (zeroC [.sl .nil (ckL [.int .i64 0]) 1 0 (zeroC [.int .i64 0])])]⟩
 (.node 73 ⟨.struct [(0, 22), (1, 72), (2, 72)], 3, 72, [.sl .nil (ckL [.int .i64 0]) 1 0 (zeroC [.int .i64 0]), .sl .nil (ckL [.sl .nil (ckL [.int .i64 0]) 1 0 (zeroC [.int .i64 0])]) 1 0 (zeroC [.sl .nil (ckL [.int .i64 0]) 1 0 (zeroC [.int .i64 0])]), .sl .nil (ckL [.sl .nil (ckL [.int .i64 0]) 1 0 (zeroC [.int .i64 0])]) 1 0 (zeroC [.sl .nil (ckL [.int .i64 0]) 1 0 (zeroC [.int .i64 0])])]⟩
 .nil .nil) (.node 75 ⟨.struct [(0, 3), (1, 3)], 2, 16, [.int .i64 0, .int .i64 0]⟩
 .nil .nil)) (.node 78 ⟨.struct [(0, 3), (1, 76), (3, 3)], 4, 32, [.int .i64 0, .int .i64 0, .int .i64 0, .int .i64 0]⟩
 (.node 77 ⟨.struct [(0, 3), (1, 76), (3, 3)], 4, 32, [.int .i64 0, .int .i64 0, .int .i64 0, .int .i64 0]⟩
 .nil .nil) .nil)) (.node 83 ⟨.func, 1, 8, [.nilf]⟩
 (.node 81 ⟨.struct [(0, 24), (12, 80), (20, 3), (21, 3)], 22, 192, [.int .i64 0, .int .i64 0, .int .i64 0, .int .i64 0, .sl .nil (ckL [.int .i64 0]) 1 0 (zeroC [.int .i64 0]), .int .i64 0, .int .i64 0, .int .i64 0, .int .i64 0, .int .i64 0, .int .i64 0, .int .i64 0, .int .i64 0, .int .i64 0, .int .i64 0, .int .i64 0, .int .i64 0, .int .i64 0, .int .i64 0, .int .i64 0, .int .i64 0, .int .i64 0]⟩
 (.node 80 ⟨.struct [(0, 3), (1, 3), (2, 3), (3, 3), (4, 78)], 8, 64, [.int .i64 0, .int .i64 0, .int .i64 0, .int .i64 0, .int .i64 0, .int .i64 0, .int .i64 0, .int .i64 0]⟩
 .nil .nil) (.node 82 ⟨.struct [(0, 24), (12, 80), (20, 3), (21, 3)], 22, 192, [.int .i64 0, .int .i64 0, .int .i64 0, .int .i64 0, .sl .nil (ckL [.int .i64 0]) 1 0 (zeroC [.int .i64 0]), .int .i64 0, .int .i64 0, .int .i64 0, .int .i64 0, .int .i64 0, .int .i64 0, .int .i64 0, .int .i64 0, .int .i64 0, .int .i64 0, .int .i64 0, .int .i64 0, .int .i64 0, .int .i64 0, .int .i64 0, .int .i64 0, .int .i64 0]⟩
 .nil .nil)) (.node 85 ⟨.func, 1, 8, [.nilf]⟩
 (.node 84 ⟨.func, 1, 8, [.nilf]⟩
 .nil .nil) .nil))) (.node 95 ⟨.struct [(0, 94), (1, 3), (2, 3), (3, 3)], 4, 48, [.sl .nil (ckL [.int .i64 0, .int .i64 0]) 2 0 (zeroC [.int .i64 0, .int .i64 0]), .int .i64 0, .int .i64 0, .int .i64 0]⟩
 (.node 92 ⟨.func, 1, 8, [.nilf]⟩
 (.node 89 ⟨.func, 1, 8, [.nilf]⟩
 (.node 87 ⟨.func, 1, 8, [.nilf]⟩
 .nil .nil) (.node 91 ⟨.func, 1, 8, [.nilf]⟩
 .nil .nil)) (.node 94 ⟨.slice 76, 1, 24, [.sl .nil (ckL [.int .i64 0, .int .i64 0]) 2 0 (zeroC [.int .i64 0, .int .i64 0])]⟩
 (.node 93 ⟨.slice 119, 1, 24, [.sl .nil (ckL [.int .i64 0, .int .i64 0]) 2 0 (zeroC [.int .i64 0, .int .i64 0])]⟩
 .nil .nil) .nil)) (.node 99 ⟨.func, 1, 8, [.nilf]⟩
 (.node 97 ⟨.struct [(0, 96), (4, 3), (5, 3)], 6, 64, [.sl .nil (ckL [.int .i64 0, .int .i64 0]) 2 0 (zeroC [.int .i64 0, .int .i64 0]), .int .i64 0, .int .i64 0, .int .i64 0, .int .i64 0, .int .i64 0]⟩
 (.node 96 ⟨.struct [(0, 94), (1, 3), (2, 3), (3, 3)], 4, 48, [.sl .nil (ckL [.int .i64 0, .int .i64 0]) 2 0 (zeroC [.int .i64 0, .int .i64 0]), .int .i64 0, .int .i64 0, .int .i64 0]⟩
 .nil .nil) (.node 98 ⟨.struct [(0, 96), (4, 3), (5, 3)], 6, 64, [.sl .nil (ckL [.int .i64 0, .int .i64 0]) 2 0 (zeroC [.int .i64 0, .int .i64 0]), .int .i64 0, .int .i64 0, .int .i64 0, .int .i64 0, .int .i64 0]⟩
 .nil .nil)) (.node 101 ⟨.slice 107, 1, 24, [.sl .nil (ckL [.int .i64 0, .bool false, .bool false, .int .i64 0, .int .i64 0, .int .i64 0]) 6 0 (zeroC [.int .i64 0, .bool false, .bool false, .int .i64 0, .int .i64 0, .int .i64 0])]⟩
 (.node 100 ⟨.func, 1, 8, [.nilf]⟩
 .nil .nil) .nil)))) (.node 118 ⟨.struct [(0, 3), (1, 3)], 2, 16, [.int .i64 0, .int .i64 0]⟩
 (.node 111 ⟨.func, 1, 8, [.nilf]⟩
 (.node 107 ⟨.struct [(0, 3), (1, 4), (2, 4), (3, 3), (4, 3), (5, 3)], 6, 40, [.int .i64 0, .bool false, .bool false, .int .i64 0, .int .i64 0, .int .i64 0]⟩
 (.node 105 ⟨.struct [(0, 3), (1, 3), (2, 3), (3, 4), (4, 76)], 6, 48, [.int .i64 0, .int .i64 0, .int .i64 0, .bool false, .int .i64 0, .int .i64 0]⟩
 (.node 104 ⟨.struct [(0, 3), (1, 3), (2, 3), (3, 4), (4, 76)], 6, 48, [.int .i64 0, .int .i64 0, .int .i64 0, .bool false, .int .i64 0, .int .i64 0]⟩
 .nil .nil) (.node 106 ⟨.struct [(0, 3), (1, 4), (2, 4), (3, 3), (4, 3), (5, 3)], 6, 40, [.int .i64 0, .bool false, .bool false, .int .i64 0, .int .i64 0, .int .i64 0]⟩
 .nil .nil)) (.node 109 ⟨.slice 105, 1, 24, [.sl .nil (ckL [.int .i64 0, .int .i64 0, .int .i64 0, .bool false, .int .i64 0, .int .i64 0]) 6 0 (zeroC [.int .i64 0, .int .i64 0, .int .i64 0, .bool false, .int .i64 0, .int .i64 0])]⟩
 (.node 108 ⟨.func, 1, 8, [.nilf]⟩
 .nil .nil) .nil)) (.node 115 ⟨.struct [(0, 3), (1, 3), (2, 3), (3, 3), (4, 3), (5, 3), (6, 3)], 7, 56, [.int .i64 0, .int .i64 0, .int .i64 0, .int .i64 0, .int .i64 0, .int .i64 0, .int .i64 0]⟩
 (.node 113 ⟨.struct [(0, 26), (2, 93), (3, 3), (4, 3), (5, 3), (6, 22)], 7, 88, [.int .i64 0, .int .i64 0, .sl .nil (ckL [.int .i64 0, .int .i64 0]) 2 0 (zeroC [.int .i64 0, .int .i64 0]), .int .i64 0, .int .i64 0, .int .i64 0, .sl .nil (ckL [.int .i64 0]) 1 0 (zeroC [.int .i64 0])]⟩
 (.node 112 ⟨.func, 1, 8, [.nilf]⟩
 .nil .nil) (.node 114 ⟨.struct [(0, 26), (2, 93), (3, 3), (4, 3), (5, 3), (6, 22)], 7, 88, [.int .i64 0, .int .i64 0, .sl .nil (ckL [.int .i64 0, .int .i64 0]) 2 0 (zeroC [.int .i64 0, .int .i64 0]), .int .i64 0, .int .i64 0, .int .i64 0, .sl .nil (ckL [.int .i64 0]) 1 0 (zeroC [.int .i64 0])]⟩
 .nil .nil)) (.node 117 ⟨.func, 1, 8, [.nilf]⟩
 (.node 116 ⟨.struct [(0, 3), (1, 3), (2, 3), (3, 3), (4, 3), (5, 3), (6, 3)], 7, 56, [.int .i64 0, .int .i64 0, .int .i64 0, .int .i64 0, .int .i64 0, .int .i64 0, .int .i64 0]⟩
 .nil .nil) .nil))) (.node 126 ⟨.struct [(0, 4), (1, 3), (2, 3), (3, 3), (4, 3), (5, 124)], 6, 64, [.bool false, .int .i64 0, .int .i64 0, .int .i64 0, .int .i64 0, .sl .nil (ckL [.int .i64 0, .int .i64 0]) 2 0 (zeroC [.int .i64 0, .int .i64 0])]⟩
 (.node 123 ⟨.func, 1, 8, [.nilf]⟩
 (.node 120 ⟨.func, 1, 8, [.nilf]⟩
 (.node 119 ⟨.struct [(0, 3), (1, 3)], 2, 16, [.int .i64 0, .int .i64 0]⟩
 .nil .nil) (.node 121 ⟨.func, 1, 8, [.nilf]⟩
 .nil .nil)) (.node 125 ⟨.struct [(0, 4), (1, 3), (2, 3), (3, 3), (4, 3), (5, 124)], 6, 64, [.bool false, .int .i64 0, .int .i64 0, .int .i64 0, .int .i64 0, .sl .nil (ckL [.int .i64 0, .int .i64 0]) 2 0 (zeroC [.int .i64 0, .int .i64 0])]⟩
 (.node 124 ⟨.slice 195, 1, 24, [.sl .nil (ckL [.int .i64 0, .int .i64 0]) 2 0 (zeroC [.int .i64 0, .int .i64 0])]⟩
 .nil .nil) .nil)) (.node 129 ⟨.struct [(0, 3), (1, 22), (2, 128)], 3, 56, [.int .i64 0, .sl .nil (ckL [.int .i64 0]) 1 0 (zeroC [.int .i64 0]), .sl .nil (ckL [.int .i64 0, .sl .nil (ckL [.int .i64 0]) 1 0 (zeroC [.int .i64 0])]) 2 0 (zeroC [.int .i64 0, .sl .nil (ckL [.int .i64 0]) 1 0 (zeroC [.int .i64 0])])]⟩
 (.node 128 ⟨.slice 197, 1, 24, [.sl .nil (ckL [.int .i64 0, .sl .nil (ckL [.int .i64 0]) 1 0 (zeroC [.int .i64 0])]) 2 0 (zeroC [.int .i64 0, .sl .nil (ckL [.int .i64 0]) 1 0 (zeroC [.int .i64 0])])]⟩
 (.node 127 ⟨.func, 1, 8, [.nilf]⟩
 .nil .nil) .nil) (.node 131 ⟨.slice 199, 1, 24, [.sl .nil (ckL [.int .i64 0, .int .i64 0]) 2 0 (zeroC [.int .i64 0, .int .i64 0])]⟩
 (.node 130 ⟨.struct [(0, 3), (1, 22), (2, 128)], 3, 56, [.int .i64 0, .sl .nil (ckL [.int .i64 0]) 1 0 (zeroC [.int .i64 0]), .sl .nil (ckL [.int .i64 0, .sl .nil (ckL [.int .i64 0]) 1 0 (zeroC [.int .i64 0])]) 2 0 (zeroC [.int .i64 0, .sl .nil (ckL [.int .i64 0]) 1 0 (zeroC [.int .i64 0])])]⟩
 .nil .nil) .nil)))))) (.node 193 ⟨.func, 1, 8, [.nilf]⟩
 (.node 165 ⟨.struct [(0, 76), (2, 163)], 3, 40, [.int .i64 0, .int .i64 0, .sl .nil (ckL [.int .i64 0, .int .i64 0, .int .i64 0]) 3 0 (zeroC [.int .i64 0, .int .i64 0, .int .i64 0])]⟩
 (.node 149 ⟨.func, 1, 8, [.nilf]⟩
 (.node 142 ⟨.struct [(0, 26), (2, 3), (3, 3), (4, 3)], 5, 40, [.int .i64 0, .int .i64 0, .int .i64 0, .int .i64 0, .int .i64 0]⟩
 (.node 139 ⟨.func, 1, 8, [.nilf]⟩
 (.node 136 ⟨.func, 1, 8, [.nilf]⟩
 (.node 134 ⟨.slice 202, 1, 24, [.sl .nil (ckL [.int .i64 0, .int .i64 0]) 2 0 (zeroC [.int .i64 0, .int .i64 0])]⟩
 .nil .nil) (.node 138 ⟨.func, 1, 8, [.nilf]⟩
 .nil .nil)) (.node 141 ⟨.struct [(0, 26), (2, 3), (3, 3), (4, 3)], 5, 40, [.int .i64 0, .int .i64 0, .int .i64 0, .int .i64 0, .int .i64 0]⟩
 (.node 140 ⟨.func, 1, 8, [.nilf]⟩
 .nil .nil) .nil)) (.node 146 ⟨.func, 1, 8, [.nilf]⟩
 (.node 144 ⟨.func, 1, 8, [.nilf]⟩
 (.node 143 ⟨.func, 1, 8, [.nilf]⟩
 .nil .nil) (.node 145 ⟨.func, 1, 8, [.nilf]⟩
 .nil .nil)) (.node 148 ⟨.struct [(0, 3), (1, 3), (2, 22)], 3, 40, [.int .i64 0, .int .i64 0, .sl .nil (ckL [.int .i64 0]) 1 0 (zeroC [.int .i64 0])]⟩
 (.node 147 ⟨.struct [(0, 3), (1, 3), (2, 22)], 3, 40, [.int .i64 0, .int .i64 0, .sl .nil (ckL [.int .i64 0]) 1 0 (zeroC [.int .i64 0])]⟩
 .nil .nil) .nil))) (.node 157 ⟨.func, 1, 8, [.nilf]⟩
 (.node 154 ⟨.struct [(0, 49), (3, 3), (4, 4)], 5, 72, [.int .i64 0, .sl .nil (ckL [.int .i64 0, .int .i64 0, .int .i64 0, .int .i64 0, .int .i64 0, .int .i64 0, .int .i64 0]) 7 0 (zeroC [.int .i64 0, .int .i64 0, .int .i64 0, .int .i64 0, .int .i64 0, .int .i64 0, .int .i64 0]), .sl .nil (ckL [.int .i64 0]) 1 0 (zeroC [.int .i64 0]), .int .i64 0, .bool false]⟩
 (.node 152 ⟨.func, 1, 8, [.nilf]⟩
 (.node 151 ⟨.func, 1, 8, [.nilf]⟩
 .nil .nil) (.node 153 ⟨.struct [(0, 49), (3, 3), (4, 4)], 5, 72, [.int .i64 0, .sl .nil (ckL [.int .i64 0, .int .i64 0, .int .i64 0, .int .i64 0, .int .i64 0, .int .i64 0, .int .i64 0]) 7 0 (zeroC [.int .i64 0, .int .i64 0, .int .i64 0, .int .i64 0, .int .i64 0, .int .i64 0, .int .i64 0]), .sl .nil (ckL [.int .i64 0]) 1 0 (zeroC [.int .i64 0]), .int .i64 0, .bool false]⟩
 .nil .nil)) (.node 156 ⟨.func, 1, 8, [.nilf]⟩
 (.node 155 ⟨.func, 1, 8, [.nilf]⟩
 .nil .nil) .nil)) (.node 162 ⟨.func, 1, 8, [.nilf]⟩
 (.node 159 ⟨.func, 1, 8, [.nilf]⟩
 (.node 158 ⟨.func, 1, 8, [.nilf]⟩
 .nil .nil) (.node 161 ⟨.func, 1, 8, [.nilf]⟩
 .nil .nil)) (.node 164 ⟨.struct [(0, 76), (2, 163)], 3, 40, [.int .i64 0, .int .i64 0, .sl .nil (ckL [.int .i64 0, .int .i64 0, .int .i64 0]) 3 0 (zeroC [.int .i64 0, .int .i64 0, .int .i64 0])]⟩
 (.node 163 ⟨.slice 170, 1, 24, [.sl .nil (ckL [.int .i64 0, .int .i64 0, .int .i64 0]) 3 0 (zeroC [.int .i64 0, .int .i64 0, .int .i64 0])]⟩
 .nil .nil) .nil)))) (.node 179 ⟨.func, 1, 8, [.nilf]⟩
 (.node 172 ⟨.struct [(0, 3), (1, 3), (2, 3)], 3, 24, [.int .i64 0, .int .i64 0, .int .i64 0]⟩
 (.node 169 ⟨.struct [(0, 3), (1, 76)], 3, 24, [.int .i64 0, .int .i64 0, .int .i64 0]⟩
 (.node 167 ⟨.struct [(0, 3), (1, 3), (2, 3), (3, 76)], 5, 40, [.int .i64 0, .int .i64 0, .int .i64 0, .int .i64 0, .int .i64 0]⟩
 (.node 166 ⟨.struct [(0, 3), (1, 3), (2, 3), (3, 76)], 5, 40, [.int .i64 0, .int .i64 0, .int .i64 0, .int .i64 0, .int .i64 0]⟩
 .nil .nil) (.node 168 ⟨.func, 1, 8, [.nilf]⟩
 .nil .nil)) (.node 171 ⟨.struct [(0, 3), (1, 3), (2, 3)], 3, 24, [.int .i64 0, .int .i64 0, .int .i64 0]⟩
 (.node 170 ⟨.struct [(0, 3), (1, 76)], 3, 24, [.int .i64 0, .int .i64 0, .int .i64 0]⟩
 .nil .nil) .nil)) (.node 176 ⟨.func, 1, 8, [.nilf]⟩
 (.node 174 ⟨.func, 1, 8, [.nilf]⟩
 (.node 173 ⟨.func, 1, 8, [.nilf]⟩
 .nil .nil) (.node 175 ⟨.func, 1, 8, [.nilf]⟩
 .nil .nil)) (.node 178 ⟨.func, 1, 8, [.nilf]⟩
 (.node 177 ⟨.func, 1, 8, [.nilf]⟩
 .nil .nil) .nil))) (.node 186 ⟨.func, 1, 8, [.nilf]⟩
 (.node 183 ⟨.struct [(0, 42), (5, 107)], 11, 80, [.int .i64 0, .int .i64 0, .int .i64 0, .int .i64 0, .int .i64 0, .int .i64 0, .bool false, .bool false, .int .i64 0, .int .i64 0, .int .i64 0]⟩
 (.node 181 ⟨.func, 1, 8, [.nilf]⟩
 (.node 180 ⟨.ptr 184, 1, 8, [.nilp]⟩
 .nil .nil) (.node 182 ⟨.func, 1, 8, [.nilf]⟩
 .nil .nil)) (.node 185 ⟨.func, 1, 8, [.nilf]⟩
 (.node 184 ⟨.struct [(0, 42), (5, 107)], 11, 80, [.int .i64 0, .int .i64 0, .int .i64 0, .int .i64 0, .int .i64 0, .int .i64 0, .bool false, .bool false, .int .i64 0, .int .i64 0, .int .i64 0]⟩
 .nil .nil) .nil)) (.node 190 ⟨.func, 1, 8, [.nilf]⟩
 (.node 189 ⟨.func, 1, 8, [.nilf]⟩
 (.node 188 ⟨.func, 1, 8, [.nilf]⟩
 .nil .nil) .nil) (.node 192 ⟨.struct [(0, 3), (1, 22), (2, 4)], 3, 40, [.int .i64 0, .sl .nil (ckL [.int .i64 0]) 1 0 (zeroC [.int .i64 0]), .bool false]⟩
 (.node 191 ⟨.struct [(0, 3), (1, 22), (2, 4)], 3, 40, [.int .i64 0, .sl .nil (ckL [.int .i64 0]) 1 0 (zeroC [.int .i64 0]), .bool false]⟩
 .nil .nil) .nil))))) (.node 222 ⟨.func, 1, 8, [.nilf]⟩
 (.node 207 ⟨.func, 1, 8, [.nilf]⟩
 (.node 200 ⟨.func, 1, 8, [.nilf]⟩
 (.node 197 ⟨.struct [(0, 3), (1, 22)], 2, 32, [.int .i64 0, .sl .nil (ckL [.int .i64 0]) 1 0 (zeroC [.int .i64 0])]⟩
 (.node 195 ⟨.struct [(0, 3), (1, 3)], 2, 16, [.int .i64 0, .int .i64 0]⟩
 (.node 194 ⟨.struct [(0, 3), (1, 3)], 2, 16, [.int .i64 0, .int .i64 0]⟩
 .nil .nil) (.node 196 ⟨.struct [(0, 3), (1, 22)], 2, 32, [.int .i64 0, .sl .nil (ckL [.int .i64 0]) 1 0 (zeroC [.int .i64 0])]⟩
 .nil .nil)) (.node 199 ⟨.struct [(0, 3), (1, 3)], 2, 16, [.int .i64 0, .int .i64 0]⟩
 (.node 198 ⟨.struct [(0, 3), (1, 3)], 2, 16, [.int .i64 0, .int .i64 0]⟩
 .nil .nil) .nil)) (.node 204 ⟨.ptr 142, 1, 8, [.nilp]⟩
 (.node 202 ⟨.arr 2 3, 2, 16, [.int .i64 0, .int .i64 0]⟩
 (.node 201 ⟨.func, 1, 8, [.nilf]⟩
 .nil .nil) (.node 203 ⟨.func, 1, 8, [.nilf]⟩
 .nil .nil)) (.node 206 ⟨.func, 1, 8, [.nilf]⟩
 (.node 205 ⟨.func, 1, 8, [.nilf]⟩
 .nil .nil) .nil))) (.node 214 ⟨.func, 1, 8, [.nilf]⟩
 (.node 211 ⟨.func, 1, 8, [.nilf]⟩
 (.node 209 ⟨.func, 1, 8, [.nilf]⟩
 (.node 208 ⟨.func, 1, 8, [.nilf]⟩
 .nil .nil) (.node 210 ⟨.func, 1, 8, [.nilf]⟩
 .nil .nil)) (.node 213 ⟨.func, 1, 8, [.nilf]⟩
 (.node 212 ⟨.func, 1, 8, [.nilf]⟩
 .nil .nil) .nil)) (.node 218 ⟨.func, 1, 8, [.nilf]⟩
 (.node 217 ⟨.func, 1, 8, [.nilf]⟩
 (.node 215 ⟨.func, 1, 8, [.nilf]⟩
 .nil .nil) .nil) (.node 221 ⟨.map 3 22, 1, 8, [.nilm]⟩
 (.node 220 ⟨.func, 1, 8, [.nilf]⟩
 .nil .nil) .nil)))) (.node 236 ⟨.ptr 225, 1, 8, [.nilp]⟩
 (.node 229 ⟨.struct [(0, 130), (3, 3), (4, 3), (5, 3)], 6, 80, [.int .i64 0, .sl .nil (ckL [.int .i64 0]) 1 0 (zeroC [.int .i64 0]), .sl .nil (ckL [.int .i64 0, .sl .nil (ckL [.int .i64 0]) 1 0 (zeroC [.int .i64 0])]) 2 0 (zeroC [.int .i64 0, .sl .nil (ckL [.int .i64 0]) 1 0 (zeroC [.int .i64 0])]), .int .i64 0, .int .i64 0, .int .i64 0]⟩
 (.node 226 ⟨.func, 1, 8, [.nilf]⟩
 (.node 224 ⟨.struct [(0, 126), (6, 78), (10, 3), (11, 3)], 12, 112, [.bool false, .int .i64 0, .int .i64 0, .int .i64 0, .int .i64 0, .sl .nil (ckL [.int .i64 0, .int .i64 0]) 2 0 (zeroC [.int .i64 0, .int .i64 0]), .int .i64 0, .int .i64 0, .int .i64 0, .int .i64 0, .int .i64 0, .int .i64 0]⟩
 (.node 223 ⟨.func, 1, 8, [.nilf]⟩
 .nil .nil) (.node 225 ⟨.struct [(0, 126), (6, 78), (10, 3), (11, 3)], 12, 112, [.bool false, .int .i64 0, .int .i64 0, .int .i64 0, .int .i64 0, .sl .nil (ckL [.int .i64 0, .int .i64 0]) 2 0 (zeroC [.int .i64 0, .int .i64 0]), .int .i64 0, .int .i64 0, .int .i64 0, .int .i64 0, .int .i64 0, .int .i64 0]⟩
 .nil .nil)) (.node 228 ⟨.struct [(0, 130), (3, 3), (4, 3), (5, 3)], 6, 80, [.int .i64 0, .sl .nil (ckL [.int .i64 0]) 1 0 (zeroC [.int .i64 0]), .sl .nil (ckL [.int .i64 0, .sl .nil (ckL [.int .i64 0]) 1 0 (zeroC [.int .i64 0])]) 2 0 (zeroC [.int .i64 0, .sl .nil (ckL [.int .i64 0]) 1 0 (zeroC [.int .i64 0])]), .int .i64 0, .int .i64 0, .int .i64 0]⟩
 (.node 227 ⟨.func, 1, 8, [.nilf]⟩
 .nil .nil) .nil)) (.node 233 ⟨.func, 1, 8, [.nilf]⟩
 (.node 231 ⟨.map 3 3, 1, 8, [.nilm]⟩
 (.node 230 ⟨.func, 1, 8, [.nilf]⟩
 .nil .nil) (.node 232 ⟨.func, 1, 8, [.nilf]⟩
 .nil .nil)) (.node 235 ⟨.func, 1, 8, [.nilf]⟩
 (.node 234 ⟨.func, 1, 8, [.nilf]⟩
 .nil .nil) .nil))) (.node 243 ⟨.func, 1, 8, [.nilf]⟩
 (.node 240 ⟨.func, 1, 8, [.nilf]⟩
 (.node 238 ⟨.slice 4, 1, 24, [.sl .nil (ckL [.bool false]) 1 0 (zeroC [.bool false])]⟩
 (.node 237 ⟨.func, 1, 8, [.nilf]⟩
 .nil .nil) (.node 239 ⟨.func, 1, 8, [.nilf]⟩
 .nil .nil)) (.node 242 ⟨.func, 1, 8, [.nilf]⟩
 (.node 241 ⟨.func, 1, 8, [.nilf]⟩
 .nil .nil) .nil)) (.node 251 ⟨.int .u32, 1, 4, [.int .u32 0]⟩
 (.node 245 ⟨.func, 1, 8, [.nilf]⟩
 (.node 244 ⟨.func, 1, 8, [.nilf]⟩
 .nil .nil) .nil) (.node 255 ⟨.ptr 5, 1, 8, [.nilp]⟩
 (.node 254 ⟨.func, 1, 8, [.nilf]⟩
 .nil .nil) .nil)))))))
end Go.Proofs.Ytpillmoddoccfab
