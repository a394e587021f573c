import Derived.Test.YtckkodiefpdmhaaDoorSxDefs
namespace Go.Proofs.YtckkodiefpdmhaaDoor
open Go.Sx
def Tys : Go.Sx.Tys :=
  (.node 68 ⟨.func, 1, 8, [.nilf]⟩
 (.node 39 ⟨.slice 58, 1, 24, [.sl .nil (ckL [.int .i64 0, .int .i64 0, .sl .nil (ckL [.int .i64 0]) 1 0 (zeroC [.int .i64 0])]) 3 0 (zeroC [.int .i64 0, .int .i64 0, .sl .nil (ckL [.int .i64 0]) 1 0 (zeroC [.int .i64 0])])]⟩
 (.node 26 ⟨.struct [(0, 22), (3, 3)], 4, 32, [.int .i64 0, .int .i64 0, .int .i64 0, .int .i64 0]⟩
 (.node 12 ⟨.int .u64, 1, 8, [.int .u64 0]⟩
 (.node 4 ⟨.bool, 1, 1, [.bool false]⟩
 (.node 2 ⟨.int .i64, 1, 8, [.int .i64 0]⟩
 (.node 1 ⟨.func, 1, 8, [.nilf]⟩
 .nil .nil) (.node 3 ⟨.int .i64, 1, 8, [.int .i64 0]⟩
 .nil .nil)) (.node 9 ⟨.str, 1, 16, [.str ByteArray.empty]⟩
 (.node 5 ⟨.int .u8, 1, 1, [.int .u8 0]⟩
 .nil .nil) .nil)) (.node 23 ⟨.slice 22, 1, 24, [.sl .nil (ckL [.int .i64 0, .int .i64 0, .int .i64 0]) 3 0 (zeroC [.int .i64 0, .int .i64 0, .int .i64 0])]⟩
 (.node 22 ⟨.arr 3 3, 3, 24, [.int .i64 0, .int .i64 0, .int .i64 0]⟩
 (.node 21 ⟨.int .i32, 1, 4, [.int .i32 0]⟩
 .nil .nil) .nil) (.node 25 ⟨.struct [(0, 22), (3, 23)], 4, 48, [.int .i64 0, .int .i64 0, .int .i64 0, .sl .nil (ckL [.int .i64 0, .int .i64 0, .int .i64 0]) 3 0 (zeroC [.int .i64 0, .int .i64 0, .int .i64 0])]⟩
 (.node 24 ⟨.struct [(0, 22), (3, 23)], 4, 48, [.int .i64 0, .int .i64 0, .int .i64 0, .sl .nil (ckL [.int .i64 0, .int .i64 0, .int .i64 0]) 3 0 (zeroC [.int .i64 0, .int .i64 0, .int .i64 0])]⟩
 .nil .nil) .nil))) (.node 32 ⟨.slice 3, 1, 24, [.sl .nil (ckL [.int .i64 0]) 1 0 (zeroC [.int .i64 0])]⟩
 (.node 29 ⟨.struct [(0, 22), (3, 27), (7, 3)], 8, 64, [.int .i64 0, .int .i64 0, .int .i64 0, .int .i64 0, .int .i64 0, .int .i64 0, .int .i64 0, .int .i64 0]⟩
 (.node 28 ⟨.struct [(0, 22), (3, 27), (7, 3)], 8, 64, [.int .i64 0, .int .i64 0, .int .i64 0, .int .i64 0, .int .i64 0, .int .i64 0, .int .i64 0, .int .i64 0]⟩
 (.node 27 ⟨.struct [(0, 22), (3, 3)], 4, 32, [.int .i64 0, .int .i64 0, .int .i64 0, .int .i64 0]⟩
 .nil .nil) .nil) (.node 31 ⟨.func, 1, 8, [.nilf]⟩
 (.node 30 ⟨.func, 1, 8, [.nilf]⟩
 .nil .nil) .nil)) (.node 36 ⟨.func, 1, 8, [.nilf]⟩
 (.node 35 ⟨.func, 1, 8, [.nilf]⟩
 (.node 33 ⟨.int .i64, 1, 8, [.int .i64 0]⟩
 .nil .nil) .nil) (.node 38 ⟨.int .u64, 1, 8, [.int .u64 0]⟩
 (.node 37 ⟨.func, 1, 8, [.nilf]⟩
 .nil .nil) .nil)))) (.node 54 ⟨.func, 1, 8, [.nilf]⟩
 (.node 45 ⟨.func, 1, 8, [.nilf]⟩
 (.node 42 ⟨.struct [(0, 3), (1, 3), (2, 3)], 3, 24, [.int .i64 0, .int .i64 0, .int .i64 0]⟩
 (.node 41 ⟨.struct [(0, 3), (1, 39), (2, 32), (3, 3), (4, 3)], 5, 72, [.int .i64 0, .sl .nil (ckL [.int .i64 0, .int .i64 0, .sl .nil (ckL [.int .i64 0]) 1 0 (zeroC [.int .i64 0])]) 3 0 (zeroC [.int .i64 0, .int .i64 0, .sl .nil (ckL [.int .i64 0]) 1 0 (zeroC [.int .i64 0])]), .sl .nil (ckL [.int .i64 0]) 1 0 (zeroC [.int .i64 0]), .int .i64 0, .int .i64 0]⟩
 (.node 40 ⟨.struct [(0, 3), (1, 39), (2, 32), (3, 3), (4, 3)], 5, 72, [.int .i64 0, .sl .nil (ckL [.int .i64 0, .int .i64 0, .sl .nil (ckL [.int .i64 0]) 1 0 (zeroC [.int .i64 0])]) 3 0 (zeroC [.int .i64 0, .int .i64 0, .sl .nil (ckL [.int .i64 0]) 1 0 (zeroC [.int .i64 0])]), .sl .nil (ckL [.int .i64 0]) 1 0 (zeroC [.int .i64 0]), .int .i64 0, .int .i64 0]⟩
 .nil .nil) .nil) (.node 44 ⟨.func, 1, 8, [.nilf]⟩
 (.node 43 ⟨.struct [(0, 3), (1, 3), (2, 3)], 3, 24, [.int .i64 0, .int .i64 0, .int .i64 0]⟩
 .nil .nil) .nil)) (.node 49 ⟨.func, 1, 8, [.nilf]⟩
 (.node 48 ⟨.func, 1, 8, [.nilf]⟩
 (.node 47 ⟨.func, 1, 8, [.nilf]⟩
 .nil .nil) .nil) (.node 53 ⟨.func, 1, 8, [.nilf]⟩
 (.node 51 ⟨.func, 1, 8, [.nilf]⟩
 .nil .nil) .nil))) (.node 61 ⟨.func, 1, 8, [.nilf]⟩
 (.node 58 ⟨.struct [(0, 3), (1, 3), (2, 32)], 3, 40, [.int .i64 0, .int .i64 0, .sl .nil (ckL [.int .i64 0]) 1 0 (zeroC [.int .i64 0])]⟩
 (.node 57 ⟨.struct [(0, 3), (1, 3), (2, 32)], 3, 40, [.int .i64 0, .int .i64 0, .sl .nil (ckL [.int .i64 0]) 1 0 (zeroC [.int .i64 0])]⟩
 (.node 56 ⟨.func, 1, 8, [.nilf]⟩
 .nil .nil) .nil) (.node 60 ⟨.func, 1, 8, [.nilf]⟩
 (.node 59 ⟨.func, 1, 8, [.nilf]⟩
 .nil .nil) .nil)) (.node 64 ⟨.func, 1, 8, [.nilf]⟩
 (.node 63 ⟨.func, 1, 8, [.nilf]⟩
 (.node 62 ⟨.func, 1, 8, [.nilf]⟩
 .nil .nil) .nil) (.node 67 ⟨.func, 1, 8, [.nilf]⟩
 (.node 66 ⟨.func, 1, 8, [.nilf]⟩
 .nil .nil) .nil))))) (.node 97 ⟨.func, 1, 8, [.nilf]⟩
 (.node 84 ⟨.func, 1, 8, [.nilf]⟩
 (.node 76 ⟨.func, 1, 8, [.nilf]⟩
 (.node 72 ⟨.ptr 94, 1, 8, [.nilp]⟩
 (.node 71 ⟨.func, 1, 8, [.nilf]⟩
 (.node 69 ⟨.func, 1, 8, [.nilf]⟩
 .nil .nil) .nil) (.node 74 ⟨.func, 1, 8, [.nilf]⟩
 (.node 73 ⟨.func, 1, 8, [.nilf]⟩
 .nil .nil) .nil)) (.node 79 ⟨.func, 1, 8, [.nilf]⟩
 (.node 78 ⟨.func, 1, 8, [.nilf]⟩
 (.node 77 ⟨.func, 1, 8, [.nilf]⟩
 .nil .nil) .nil) (.node 82 ⟨.func, 1, 8, [.nilf]⟩
 (.node 81 ⟨.func, 1, 8, [.nilf]⟩
 .nil .nil) .nil))) (.node 91 ⟨.func, 1, 8, [.nilf]⟩
 (.node 87 ⟨.func, 1, 8, [.nilf]⟩
 (.node 86 ⟨.func, 1, 8, [.nilf]⟩
 (.node 85 ⟨.func, 1, 8, [.nilf]⟩
 .nil .nil) .nil) (.node 90 ⟨.func, 1, 8, [.nilf]⟩
 (.node 89 ⟨.func, 1, 8, [.nilf]⟩
 .nil .nil) .nil)) (.node 94 ⟨.struct [(0, 22), (3, 22), (6, 92)], 7, 56, [.int .i64 0, .int .i64 0, .int .i64 0, .int .i64 0, .int .i64 0, .int .i64 0, .nilm]⟩
 (.node 93 ⟨.struct [(0, 22), (3, 22), (6, 92)], 7, 56, [.int .i64 0, .int .i64 0, .int .i64 0, .int .i64 0, .int .i64 0, .int .i64 0, .nilm]⟩
 (.node 92 ⟨.map 22 95, 1, 8, [.nilm]⟩
 .nil .nil) .nil) (.node 96 ⟨.func, 1, 8, [.nilf]⟩
 (.node 95 ⟨.struct [], 0, 0, []⟩
 .nil .nil) .nil)))) (.node 110 ⟨.arr 6 22, 18, 144, [.int .i64 0, .int .i64 0, .int .i64 0, .int .i64 0, .int .i64 0, .int .i64 0, .int .i64 0, .int .i64 0, .int .i64 0, .int .i64 0, .int .i64 0, .int .i64 0, .int .i64 0, .int .i64 0, .int .i64 0, .int .i64 0, .int .i64 0, .int .i64 0]⟩
 (.node 104 ⟨.func, 1, 8, [.nilf]⟩
 (.node 100 ⟨.map 27 99, 1, 8, [.nilm]⟩
 (.node 99 ⟨.struct [(0, 27), (4, 3)], 5, 40, [.int .i64 0, .int .i64 0, .int .i64 0, .int .i64 0, .int .i64 0]⟩
 (.node 98 ⟨.struct [(0, 27), (4, 3)], 5, 40, [.int .i64 0, .int .i64 0, .int .i64 0, .int .i64 0, .int .i64 0]⟩
 .nil .nil) .nil) (.node 103 ⟨.func, 1, 8, [.nilf]⟩
 (.node 101 ⟨.slice 27, 1, 24, [.sl .nil (ckL [.int .i64 0, .int .i64 0, .int .i64 0, .int .i64 0]) 4 0 (zeroC [.int .i64 0, .int .i64 0, .int .i64 0, .int .i64 0])]⟩
 .nil .nil) .nil)) (.node 107 ⟨.func, 1, 8, [.nilf]⟩
 (.node 106 ⟨.func, 1, 8, [.nilf]⟩
 (.node 105 ⟨.func, 1, 8, [.nilf]⟩
 .nil .nil) .nil) (.node 109 ⟨.arr 3 108, 3, 24, [.nilf, .nilf, .nilf]⟩
 (.node 108 ⟨.func, 1, 8, [.nilf]⟩
 .nil .nil) .nil))) (.node 116 ⟨.func, 1, 8, [.nilf]⟩
 (.node 113 ⟨.func, 1, 8, [.nilf]⟩
 (.node 112 ⟨.arr 3 111, 6, 48, [.int .i64 0, .int .i64 0, .int .i64 0, .int .i64 0, .int .i64 0, .int .i64 0]⟩
 (.node 111 ⟨.arr 2 3, 2, 16, [.int .i64 0, .int .i64 0]⟩
 .nil .nil) .nil) (.node 115 ⟨.func, 1, 8, [.nilf]⟩
 (.node 114 ⟨.func, 1, 8, [.nilf]⟩
 .nil .nil) .nil)) (.node 125 ⟨.int .u32, 1, 4, [.int .u32 0]⟩
 (.node 124 ⟨.func, 1, 8, [.nilf]⟩
 (.node 118 ⟨.func, 1, 8, [.nilf]⟩
 .nil .nil) .nil) (.node 129 ⟨.ptr 5, 1, 8, [.nilp]⟩
 (.node 128 ⟨.func, 1, 8, [.nilf]⟩
 .nil .nil) .nil))))))
end Go.Proofs.YtckkodiefpdmhaaDoor
