import Derived.Test.YtlphgonhenegoaaSxDefs
namespace Go.Proofs.Ytlphgonhenegoaa
open Go.Sx
def Tys : Go.Sx.Tys :=
  (.node 63 ⟨.func, 1, 8, [.nilf]⟩
 (.node 37 ⟨.slice 3, 1, 24, [.sl .nil (ckL [.int .i64 0]) 1 0 (zeroC [.int .i64 0])]⟩
 (.node 24 ⟨.int .i64, 1, 8, [.int .i64 0]⟩
 (.node 9 ⟨.str, 1, 16, [.str ByteArray.empty]⟩
 (.node 3 ⟨.int .i64, 1, 8, [.int .i64 0]⟩
 (.node 2 ⟨.int .i64, 1, 8, [.int .i64 0]⟩
 (.node 1 ⟨.func, 1, 8, [.nilf]⟩
 .nil .nil) .nil) (.node 5 ⟨.int .u8, 1, 1, [.int .u8 0]⟩
 (.node 4 ⟨.bool, 1, 1, [.bool false]⟩
 .nil .nil) .nil)) (.node 22 ⟨.struct [(0, 3), (1, 3), (2, 3), (3, 3), (4, 3)], 5, 40, [.int .i64 0, .int .i64 0, .int .i64 0, .int .i64 0, .int .i64 0]⟩
 (.node 21 ⟨.int .i32, 1, 4, [.int .i32 0]⟩
 (.node 12 ⟨.int .u64, 1, 8, [.int .u64 0]⟩
 .nil .nil) .nil) (.node 23 ⟨.struct [(0, 3), (1, 3), (2, 3), (3, 3), (4, 3)], 5, 40, [.int .i64 0, .int .i64 0, .int .i64 0, .int .i64 0, .int .i64 0]⟩
 .nil .nil))) (.node 31 ⟨.func, 1, 8, [.nilf]⟩
 (.node 28 ⟨.func, 1, 8, [.nilf]⟩
 (.node 26 ⟨.func, 1, 8, [.nilf]⟩
 (.node 25 ⟨.func, 1, 8, [.nilf]⟩
 .nil .nil) .nil) (.node 30 ⟨.slice 43, 1, 24, [.sl .nil (ckL [.int .i64 0, .int .i64 0]) 2 0 (zeroC [.int .i64 0, .int .i64 0])]⟩
 (.node 29 ⟨.func, 1, 8, [.nilf]⟩
 .nil .nil) .nil)) (.node 35 ⟨.func, 1, 8, [.nilf]⟩
 (.node 33 ⟨.slice 49, 1, 24, [.sl .nil (ckL [.int .i64 0, .bool false, .bool false, .int .i64 0, .int .i64 0, .int .i64 0]) 6 0 (zeroC [.int .i64 0, .bool false, .bool false, .int .i64 0, .int .i64 0, .int .i64 0])]⟩
 (.node 32 ⟨.func, 1, 8, [.nilf]⟩
 .nil .nil) .nil) (.node 36 ⟨.func, 1, 8, [.nilf]⟩
 .nil .nil)))) (.node 50 ⟨.func, 1, 8, [.nilf]⟩
 (.node 44 ⟨.func, 1, 8, [.nilf]⟩
 (.node 41 ⟨.func, 1, 8, [.nilf]⟩
 (.node 40 ⟨.func, 1, 8, [.nilf]⟩
 (.node 39 ⟨.func, 1, 8, [.nilf]⟩
 .nil .nil) .nil) (.node 43 ⟨.struct [(0, 3), (1, 3)], 2, 16, [.int .i64 0, .int .i64 0]⟩
 (.node 42 ⟨.struct [(0, 3), (1, 3)], 2, 16, [.int .i64 0, .int .i64 0]⟩
 .nil .nil) .nil)) (.node 48 ⟨.struct [(0, 3), (1, 4), (2, 4), (3, 3), (4, 3), (5, 3)], 6, 40, [.int .i64 0, .bool false, .bool false, .int .i64 0, .int .i64 0, .int .i64 0]⟩
 (.node 47 ⟨.func, 1, 8, [.nilf]⟩
 (.node 45 ⟨.func, 1, 8, [.nilf]⟩
 .nil .nil) .nil) (.node 49 ⟨.struct [(0, 3), (1, 4), (2, 4), (3, 3), (4, 3), (5, 3)], 6, 40, [.int .i64 0, .bool false, .bool false, .int .i64 0, .int .i64 0, .int .i64 0]⟩
 .nil .nil))) (.node 57 ⟨.func, 1, 8, [.nilf]⟩
 (.node 53 ⟨.int .u64, 1, 8, [.int .u64 0]⟩
 (.node 52 ⟨.func, 1, 8, [.nilf]⟩
 (.node 51 ⟨.func, 1, 8, [.nilf]⟩
 .nil .nil) .nil) (.node 56 ⟨.func, 1, 8, [.nilf]⟩
 (.node 54 ⟨.slice 23, 1, 24, [.sl .nil (ckL [.int .i64 0, .int .i64 0, .int .i64 0, .int .i64 0, .int .i64 0]) 5 0 (zeroC [.int .i64 0, .int .i64 0, .int .i64 0, .int .i64 0, .int .i64 0])]⟩
 .nil .nil) .nil)) (.node 60 ⟨.func, 1, 8, [.nilf]⟩
 (.node 59 ⟨.func, 1, 8, [.nilf]⟩
 (.node 58 ⟨.func, 1, 8, [.nilf]⟩
 .nil .nil) .nil) (.node 61 ⟨.func, 1, 8, [.nilf]⟩
 .nil .nil))))) (.node 88 ⟨.func, 1, 8, [.nilf]⟩
 (.node 75 ⟨.func, 1, 8, [.nilf]⟩
 (.node 69 ⟨.func, 1, 8, [.nilf]⟩
 (.node 66 ⟨.func, 1, 8, [.nilf]⟩
 (.node 65 ⟨.func, 1, 8, [.nilf]⟩
 (.node 64 ⟨.func, 1, 8, [.nilf]⟩
 .nil .nil) .nil) (.node 68 ⟨.ptr 72, 1, 8, [.nilp]⟩
 (.node 67 ⟨.func, 1, 8, [.nilf]⟩
 .nil .nil) .nil)) (.node 72 ⟨.struct [(0, 23), (5, 49)], 11, 80, [.int .i64 0, .int .i64 0, .int .i64 0, .int .i64 0, .int .i64 0, .int .i64 0, .bool false, .bool false, .int .i64 0, .int .i64 0, .int .i64 0]⟩
 (.node 71 ⟨.struct [(0, 23), (5, 49)], 11, 80, [.int .i64 0, .int .i64 0, .int .i64 0, .int .i64 0, .int .i64 0, .int .i64 0, .bool false, .bool false, .int .i64 0, .int .i64 0, .int .i64 0]⟩
 (.node 70 ⟨.func, 1, 8, [.nilf]⟩
 .nil .nil) .nil) (.node 73 ⟨.func, 1, 8, [.nilf]⟩
 .nil .nil))) (.node 82 ⟨.slice 99, 1, 24, [.sl .nil (ckL [.int .i64 0, .bool false, .bool false, .int .i64 0, .int .i64 0, .int .i64 0, .int .i64 0, .int .i64 0]) 8 0 (zeroC [.int .i64 0, .bool false, .bool false, .int .i64 0, .int .i64 0, .int .i64 0, .int .i64 0, .int .i64 0])]⟩
 (.node 78 ⟨.func, 1, 8, [.nilf]⟩
 (.node 77 ⟨.func, 1, 8, [.nilf]⟩
 (.node 76 ⟨.func, 1, 8, [.nilf]⟩
 .nil .nil) .nil) (.node 81 ⟨.func, 1, 8, [.nilf]⟩
 (.node 79 ⟨.func, 1, 8, [.nilf]⟩
 .nil .nil) .nil)) (.node 86 ⟨.func, 1, 8, [.nilf]⟩
 (.node 85 ⟨.func, 1, 8, [.nilf]⟩
 (.node 83 ⟨.func, 1, 8, [.nilf]⟩
 .nil .nil) .nil) (.node 87 ⟨.func, 1, 8, [.nilf]⟩
 .nil .nil)))) (.node 99 ⟨.struct [(0, 49), (6, 3), (7, 3)], 8, 56, [.int .i64 0, .bool false, .bool false, .int .i64 0, .int .i64 0, .int .i64 0, .int .i64 0, .int .i64 0]⟩
 (.node 94 ⟨.func, 1, 8, [.nilf]⟩
 (.node 91 ⟨.func, 1, 8, [.nilf]⟩
 (.node 90 ⟨.func, 1, 8, [.nilf]⟩
 (.node 89 ⟨.func, 1, 8, [.nilf]⟩
 .nil .nil) .nil) (.node 93 ⟨.func, 1, 8, [.nilf]⟩
 (.node 92 ⟨.func, 1, 8, [.nilf]⟩
 .nil .nil) .nil)) (.node 97 ⟨.slice 4, 1, 24, [.sl .nil (ckL [.bool false]) 1 0 (zeroC [.bool false])]⟩
 (.node 96 ⟨.map 3 37, 1, 8, [.nilm]⟩
 (.node 95 ⟨.func, 1, 8, [.nilf]⟩
 .nil .nil) .nil) (.node 98 ⟨.struct [(0, 49), (6, 3), (7, 3)], 8, 56, [.int .i64 0, .bool false, .bool false, .int .i64 0, .int .i64 0, .int .i64 0, .int .i64 0, .int .i64 0]⟩
 .nil .nil))) (.node 104 ⟨.func, 1, 8, [.nilf]⟩
 (.node 102 ⟨.func, 1, 8, [.nilf]⟩
 (.node 101 ⟨.func, 1, 8, [.nilf]⟩
 (.node 100 ⟨.func, 1, 8, [.nilf]⟩
 .nil .nil) .nil) (.node 103 ⟨.func, 1, 8, [.nilf]⟩
 .nil .nil)) (.node 114 ⟨.func, 1, 8, [.nilf]⟩
 (.node 111 ⟨.int .u32, 1, 4, [.int .u32 0]⟩
 (.node 105 ⟨.func, 1, 8, [.nilf]⟩
 .nil .nil) .nil) (.node 115 ⟨.ptr 5, 1, 8, [.nilp]⟩
 .nil .nil))))))
end Go.Proofs.Ytlphgonhenegoaa
