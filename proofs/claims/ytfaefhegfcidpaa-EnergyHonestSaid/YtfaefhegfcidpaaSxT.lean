/- The table of the types of this translation, for the interpreter; written by a program. -/
import Derived.Test.YtfaefhegfcidpaaSxDefs
namespace Go.Proofs.Ytfaefhegfcidpaa
open Go.Sx
def Tys : Go.Sx.Tys := [
  (2, ⟨.int .i64, 1, 8, [.int .i64 0]⟩),
  (3, ⟨.int .i64, 1, 8, [.int .i64 0]⟩),
  (4, ⟨.bool, 1, 1, [.bool false]⟩),
  (5, ⟨.int .u8, 1, 1, [.int .u8 0]⟩),
  (9, ⟨.str, 1, 16, [.str ByteArray.empty]⟩),
  (12, ⟨.int .u64, 1, 8, [.int .u64 0]⟩),
  (21, ⟨.int .i32, 1, 4, [.int .i32 0]⟩),
  (22, ⟨.slice 3, 1, 24, [.sl .nil (ckL [.int .i64 0]) 1 0 (zeroC [.int .i64 0])]⟩),
  (23, ⟨.struct [(0, 4), (1, 3), (2, 3), (3, 3), (4, 3), (5, 3), (6, 22), (7, 3), (8, 3)], 9, 88, [.bool false, .int .i64 0, .int .i64 0, .int .i64 0, .int .i64 0, .int .i64 0, .sl .nil (ckL [.int .i64 0]) 1 0 (zeroC [.int .i64 0]), .int .i64 0, .int .i64 0]⟩),
  (24, ⟨.struct [(0, 4), (1, 3), (2, 3), (3, 3), (4, 3), (5, 3), (6, 22), (7, 3), (8, 3)], 9, 88, [.bool false, .int .i64 0, .int .i64 0, .int .i64 0, .int .i64 0, .int .i64 0, .sl .nil (ckL [.int .i64 0]) 1 0 (zeroC [.int .i64 0]), .int .i64 0, .int .i64 0]⟩),
  (25, ⟨.slice 56, 1, 24, [.sl .nil (ckL [.int .i64 0, .int .i64 0, .int .i64 0, .int .i64 0]) 4 0 (zeroC [.int .i64 0, .int .i64 0, .int .i64 0, .int .i64 0])]⟩),
  (26, ⟨.struct [(0, 25), (1, 3)], 2, 32, [.sl .nil (ckL [.int .i64 0, .int .i64 0, .int .i64 0, .int .i64 0]) 4 0 (zeroC [.int .i64 0, .int .i64 0, .int .i64 0, .int .i64 0]), .int .i64 0]⟩),
  (27, ⟨.struct [(0, 25), (1, 3)], 2, 32, [.sl .nil (ckL [.int .i64 0, .int .i64 0, .int .i64 0, .int .i64 0]) 4 0 (zeroC [.int .i64 0, .int .i64 0, .int .i64 0, .int .i64 0]), .int .i64 0]⟩),
  (31, ⟨.int .i64, 1, 8, [.int .i64 0]⟩),
  (36, ⟨.struct [(0, 3), (1, 3), (2, 3), (3, 3)], 4, 32, [.int .i64 0, .int .i64 0, .int .i64 0, .int .i64 0]⟩),
  (37, ⟨.struct [(0, 3), (1, 3), (2, 3), (3, 3)], 4, 32, [.int .i64 0, .int .i64 0, .int .i64 0, .int .i64 0]⟩),
  (45, ⟨.struct [(0, 22), (1, 22)], 2, 48, [.sl .nil (ckL [.int .i64 0]) 1 0 (zeroC [.int .i64 0]), .sl .nil (ckL [.int .i64 0]) 1 0 (zeroC [.int .i64 0])]⟩),
  (46, ⟨.struct [(0, 22), (1, 22)], 2, 48, [.sl .nil (ckL [.int .i64 0]) 1 0 (zeroC [.int .i64 0]), .sl .nil (ckL [.int .i64 0]) 1 0 (zeroC [.int .i64 0])]⟩),
  (48, ⟨.struct [(0, 3), (1, 3)], 2, 16, [.int .i64 0, .int .i64 0]⟩),
  (49, ⟨.struct [(0, 3), (1, 3)], 2, 16, [.int .i64 0, .int .i64 0]⟩),
  (55, ⟨.struct [(0, 3), (1, 3), (2, 49)], 4, 32, [.int .i64 0, .int .i64 0, .int .i64 0, .int .i64 0]⟩),
  (56, ⟨.struct [(0, 3), (1, 3), (2, 49)], 4, 32, [.int .i64 0, .int .i64 0, .int .i64 0, .int .i64 0]⟩),
  (59, ⟨.slice 49, 1, 24, [.sl .nil (ckL [.int .i64 0, .int .i64 0]) 2 0 (zeroC [.int .i64 0, .int .i64 0])]⟩),
  (60, ⟨.struct [(0, 22), (1, 3), (2, 59)], 3, 56, [.sl .nil (ckL [.int .i64 0]) 1 0 (zeroC [.int .i64 0]), .int .i64 0, .sl .nil (ckL [.int .i64 0, .int .i64 0]) 2 0 (zeroC [.int .i64 0, .int .i64 0])]⟩),
  (61, ⟨.struct [(0, 22), (1, 3), (2, 59)], 3, 56, [.sl .nil (ckL [.int .i64 0]) 1 0 (zeroC [.int .i64 0]), .int .i64 0, .sl .nil (ckL [.int .i64 0, .int .i64 0]) 2 0 (zeroC [.int .i64 0, .int .i64 0])]⟩),
  (69, ⟨.ptr 71, 1, 8, [.nilp]⟩),
  (70, ⟨.struct [(0, 24), (9, 27), (11, 22), (12, 22), (13, 22), (14, 3)], 15, 200, [.bool false, .int .i64 0, .int .i64 0, .int .i64 0, .int .i64 0, .int .i64 0, .sl .nil (ckL [.int .i64 0]) 1 0 (zeroC [.int .i64 0]), .int .i64 0, .int .i64 0, .sl .nil (ckL [.int .i64 0, .int .i64 0, .int .i64 0, .int .i64 0]) 4 0 (zeroC [.int .i64 0, .int .i64 0, .int .i64 0, .int .i64 0]), .int .i64 0, .sl .nil (ckL [.int .i64 0]) 1 0 (zeroC [.int .i64 0]), .sl .nil (ckL [.int .i64 0]) 1 0 (zeroC [.int .i64 0]), .sl .nil (ckL [.int .i64 0]) 1 0 (zeroC [.int .i64 0]), .int .i64 0]⟩),
  (71, ⟨.struct [(0, 24), (9, 27), (11, 22), (12, 22), (13, 22), (14, 3)], 15, 200, [.bool false, .int .i64 0, .int .i64 0, .int .i64 0, .int .i64 0, .int .i64 0, .sl .nil (ckL [.int .i64 0]) 1 0 (zeroC [.int .i64 0]), .int .i64 0, .int .i64 0, .sl .nil (ckL [.int .i64 0, .int .i64 0, .int .i64 0, .int .i64 0]) 4 0 (zeroC [.int .i64 0, .int .i64 0, .int .i64 0, .int .i64 0]), .int .i64 0, .sl .nil (ckL [.int .i64 0]) 1 0 (zeroC [.int .i64 0]), .sl .nil (ckL [.int .i64 0]) 1 0 (zeroC [.int .i64 0]), .sl .nil (ckL [.int .i64 0]) 1 0 (zeroC [.int .i64 0]), .int .i64 0]⟩),
  (100, ⟨.int .u32, 1, 4, [.int .u32 0]⟩),
  (104, ⟨.ptr 5, 1, 8, [.nilp]⟩)]
end Go.Proofs.Ytfaefhegfcidpaa
