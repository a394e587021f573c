import Derived.Test.YtlphgonhenegoaaSxOpen
import Derived.Test.YtlphgonhenegoaaSxLoop
namespace Go.Sx
def toN : SV → Nat
  | .sl _ _ _ n _ => n
  | _ => 0
def toC : SV → Nat → Nat → SV
  | .sl _ _ _ _ c => c
  | _ => fun _ _ => .undef
def ckAll (c : CK) (f : Nat → SV) : Nat → Bool
  | 0 => true
  | n + 1 => ckOk (ckAt c n) (f n) && ckAll c f n
theorem ckAll_at {c : CK} {f : Nat → SV} {n j : Nat} (h : ckAll c f n = true) (hj : j < n) : ckOk (ckAt c j) (f j) = true := by
  induction n with
  | zero => omega
  | succ n ih =>
    simp only [ckAll, Bool.and_eq_true] at h
    by_cases e : j = n
    · subst e; exact h.1
    · exact ih h.2 (by omega)
structure Arr (α : Type) where
  n : Nat
  f : Nat → α
structure Cod (α : Type) where
  sg : CK
  size : Nat
  enc : α → List SV
  dec : (Nat → SV) → α
structure Cod.Ok {α : Type} (C : Cod α) : Prop where
  slen : ckLen C.sg = C.size
  ck : ∀ a j, j < C.size → ckOk (ckAt C.sg j) (lget (C.enc a) j) = true
  ok : ∀ (f : Nat → SV), (∀ j, j < C.size → ckOk (ckAt C.sg j) (f j) = true) → ∀ Z w j v, j < C.size → DenG Z w (f j) v → DenG Z w (lget (C.enc (C.dec f)) j) v
def Cod.cell {α : Type} (C : Cod α) (f : Nat → α) : Nat → Nat → SV := fun i j => lget (C.enc (f i)) j
def slC {α : Type} (C : Cod α) (a : Arr α) : SV := .sl .any C.sg C.size a.n (C.cell a.f)
def lst {α : Type} (C : Cod α) (n : Nat) (c : Nat → Nat → SV) : Arr α := ⟨n, fun i => C.dec (c i)⟩
def lstC {α : Type} (C : Cod α) (s : SV) : Arr α := lst C (toN s) (toC s)
theorem den_slC {α : Type} {C : Cod α} (hC : C.Ok) {Z : Nat → Prop} {w : World} {s : SV} {v : Value} (hs : ckOk (.sl C.sg) s = true) (hd : DenG Z w s v) : DenG Z w (slC C (lstC C s)) v := by
  cases hd with
  | int k n => simp [ckOk] at hs
  | bool b => simp [ckOk] at hs
  | str s => simp [ckOk] at hs
  | nilp => simp [ckOk] at hs
  | nilm => simp [ckOk] at hs
  | nilf => simp [ckOk] at hs
  | eptr m c ad U h1 h2 h3 => simp [ckOk] at hs
  | slcap fl size c a => simp [ckOk] at hs
  | slnil fl size c =>
    simp only [lstC, lst, toN, slC]
    exact .sl _ _ _ _ _ _ (fun _ _ => Go.undef) (Nat.le_refl _) (fun i j hi => by omega) (fun h => by omega) (fun ad ha i j hi => by omega) (fun i j hi => by omega)
  | sl fl size n c a cap U hcap hfl hz hc hd =>
    simp only [ckOk, Bool.and_eq_true, beq_iff_eq] at hs
    obtain ⟨hs1, hs2⟩ := hs
    have e := ckEq_eq hs1
    subst e
    rw [hC.slen] at hs2
    subst hs2
    refine .sl _ _ _ _ _ _ U hcap (fun i j hi hj => hC.ck _ j hj) hz hc (fun i j hi hj => ?_)
    exact hC.ok (c i) (fun j hj => hfl i j hi hj) Z w j _ hj (hd i j hi hj)
theorem den_int {Z : Nat → Prop} {w : World} {k : IntKind} {s : SV} {v : Value} (hs : ckOk (.int k) s = true) (hd : DenG Z w s v) : DenG Z w (.int k (toI s)) v := by
  cases hd <;> simp [ckOk] at hs
  subst hs
  exact .int _ _
theorem den_bool {Z : Nat → Prop} {w : World} {s : SV} {v : Value} (hs : ckOk .bool s = true) (hd : DenG Z w s v) : DenG Z w (.bool (toB s)) v := by
  cases hd <;> simp [ckOk] at hs
  exact .bool _
structure Cod.Flat {α : Type} (C : Cod α) : Prop where
  rt : ∀ (f : Nat → SV) (vc : List SV), keyCells C.sg vc = true → (∀ j s, vc[j]? = some s → f j = s) → C.enc (C.dec f) = vc
structure Mp (κ ν : Type) where
  has : κ → Bool
  get : κ → ν
def intC : Cod Int := ⟨.cons (.int .i64) .nil, 1, fun n => [.int .i64 n], fun f => toI (f 0)⟩
theorem intC_ok : intC.Ok where
  slen := rfl
  ck := fun a j hj => by have : j = 0 := by simp [intC] at hj; omega
                         subst this; rfl
  ok := fun f hf Z w j v hj hd => by
    have : j = 0 := by simp [intC] at hj; omega
    subst this
    exact den_int (hf 0 (by simp [intC])) hd
theorem den_agg {α : Type} {C : Cod α} (hC : C.Ok) (hlen : ∀ a, (C.enc a).length = C.size) {c : Cx} {cs : List SV} {v : Value} (hl : cs.length = C.size) (hck : ckAll C.sg (lget cs) C.size = true) (hg : cs.all groundOk = true) (hd : Den c (.agg cs) v) :
    Den c (.agg (C.enc (C.dec (lget cs)))) v := by
  obtain ⟨vs, rfl, hvl, hds⟩ := hd.agg_inv
  refine .agg _ _ (by rw [hlen, ← hl, hvl]) fun i s v hs hv => ?_
  have hi : i < C.size := by have := (List.getElem?_eq_some_iff.1 hs).1; rwa [hlen] at this
  have hcs : cs[i]? = some (lget cs i) := by simp [lget, List.getElem?_eq_getElem (show i < cs.length by omega)]
  have h1 := hds i _ v hcs hv
  have h2 := h1.ground (List.all_eq_true.1 hg _ (List.mem_of_getElem? hcs))
  have h3 := hC.ok (lget cs) (fun j hj => ckAll_at hck hj) _ _ i v hi h2
  have : lget (C.enc (C.dec (lget cs))) i = s := by simp [lget, hs]
  rw [this] at h3
  exact .g _ _ h3
theorem den_eptr {α : Type} {C : Cod α} (hC : C.Ok) {c : Cx} {f : Nat → SV} {v : Value} (hck : ckAll C.sg f C.size = true) (hd : Den c (.eptr C.size f) v) :
    Den c (.eptr C.size (lget (C.enc (C.dec f)))) v := by
  cases hd with
  | g _ _ hd =>
    cases hd with
    | eptr m c ad U hz hc hd =>
      exact .g _ _ (.eptr _ _ _ U hz hc fun j hj => hC.ok f (fun j hj => ckAll_at hck hj) _ _ j _ hj (hd j hj))
def boolC : Cod Bool := ⟨.cons .bool .nil, 1, fun b => [.bool b], fun f => toB (f 0)⟩
theorem boolC_ok : boolC.Ok where
  slen := rfl
  ck := fun a j hj => by have : j = 0 := by simp [boolC] at hj; omega
                         subst this; rfl
  ok := fun f hf Z w j v hj hd => by
    have : j = 0 := by simp [boolC] at hj; omega
    subst this
    exact den_bool (hf 0 (by simp [boolC])) hd
end Go.Sx
