import Derived.Test.YtlphgonhenegoaaSxRel
import Derived.Laws.Entries
namespace Go.Sx
def zeroEq : SV → Value → Bool
  | .int k n, .int k' m => decide (k = k') && decide (n = 0) && decide (m = 0)
  | .bool a, .bool b => !a && !b
  | .str s, .string s' => s.size == 0 && s'.size == 0
  | .nilp, .pointer Option.none => true
  | .nilm, .map Option.none => true
  | .nilf, .nilFunc => true
  | .sl .nil _ _ 0 _, .slice Option.none 0 0 => true
  | _, _ => false
def zerosEq : List SV → List Value → Bool
  | [], [] => true
  | s :: ss, v :: vs => zeroEq s v && zerosEq ss vs
  | _, _ => false
def descEq : TD → TypeDesc → Bool
  | .int k, .int k' => decide (k = k')
  | .bool, .bool => true
  | .str, .string => true
  | .ptr e, .pointer e' => e == e'
  | .slice e, .slice e' => e == e'
  | .struct fs, .struct fields => fields.toList.map (fun f => (f.offset, f.type)) == fs
  | .arr n e, .array n' e' => n == n' && e == e'
  | .map k e, .map k' e' => k == k' && e == e'
  | .func, .func _ _ _ => true
  | _, _ => false
def fieldsPlain : TypeDesc → Bool
  | .struct fields => fields.toList.all fun f => f.name != "_"
  | _ => true
def rowTyOk (P : Program) (t : TypeId) (ti : TI) : Bool :=
  (ti.zero.length == ti.size) &&
  ((match P.info? t with
  | some i => i.size == ti.size && i.bytes == ti.bytes && Nat.ble i.bytes 65536 && Nat.ble i.size 65536 && (match i.zero with | some z => zerosEq ti.zero z.cells.toList && (match ti.d, z with | .struct _, .agg _ => true | .arr _ _, .agg _ => true | .struct _, _ => false | .arr _ _, _ => false | _, .agg _ => false | _, _ => true) | Option.none => false)
  | Option.none => false) &&
  (match P.underlying t with
  | some d => descEq ti.d d && fieldsPlain d && (match d with | .struct _ => !(P.stoodInHeld t) && !(P.eqGuardType P.depth t) | .array _ _ => !(P.eqGuardType P.depth t) | _ => true)
  | Option.none => false))
def tyOk (P : Program) (Θ : Tys) : Bool := Θ.all fun i e => rowTyOk P i e
theorem get_all {p : Nat → TI → Bool} {Θ : Tys} (h : Θ.all p = true) {t : TypeId} {ti : TI} (ht : Θ.get t = some ti) : p t ti = true := by
  induction Θ with
  | nil => cases ht
  | node i e l r ihl ihr =>
    simp only [Tys.all, Bool.and_eq_true] at h
    rw [Tys.get_node] at ht
    cases hb : Nat.beq i t with
    | true =>
      rw [hb, cond_true] at ht
      injection ht with ht
      have : i = t := Nat.eq_of_beq_eq_true hb
      subst this ht
      exact h.1
    | false =>
      rw [hb, cond_false] at ht
      cases hl : Nat.blt t i <;> rw [hl] at ht <;> simp only [cond_true, cond_false] at ht
      · exact ihr h.2.2 ht
      · exact ihl h.2.1 ht
theorem get_ok {P : Program} {Θ : Tys} (h : tyOk P Θ = true) {t : TypeId} {ti : TI} (ht : Θ.get t = some ti) : rowTyOk P t ti = true := get_all h ht
theorem zeroEq_den {Z : Nat → Prop} {w : World} {s : SV} {v : Value} (h : zeroEq s v = true) : DenG Z w s v ∧ Sx.one v = true := by
  cases s <;> cases v <;> simp [zeroEq] at h
  case int.int k n k' m =>
    obtain ⟨⟨rfl, rfl⟩, rfl⟩ := h
    exact ⟨.int _ _, rfl⟩
  case bool.bool a b => obtain ⟨rfl, rfl⟩ := h; exact ⟨.bool _, rfl⟩
  case str.string a b =>
    obtain ⟨rfl, rfl⟩ := h
    exact ⟨.str _, rfl⟩
  case nilp.pointer a =>
    cases a with
    | none => exact ⟨.nilp, rfl⟩
    | some a => simp at h
  case nilm.map a =>
    cases a with
    | none => exact ⟨.nilm, rfl⟩
    | some a => simp at h
  case sl.slice k fl size n c a len cap =>
    split at h <;> simp_all
    exact ⟨.slnil _ _ _, rfl⟩
  case nilf.nilFunc => exact ⟨.nilf, rfl⟩
theorem zerosEq_den {Z : Nat → Prop} {w : World} {ss : List SV} {vs : List Value} (h : zerosEq ss vs = true) :
    ss.length = vs.length ∧ ∀ (i : Nat) (s : SV) (v : Value), ss[i]? = some s → vs[i]? = some v → DenG Z w s v ∧ Sx.one v = true := by
  induction ss generalizing vs with
  | nil =>
    cases vs with
    | nil => exact ⟨rfl, fun i s v h => by simp at h⟩
    | cons v vs => simp [zerosEq] at h
  | cons s ss ih =>
    cases vs with
    | nil => simp [zerosEq] at h
    | cons v vs =>
      simp [zerosEq] at h
      obtain ⟨h1, h2⟩ := ih h.2
      refine ⟨by simp [h1], fun i s' v' hs hv => ?_⟩
      cases i with
      | zero =>
        simp at hs hv
        subst hs hv
        exact zeroEq_den h.1
      | succ i => exact h2 i s' v' (by simpa using hs) (by simpa using hv)
structure RowTy (P : Program) (t : TypeId) (ti : TI) : Prop where
  info : ∃ i z, P.info? t = some i ∧ i.size = ti.size ∧ i.bytes = ti.bytes ∧ i.zero = some z ∧ zerosEq ti.zero z.cells.toList = true ∧ ti.bytes ≤ 65536 ∧ ti.size ≤ 65536 ∧ (isAgg ti.d = true → ∃ cs, z = .agg cs) ∧ (isAgg ti.d = false → Sx.one z = true)
  desc : ∃ d, P.underlying t = some d ∧ descEq ti.d d = true ∧ fieldsPlain d = true
  zlen : ti.zero.length = ti.size
  held : ∀ fs, P.underlying t = some (.struct fs) → P.stoodInHeld t = false ∧ P.eqGuardType P.depth t = false
  heldA : ∀ n e, P.underlying t = some (.array n e) → P.eqGuardType P.depth t = false
theorem zerosEq_one {ss : List SV} {z : Value} (h : zerosEq ss z.cells.toList = true) (hz : ∀ cs, z ≠ .agg cs) : Sx.one z = true := by
  have hc : z.cells.toList = [z] := by cases z <;> first | rfl | exact absurd rfl (hz _)
  rw [hc] at h
  cases ss with
  | nil => simp [zerosEq] at h
  | cons s ss =>
    simp [zerosEq] at h
    exact (zeroEq_den (Z := fun _ => False) (w := default) h.1).2
theorem rowTy {P : Program} {Θ : Tys} (h : tyOk P Θ = true) {t : TypeId} {ti : TI} (ht : Θ.get t = some ti) : RowTy P t ti := by
  have h := get_ok h ht
  unfold rowTyOk at h
  rw [Bool.and_eq_true, Bool.and_eq_true] at h
  obtain ⟨h0, h1, h2⟩ := h
  constructor
  · cases hi : P.info? t with
    | none => rw [hi] at h1; simp at h1
    | some i =>
      rw [hi] at h1
      simp only [Bool.and_eq_true] at h1
      obtain ⟨⟨⟨⟨a, b⟩, c⟩, d⟩, e⟩ := h1
      cases hz : i.zero with
      | none => rw [hz] at e; simp at e
      | some z =>
        rw [hz] at e
        simp only [Bool.and_eq_true] at e
        obtain ⟨e1, e2⟩ := e
        simp at a b c d
        refine ⟨i, z, rfl, a, b, hz, e1, by omega, by omega, ?_, ?_⟩
        · intro hagg
          cases hd : ti.d <;> rw [hd] at hagg <;> simp [isAgg] at hagg <;> rw [hd] at e2 <;> cases z <;> simp at e2 <;> exact ⟨_, rfl⟩
        · intro hagg
          refine zerosEq_one e1 fun cs hcs => ?_
          subst hcs
          cases hd : ti.d <;> rw [hd] at hagg <;> simp [isAgg] at hagg <;> rw [hd] at e2 <;> simp at e2
  · cases hd : P.underlying t with
    | none => rw [hd] at h2; simp at h2
    | some d => rw [hd] at h2; simp at h2; exact ⟨d, rfl, h2.1⟩
  · simpa using h0
  · intro fs hfs
    rw [hfs] at h2
    simp at h2
    exact h2.2
  · intro n e hfs
    rw [hfs] at h2
    simp at h2
    exact h2.2
theorem RowTy.int_ {P : Program} {t : TypeId} {k : IntKind} {a b : Nat} {z : List SV} (h : RowTy P t ⟨.int k, a, b, z⟩) : P.underlying t = some (.int k) := by
  obtain ⟨d, hd, he, _⟩ := h.desc
  cases d <;> simp [descEq] at he
  subst he; exact hd
theorem RowTy.bool_ {P : Program} {t : TypeId} {a b : Nat} {z : List SV} (h : RowTy P t ⟨.bool, a, b, z⟩) : P.underlying t = some .bool := by
  obtain ⟨d, hd, he, _⟩ := h.desc
  cases d <;> simp [descEq] at he
  exact hd
theorem RowTy.slice_ {P : Program} {t : TypeId} {e : TypeId} {a b : Nat} {z : List SV} (h : RowTy P t ⟨.slice e, a, b, z⟩) : P.underlying t = some (.slice e) := by
  obtain ⟨d, hd, he, _⟩ := h.desc
  cases d <;> simp [descEq] at he
  subst he; exact hd
theorem RowTy.arr_ {P : Program} {t : TypeId} {n : Nat} {e : TypeId} {a b : Nat} {z : List SV} (h : RowTy P t ⟨.arr n e, a, b, z⟩) : P.underlying t = some (.array n e) := by
  obtain ⟨d, hd, he, _⟩ := h.desc
  cases d <;> simp [descEq] at he
  obtain ⟨rfl, rfl⟩ := he; exact hd
theorem RowTy.str_ {P : Program} {t : TypeId} {a b : Nat} {z : List SV} (h : RowTy P t ⟨.str, a, b, z⟩) : P.underlying t = some .string := by
  obtain ⟨d, hd, he, _⟩ := h.desc
  cases d <;> simp [descEq] at he
  exact hd
theorem RowTy.map_ {P : Program} {t k e : TypeId} {a b : Nat} {z : List SV} (h : RowTy P t ⟨.map k e, a, b, z⟩) : P.underlying t = some (.map k e) := by
  obtain ⟨d, hd, he, _⟩ := h.desc
  cases d <;> simp [descEq] at he
  obtain ⟨rfl, rfl⟩ := he; exact hd
theorem RowTy.struct_ {P : Program} {t : TypeId} {fs : List (Nat × TypeId)} {a b : Nat} {z : List SV} (h : RowTy P t ⟨.struct fs, a, b, z⟩) :
    ∃ fields, P.underlying t = some (.struct fields) ∧ fields.toList.map (fun f => (f.offset, f.type)) = fs ∧ ∀ f ∈ fields.toList, f.name ≠ "_" := by
  obtain ⟨d, hd, he, hp⟩ := h.desc
  cases d <;> simp [descEq] at he
  rename_i fields
  refine ⟨fields, hd, he, fun f hf => ?_⟩
  simp [fieldsPlain] at hp
  have := hp
  obtain ⟨l⟩ := fields
  simp at hf this
  obtain ⟨i, hi, hii⟩ := List.mem_iff_getElem.1 hf
  subst hii
  exact this i hi
theorem RowTy.isAgg_ {P : Program} {t : TypeId} {ti : TI} (h : RowTy P t ti) (w : World) : (Go.isAgg t).run P w = .ok (isAgg ti.d) w := by
  obtain ⟨d, hd, he, _⟩ := h.desc
  unfold Go.isAgg
  simp only [Sem.run_bind, run_underlying hd, Result.andThen_ok]
  cases htd : ti.d <;> rw [htd] at he <;> cases d <;> simp [descEq] at he <;> rfl
theorem RowTy.sizeOf_ {P : Program} {t : TypeId} {ti : TI} (h : RowTy P t ti) (w : World) : (Go.sizeOf t).run P w = .ok ti.size w := by
  obtain ⟨i, z, hi, hs, _⟩ := h.info
  simp [Go.sizeOf, typeInfo, hi, hs]
end Go.Sx
