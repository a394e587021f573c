import Derived.Test.YtlphgonhenegoaaSxStr
import Derived.Test.YtlphgonhenegoaaSxFam
namespace Go.Sx
theorem heap_kept (w : World) (o : Obj) (i : Nat) (h : i < w.heap.size) : (w.alloc o).heap[i]? = w.heap[i]? := by
  show (w.heap.push o)[i]? = _
  rw [Array.getElem?_push, if_neg (Nat.ne_of_lt h)]
theorem rearr_ok {c c' : Cx} {T : Nat → Prop} (M : Nat → Prop) (ho : HeapOk c) (m : Mem c T c'.w) (hT : ∀ k, T k → ∃ d e, M d ∧ c.en d = some e ∧ c.ow d e k) (hK : ∀ id, c.K id → c'.K id)
    (hZ : ∀ k, c.Z k → c'.Z k) (hZ' : ∀ k, c'.Z k → c.Z k ∨ ((∃ d e, M d ∧ c.en d = some e ∧ c.ow d e k) ∧ ∀ j e, M j → c'.en j = some e → ¬ c'.ow j e k))
    (hout : ∀ j, ¬ M j → c'.en j = c.en j ∧ ∀ e, c.en j = some e → c'.b j = c.b j ∧ c'.u j = c.u j ∧ c'.o j = c.o j)
    (hin : ∀ j e', M j → c'.en j = some e' → c'.K j ∧ (Trans c c' → EntOk c' j e') ∧ ((∃ e, c.en j = some e ∧ c'.b j = c.b j ∧ c'.u j = c.u j ∧ shape e' = shape e ∧ (c'.o j).y = (c.o j).y) ∨ ¬ c.K j) ∧
      ∀ k, c'.ow j e' k → c.w.heap.size ≤ k ∨ ∃ d e, M d ∧ c.en d = some e ∧ c.ow d e k)
    (hinM : ∀ j j' e e' k, M j → M j' → c'.en j = some e → c'.en j' = some e' → c'.ow j e k → c'.ow j' e' k → j = j') : HeapOk c' ∧ Trans c c' := by
  have outw : ∀ j e k, ¬ M j → c'.en j = some e → c'.ow j e k → c.en j = some e ∧ c.ow j e k := fun j e k hj he hk => by
    obtain ⟨h1, h2⟩ := hout j hj
    rw [h1] at he
    obtain ⟨hb, _, ho'⟩ := h2 e he
    refine ⟨he, ?_⟩
    rcases hk with ⟨a, b⟩ | ⟨a, b⟩
    · exact .inl ⟨a, by rw [← hb]; exact b⟩
    · exact .inr ⟨a, by rw [← ho']; exact b⟩
  have ht : Trans c c' :=
    { os := m.os, tape := m.tape, output := m.output, size := m.size, kn := hK, zs := hZ
      znew := fun k hk => by
        rcases hZ' k hk with h | ⟨⟨d, e, _, h1, h2⟩, _⟩
        · exact .inl h
        · exact .inr (.inr ⟨d, e, h1, h2⟩)
      keep := fun k hk hn => m.same k hk fun ht => by
        obtain ⟨d, e, _, h1, h2⟩ := hT k ht
        exact hn d e h1 h2
      old := fun id e' he' => by
        by_cases hM : M id
        · exact (hin id e' hM he').2.2.1
        · obtain ⟨h1, h2⟩ := hout id hM
          rw [h1] at he'
          obtain ⟨hb, hu, ho'⟩ := h2 e' he'
          exact .inl ⟨e', he', hb, hu, rfl, by rw [ho']⟩
      loc := fun id e' k he' hk => by
        by_cases hM : M id
        · rcases (hin id e' hM he').2.2.2 k hk with h | ⟨d, e, _, h1, h2⟩
          · exact .inl h
          · exact .inr ⟨d, e, h1, h2⟩
        · obtain ⟨h1, h2⟩ := outw id e' k hM he' hk
          exact .inr ⟨id, e', h1, h2⟩ }
  refine ⟨⟨fun id e he => ?_, fun id e he => ?_, fun id id' e e' k h1 h2 hh1 hh2 => ?_, fun k hk => ?_, fun k hk id e he hh => ?_, ht.gls ho⟩, ht⟩
  · by_cases hM : M id
    · exact (hin id e hM he).1
    · rw [(hout id hM).1] at he
      exact hK id (ho.lt id e he)
  · by_cases hM : M id
    · exact (hin id e hM he).2.1 ht
    · obtain ⟨h1, h2⟩ := hout id hM
      rw [h1] at he
      obtain ⟨hb, hu, ho'⟩ := h2 e he
      refine (ho.ents id e he).trans ht ho hb hu ho' fun k hk => m.same k ((ho.ents id e he).olt hk) fun hTk => ?_
      obtain ⟨d, e1, hd, h3, h4⟩ := hT k hTk
      exact hM (ho.inj id d e e1 k he h3 hk h4 ▸ hd)
  · have mix : ∀ j j' e e', M j → ¬ M j' → c'.en j = some e → c'.en j' = some e' → c'.ow j e k → c'.ow j' e' k → False := fun j j' e e' a1 a2 a3 a4 a5 a6 => by
      obtain ⟨b1, b2⟩ := outw j' e' k a2 a4 a6
      rcases (hin j e a1 a3).2.2.2 k a5 with h | ⟨d, e1, hd, h3, h4⟩
      · have := (ho.ents j' e' b1).olt b2
        omega
      · exact a2 (ho.inj j' d e' e1 k b1 h3 b2 h4 ▸ hd)
    by_cases hM : M id <;> by_cases hM' : M id'
    · exact hinM id id' e e' k hM hM' h1 h2 hh1 hh2
    · exact (mix id id' e e' hM hM' h1 h2 hh1 hh2).elim
    · exact (mix id' id e' e hM' hM h2 h1 hh2 hh1).elim
    · obtain ⟨a1, a2⟩ := outw id e k hM h1 hh1
      obtain ⟨b1, b2⟩ := outw id' e' k hM' h2 hh2
      exact ho.inj id id' e e' k a1 b1 a2 b2
  · rcases hZ' k hk with h | ⟨⟨d, e, _, h1, h2⟩, _⟩
    · exact Nat.lt_of_lt_of_le (ho.zlt k h) m.size
    · exact Nat.lt_of_lt_of_le ((ho.ents d e h1).olt h2) m.size
  · by_cases hM : M id
    · rcases hZ' k hk with h | ⟨_, h⟩
      · rcases (hin id e hM he).2.2.2 k hh with h1 | ⟨d, e1, _, h3, h4⟩
        · have := ho.zlt k h; omega
        · exact ho.zno k h d e1 h3 h4
      · exact h id e hM he hh
    · obtain ⟨a1, a2⟩ := outw id e k hM he hh
      rcases hZ' k hk with h | ⟨⟨d, e1, hd, h3, h4⟩, _⟩
      · exact ho.zno k h id e a1 a2
      · exact hM (ho.inj id d e e1 k a1 h3 a2 h4 ▸ hd)
section
variable {P : Program} {Θ : Tys} {R : Type} {sv : Nat → SV} {en : Nat → Option Ent} {nx : Nat} {r : R} {kf : Delta → Option R} {o : Oper}
theorem planY_ok (hty : tyOk P Θ = true) (h : planY Θ o sv en nx kf = some r) : ∃ δ, kf δ = some r ∧ Local P o sv en nx δ := by
  cases h
end
end Go.Sx
