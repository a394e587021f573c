import Derived.Test.YtlphgonhenegoaaSxMat
namespace Go.Sx
section
variable {P : Program} {Θ : Tys} {R : Type} {sv : Nat → SV} {en : Nat → Option Ent} {nx : Nat} {r : R} {kf : Delta → Option R} {o : Oper}
theorem planB_ok (hty : tyOk P Θ = true) (h : planB Θ o sv en nx kf = some r) : ∃ δ, kf δ = some r ∧ Local P o sv en nx δ := by
  unfold planB at h
  cases hxo : xOf o sv with
  | some x =>
    rw [hxo] at h
    exact planX_ok hty hxo h
  | none =>
  rw [hxo] at h
  simp only at h
  by_cases hy : mxOp Θ o sv en = true
  · rw [hy, cond_true] at h
    exact planY_ok hty h
  rw [Bool.not_eq_true] at hy
  rw [hy, cond_false] at h
  by_cases hs : strOp Θ o = true
  · rw [hs, cond_true] at h
    exact planS_ok hty hs h
  rw [Bool.not_eq_true] at hs
  rw [hs, cond_false] at h
  by_cases hfo : famOp Θ o = true
  · rw [hfo, cond_true] at h
    exact planF_ok hty h
  rw [Bool.not_eq_true] at hfo
  rw [hfo, cond_false] at h
  by_cases hm : mapOp o = true
  · rw [hm, cond_true] at h
    exact planM_ok hty h
  rw [Bool.not_eq_true] at hm
  rw [hm, cond_false] at h
  cases hb : arrOp Θ o <;> rw [hb] at h <;> simp only [cond_true, cond_false] at h
  · exact plan_ok hty h
  · cases hop : o.op with
    | build t ps => exact ls_buildA hty hop h
    | index t x y => exact ls_indexA hty hop h
    | indexAddr t x y => exact ls_indexAddrA hty hop h
    | slice t x lo hi mx => exact ls_sliceA hty hop h
    | _ => simp only [planA, hop, reduceCtorEq] at h
theorem planZ_ok (hty : tyOk P Θ = true) (F : List Nat) : ∀ (sv : Nat → SV) (en : Nat → Option Ent) (kf : Delta → Option R), planZ Θ o nx F sv en kf = some r → ∃ δ, kf δ = some r ∧ Local P o sv en nx δ := by
  induction F with
  | nil => intro sv en kf h; exact planB_ok hty h
  | cons q F ih =>
    intro sv en kf h
    simp only [planZ] at h
    split at h
    · rename_i nl fl size n cl hq
      obtain ⟨δ, h1, ⟨hid, hst⟩⟩ := ih _ _ _ h
      refine ⟨_, h1, ⟨fun id hi => ?_, hid.le⟩, fun c a p => ?_⟩
      · simp only [List.map_cons, List.mem_cons] at hi ⊢
        rcases hi with rfl | hi
        · exact .inl (.inl rfl)
        · rcases hid.keys id hi with h2 | h2
          · exact .inl (.inr h2)
          · exact .inr h2
      · have he : c.en q = some (.row nl fl size n cl) := (p.rd q (by simp)).trans hq
        obtain ⟨g1, g2⟩ := drop_ok p.ho q
        have hp : Pre o (fun s => frzV q (.sl .any fl size n cl) (sv s)) (fun id => bif id == q then Option.none else en id) nx δ (c.drop q) a :=
          { ho := g1
            sl := fun s hs => den_frzV p.ho he (p.sl s hs)
            rd := fun id hi => by
              simp only [Cx.drop]
              by_cases hb : id = q
              · subst hb; simp
              · have hb' : (id == q) = false := by simp [hb]
                rw [if_neg hb, hb', cond_false]
                exact p.rd id (by simp [hi])
            fresh := fun id hi hn => p.fresh id (by simp only [List.map_cons, List.mem_cons]; exact .inr hi) hn }
        intro Kt Q hK
        refine hst (c.drop q) a hp Kt Q fun v c' k1 k2 k3 k4 k5 => hK v c' k1 k2 (fun id => ?_) (fun id => ?_) (g2.trans k5)
        · rw [k3]; rfl
        · rw [k4]
          simp only [List.map_cons, List.mem_cons]
          constructor
          · rintro (h3 | h3)
            · exact .inl h3
            · exact .inr (.inr h3)
          · rintro (h3 | rfl | h3)
            · exact .inl h3
            · exact .inl (p.ho.lt _ _ he)
            · exact .inr h3
    · exact ih _ _ _ h
end
end Go.Sx
