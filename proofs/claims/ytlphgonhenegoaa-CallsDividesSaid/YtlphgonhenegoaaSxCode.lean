import Derived.Test.YtlphgonhenegoaaSxNorm
import Derived.LoopN
namespace Go.Sx
variable {dfs : List Deferred}
def CodeSem (P : Program) (base : Nat) (code : Code) (S : St) (e : Exit) (S' : St) : Prop :=
  ∀ {dfs : List Deferred} (c0 c : Cx) (a : Act) (Q : Exit → Act → World → Prop), (∀ id, c0.K id → id < base) → Rel dfs c S a → Trans c0 c → (∀ c' a', Rel dfs c' S' a' → Trans c0 c' → Q e a' c'.w) → wpA P code Q a c.w
def LpOk (P : Program) {R : Type} (base : Nat) (lp : Lp R) : Prop :=
  ∀ body S k r, codeOk body = true → lp body S k = some r → ∃ e S', k e S' = some r ∧ CodeSem P base (.loop body) S e S'
section
variable {P : Program} {Θ : Tys} {R : Type} {cal : Cal R} {r : R}
theorem refine_eq {S : St} {x : Operand} {b : Bool} (hb : ev Θ 0 (lget S.tmps) x = .bool b) : refine S x b = S := by
  cases x with
  | tmp t =>
    simp only [ev] at hb
    simp only [refine]
    rw [lset_same hb (by simp)]
  | _ => rfl
theorem rowsT_ok {t : Tab} {nx : Nat} {kf : Tab → Nat → Option R} (h : rowsT t nx kf = some r) : ∃ t' nx', kf t' nx' = some r ∧ ∀ c, Tok c t nx → ∃ c', Turn c nx c' t' nx' := by
  unfold rowsT at h
  cases hn : hasNil t <;> rw [hn] at h <;> simp only [cond_true, cond_false] at h
  · exact ⟨_, _, h, fun c hc => ⟨c, hc, .refl, rfl, Nat.le_refl _⟩⟩
  · exact rowifyT_ok _ _ _ _ h
theorem code_ok (hty : tyOk P Θ = true) (hm : P.follows .mixedOrders = true) (hcal : CalOk P cal) {base : Nat} {lp : Lp R} (hlp : LpOk P base lp) : ∀ (code : Code) (S : St) (k : Exit → St → Option R), codeOk code = true → codeK Θ cal lp code S k = some r →
    ∃ e S', k e S' = some r ∧ CodeSem P base code S e S' := by
  intro code
  induction code with
  | skip =>
    intro S k _ h
    exact ⟨_, _, h, fun c0 c a Q _ hr ht hq => wpA_skip (hq c a hr ht)⟩
  | region id ops draw =>
    intro S0 k hok h
    simp only [codeK] at h
    obtain ⟨t', nx', h, pT⟩ := rowsT_ok h
    have base0 : ∀ {dfs : List Deferred} (c : Cx) (a : Act), Rel dfs c S0 a → ∃ c', Rel dfs c' ⟨S0.tmps, t', nx'⟩ a ∧ Trans c c' ∧ c'.w = c.w := fun c a hr => by
      obtain ⟨c1, g⟩ := pT c ⟨hr.ho, hr.en, hr.K⟩
      exact ⟨c1, ⟨g.ok.ho, g.ok.en, g.ok.K, hr.defers, hr.len, fun s => (hr.sl s).trans g.tr hr.ho⟩, g.tr, g.w⟩
    generalize ({ tmps := S0.tmps, tab := t', nx := nx' } : St) = S at h base0
    obtain ⟨l, S', h1, h2, h3⟩ := ops_trace hty hcal ops.toList ops.toList S [] _ h
    simp only [List.append_nil, List.reverse_reverse] at h3
    cases draw with
    | false =>
      simp only [cond_false] at h3
      refine ⟨_, _, h3, fun c0 c0' a Q _ hr0 ht0 hq => ?_⟩
      obtain ⟨c, hr, ht1, hw⟩ := base0 c0' a hr0
      have ht := ht0.trans ht1
      rw [← hw]
      refine wpA_region_list ?_
      have := trace_list (P := P) (Q := Q) l S c a h2 hr (fun c' a' hr' ht' => hq c' a' hr' (ht.trans ht'))
      rw [h1] at this
      simpa using this
    | true =>
      simp only [cond_true] at h3
      cases hi : indep ops.toList (infosOf l S) <;> rw [hi] at h3 <;> simp only [cond_true, cond_false, reduceCtorEq] at h3
      refine ⟨_, _, h3, fun c0 c0' a Q _ hr0 ht0 hq => ?_⟩
      obtain ⟨c, hr, ht1, hw⟩ := base0 c0' a hr0
      have ht := ht0.trans ht1
      rw [← hw]
      have hset : Setup P ops.toList l S S' := ⟨h1, h2, by simpa [codeOk] using hok, hi⟩
      have := region_any hm hset hr (Q := Q) (id := id) (fun c' a' hr' ht' => hq c' a' hr' (ht.trans ht'))
      simpa using this
  | seq x y ihx ihy =>
    intro S k hok h
    simp only [codeOk, Bool.and_eq_true] at hok
    simp only [codeK] at h
    obtain ⟨e, S1, h1, p1⟩ := ihx S _ hok.1 h
    cases e with
    | normal =>
      obtain ⟨e2, S2, h2, p2⟩ := ihy S1 k hok.2 h1
      exact ⟨e2, S2, h2, fun c0 c a Q hK hr ht hq => wpA_seq (p1 c0 c a _ hK hr ht fun c' a' hr' ht' => p2 c0 c' a' Q hK hr' ht' hq)⟩
    | exit j => exact ⟨_, S1, h1, fun c0 c a Q hK hr ht hq => wpA_seq (p1 c0 c a _ hK hr ht fun c' a' hr' ht' => hq c' a' hr' ht')⟩
    | goto j => exact ⟨_, S1, h1, fun c0 c a Q hK hr ht hq => wpA_seq (p1 c0 c a _ hK hr ht fun c' a' hr' ht' => hq c' a' hr' ht')⟩
    | ret => exact ⟨_, S1, h1, fun c0 c a Q hK hr ht hq => wpA_seq (p1 c0 c a _ hK hr ht fun c' a' hr' ht' => hq c' a' hr' ht')⟩
    | panic ch => exact ⟨_, S1, h1, fun c0 c a Q hK hr ht hq => wpA_seq (p1 c0 c a _ hK hr ht fun c' a' hr' ht' => hq c' a' hr' ht')⟩
    | outgrown => exact ⟨_, S1, h1, fun c0 c a Q hK hr ht hq => wpA_seq (p1 c0 c a _ hK hr ht fun c' a' hr' ht' => hq c' a' hr' ht')⟩
  | cond x y z ihy ihz =>
    intro S k hok h
    simp only [codeOk, Bool.and_eq_true] at hok
    simp only [codeK] at h
    cases hb : ev Θ 0 (lget S.tmps) x <;> rw [hb] at h <;> simp only [reduceCtorEq] at h
    rename_i b
    have hev : ∀ {dfs : List Deferred} (c : Cx) (a : Act), Rel dfs c S a → a.eval x = .bool b := fun c a hr => by
      have := ev_den (Θ := Θ) (t := 0) (c := c) (a := a) (sv := lget S.tmps) x hr.ho.gls fun s _ => hr.sl s
      rw [hb] at this
      exact this.bool_inv
    cases b with
    | true =>
      simp only [cond_true] at h
      rw [refine_eq hb] at h
      obtain ⟨e, S1, h1, p1⟩ := ihy S k hok.1 h
      exact ⟨e, S1, h1, fun c0 c a Q hK hr ht hq => wpA_cond (t := true) (hev c a hr) (p1 c0 c a Q hK hr ht hq)⟩
    | false =>
      simp only [cond_false] at h
      rw [refine_eq hb] at h
      obtain ⟨e, S1, h1, p1⟩ := ihz S k hok.2 h
      exact ⟨e, S1, h1, fun c0 c a Q hK hr ht hq => wpA_cond (t := false) (hev c a hr) (p1 c0 c a Q hK hr ht hq)⟩
  | block id x ih =>
    intro S k hok h
    simp only [codeK] at h
    obtain ⟨e, S1, h1, p1⟩ := ih S _ hok h
    cases e with
    | exit j =>
      simp only at h1
      cases hj : j == id <;> rw [hj] at h1 <;> simp only [cond_true, cond_false] at h1
      · have hj : ¬ j = id := by simpa using hj
        exact ⟨_, S1, h1, fun c0 c a Q hK hr ht hq => wpA_block (p1 c0 c a _ hK hr ht fun c' a' hr' ht' => by simp only [Exit.inBlock, if_neg hj]; exact hq c' a' hr' ht')⟩
      · have hj : j = id := by simpa using hj
        exact ⟨_, S1, h1, fun c0 c a Q hK hr ht hq => wpA_block (p1 c0 c a _ hK hr ht fun c' a' hr' ht' => by simp only [Exit.inBlock, if_pos hj]; exact hq c' a' hr' ht')⟩
    | normal => exact ⟨_, S1, h1, fun c0 c a Q hK hr ht hq => wpA_block (p1 c0 c a _ hK hr ht fun c' a' hr' ht' => hq c' a' hr' ht')⟩
    | goto j => exact ⟨_, S1, h1, fun c0 c a Q hK hr ht hq => wpA_block (p1 c0 c a _ hK hr ht fun c' a' hr' ht' => hq c' a' hr' ht')⟩
    | ret => exact ⟨_, S1, h1, fun c0 c a Q hK hr ht hq => wpA_block (p1 c0 c a _ hK hr ht fun c' a' hr' ht' => hq c' a' hr' ht')⟩
    | panic ch => exact ⟨_, S1, h1, fun c0 c a Q hK hr ht hq => wpA_block (p1 c0 c a _ hK hr ht fun c' a' hr' ht' => hq c' a' hr' ht')⟩
    | outgrown => exact ⟨_, S1, h1, fun c0 c a Q hK hr ht hq => wpA_block (p1 c0 c a _ hK hr ht fun c' a' hr' ht' => hq c' a' hr' ht')⟩
  | loop x ih =>
    intro S k hok h
    exact hlp x S k r hok h
  | exit id =>
    intro S k _ h
    exact ⟨_, _, h, fun c0 c a Q _ hr ht hq => wpA_exit (hq c a hr ht)⟩
  | label l =>
    intro S k _ h
    exact ⟨_, _, h, fun c0 c a Q _ hr ht hq => wpA_label (hq c a hr ht)⟩
  | ret =>
    intro S k _ h
    exact ⟨_, _, h, fun c0 c a Q _ hr ht hq => wpA_ret (hq c a hr ht)⟩
  | goto l => intro S k _ h; simp [codeK] at h
  | scope x ih => intro S k _ h; simp [codeK] at h
  | rangeFunc f ps x y ih1 ih2 => intro S k _ h; simp [codeK] at h
  | refuse why => intro S k _ h; simp [codeK] at h
def RoundSem (P : Program) (base n : Nat) (body : Code) (S : St) (e : Exit) (S' : St) : Prop :=
  ∀ {dfs : List Deferred} (c0 c : Cx) (a : Act) (Q : Exit → Act → World → Prop), (∀ id, c0.K id → id < base) → Rel dfs c S a → Trans c0 c → (∀ c' a', Rel dfs c' S' a' → Trans c0 c' → Q e a' c'.w) → roundsA P body Q n a c.w
theorem resOf_ok (hty : tyOk P Θ = true) {S : St} {x : ResultVar} {k : SV → Option R} (h : resOf Θ S x k = some r) :
    ∃ s, k s = some r ∧ ∀ {dfs : List Deferred} (c : Cx) (a : Act), Rel dfs c S a → ∃ v, (match x with | .tmp t => (Pure.pure (a.tmps.getD t Go.undef) : Sem Value) | .cell ad t => do loadVar t (← asAddr (a.tmps.getD ad Go.undef))).run P c.w = .ok v c.w ∧ Den c s v := by
  cases x with
  | tmp t => exact ⟨_, h, fun c a hr => ⟨_, rfl, hr.sl t⟩⟩
  | cell ad t =>
    simp only [resOf] at h
    cases hti : Θ.get t with
    | none => rw [hti] at h; cases h
    | some ti =>
      rw [hti] at h
      cases hv : lget S.tmps ad <;> rw [hv] at h <;> simp only [reduceCtorEq] at h
      case ptr g off =>
        cases hg : tget S.tab g with
        | none => rw [hg] at h; cases h
        | some e =>
          rw [hg] at h
          cases e with
          | row => cases h
          | mp => cases h
          | fm => cases h
          | fx => cases h
          | lp => cases h
          | mx => cases h
          | blk cs =>
            simp only at h
            cases hagg : isAgg ti.d <;> rw [hagg] at h <;> simp only [cond_true, cond_false] at h
            · cases hb : Nat.blt off cs.length <;> rw [hb] at h <;> simp only [cond_true, cond_false, reduceCtorEq] at h
              refine ⟨_, h, fun c a hr => ?_⟩
              have he : c.en g = some (.blk cs) := (hr.en g).trans hg
              have hd := hr.sl ad
              rw [hv] at hd
              obtain ⟨v, h1, h2⟩ := (load_blk hty hti (off := off) hr.ho he).2 hagg (by simpa [Nat.blt_eq] using hb)
              exact ⟨v, by simp [hd.ptr_inv he, asAddr, h1], h2⟩
            · cases hb : Nat.ble (off + ti.size) cs.length <;> rw [hb] at h <;> simp only [cond_true, cond_false, reduceCtorEq] at h
              refine ⟨_, h, fun c a hr => ?_⟩
              have he : c.en g = some (.blk cs) := (hr.en g).trans hg
              have hd := hr.sl ad
              rw [hv] at hd
              obtain ⟨v, h1, h2⟩ := (load_blk hty hti (off := off) hr.ho he).1 hagg (by simpa using hb)
              exact ⟨v, by simp [hd.ptr_inv he, asAddr, h1], h2⟩
def resRun (a : Act) : ResultVar → Sem Value
  | .tmp t => Pure.pure (a.tmps.getD t Go.undef)
  | .cell ad t => do loadVar t (← asAddr (a.tmps.getD ad Go.undef))
theorem resL_ok (hty : tyOk P Θ = true) {S : St} : ∀ (xs : List ResultVar) (k : List SV → Option R), resL Θ S xs k = some r →
    ∃ ss, k ss = some r ∧ ∀ {dfs : List Deferred} (c : Cx) (a : Act), Rel dfs c S a → ∃ vs : List Value, (xs.mapM (resRun a)).run P c.w = .ok vs c.w ∧ DenL c ss vs ∧ vs.length = xs.length := by
  intro xs
  induction xs with
  | nil => intro k h; exact ⟨[], h, fun c a hr => ⟨[], by simp, ⟨rfl, fun i s v hs => by simp at hs⟩, rfl⟩⟩
  | cons x xs ih =>
    intro k h
    simp only [resL] at h
    obtain ⟨s, h1, p1⟩ := resOf_ok hty h
    obtain ⟨ss, h2, p2⟩ := ih _ h1
    refine ⟨_, h2, fun c a hr => ?_⟩
    obtain ⟨v, r1, d1⟩ := p1 c a hr
    obtain ⟨vs, r2, d2, l2⟩ := p2 c a hr
    have r1' : (resRun a x).run P c.w = .ok v c.w := by cases x <;> exact r1
    refine ⟨v :: vs, by simp [r1', r2], ⟨by simp [d2.1], fun i s' v' hs hv => ?_⟩, by simp [l2]⟩
    cases i with
    | zero => simp at hs hv; subst hs hv; exact d1
    | succ i => exact d2.2 i s' v' (by simpa using hs) (by simpa using hv)
def tupV : List Value → Value
  | [v] => v
  | vs => .tuple vs.toArray
theorem results_run {fn : Func} {a : Act} {w : World} {vs : List Value} (h : (fn.results.toList.mapM (resRun a)).run P w = .ok vs w) :
    (results fn a.tmps).run P w = .ok (tupV vs) w := by
  have e2 : results fn a.tmps = (fn.results.mapM (resRun a) >>= fun vs => Pure.pure (if h : vs.size = 1 then vs[0] else .tuple vs)) := by
    unfold results
    congr 1
  have hm : (fn.results.mapM (resRun a)).run P w = .ok vs.toArray w := by
    generalize fn.results = rs at h
    obtain ⟨l⟩ := rs
    rw [List.mapM_toArray, Sem.run_map, h]
    rfl
  rw [e2, Sem.run_bind, hm]
  simp only [Result.andThen_ok, Sem.run_pure]
  match vs with
  | [] => rfl
  | [v] => rfl
  | v :: u :: vs => simp [tupV]
theorem rowifyR_ok {rw : Bool} {s : SV} {t : Tab} {nx : Nat} {kf : SV → Tab → Nat → Option R} (h : rowifyR rw s t nx kf = some r) :
    ∃ s' t' nx', kf s' t' nx' = some r ∧ ∀ c v, Tok c t nx → Den c s v → ∃ c', Grow c t nx c' t' nx' ∧ Den c' s' v := by
  cases rw with
  | true => exact rowifyV_ok h
  | false => exact ⟨s, t, nx, h, fun c v hc hd => ⟨c, Grow.refl hc, hd⟩⟩
theorem fin_ok (hty : tyOk P Θ = true) {rw : Bool × List Nat} {S : St} {base : Nat} {fn : Func} {k : SV × Tab → Option R} (h : finK rw Θ base fn.results.toList S k = some r) :
    ∃ res T', k (res, T') = some r ∧ ∀ {dfs : List Deferred} (c0 c : Cx) (a : Act), (∀ id, c0.K id → id < base) → Rel dfs c S a → Trans c0 c →
      ∃ v c', (results fn a.tmps).run P c.w = .ok v c.w ∧ c'.w = c.w ∧ (∀ id, c'.en id = tget T' id) ∧ HeapOk c' ∧ Den c' res v ∧ Trans c0 c' := by
  unfold finK at h
  obtain ⟨ss, h1, p1⟩ := resL_ok hty _ _ h
  simp only at h1
  obtain ⟨s2, t2, n2, h2, p2⟩ := rowifyR_ok h1
  obtain ⟨t3, n3, h3, p3⟩ := rowifyT_ok _ _ _ _ h2
  obtain ⟨l4, t4, n4, h4, p4⟩ := canon_ok h3
  match l4, h4, p4 with
  | [], h4, _ => cases h4
  | _ :: _ :: _, h4, _ => cases h4
  | [res], h4, p4 =>
    refine ⟨res, t4, h4, fun c0 c a hK hr ht => ?_⟩
    obtain ⟨vs, r1, d1, l1⟩ := p1 c a hr
    have hd : Den c (tupS ss) (tupV vs) := by
      obtain ⟨dl, dd⟩ := d1
      match ss, vs, dl with
      | [], [], _ => exact .tup _ _ rfl dd
      | [s], [v], _ => exact dd 0 s v rfl rfl
      | s :: s' :: ss, v :: v' :: vs, dl => exact .tup _ _ dl dd
    obtain ⟨c2, g2, d2⟩ := p2 c _ ⟨hr.ho, hr.en, hr.K⟩ hd
    obtain ⟨c3, g3⟩ := p3 c2 g2.ok
    obtain ⟨c4, k1, k2, k3, k4⟩ := p4 c0 c3 [_] n3 hK g3.ok (ht.trans (g2.tr.trans g3.tr)) ⟨rfl, fun i s v hs hv => by
      cases i with
      | zero => simp at hs hv; subst hs hv; exact d2.trans g3.tr g2.ok.ho
      | succ i => simp at hs⟩
    exact ⟨_, c4, results_run r1, k3.trans (g3.w.trans g2.w), k1.en, k1.ho, k4.2 0 _ _ rfl rfl, k2⟩
structure EnvOk (E : Env) : Prop where
  ty : tyOk E.P E.Θ = true
  mixed : E.P.follows .mixedOrders = true
  codes : ∀ fn ∈ E.P.funcs.toList, ∀ c, fn.body = some c → codeOk c = true
  names : ∀ fn ∈ E.P.funcs.toList, (fn.name == "runtime.NumGoroutine") = false
theorem fn_end {E : Env} (hE : EnvOk E) {f : FuncId} {fn : Func} {body : Code} (hf : E.P.funcs[f]? = some fn) (hb : fn.body = some body) (hlt : f < yK) {args : List SV} {T : Tab} {base : Nat} {kf : SV × Tab → Option R} (hmem : fn ∈ E.P.funcs.toList) {e : Exit} {S' : St}
    (h1 : (match e with
          | .ret => finK (!(E.nr f), E.bs f) E.Θ base fn.results.toList S' kf
          | .normal => finK (!(E.nr f), E.bs f) E.Θ base fn.results.toList S' kf
          | _ => Option.none) = some r)
    (p1 : CodeSem E.P base body ⟨args ++ List.replicate (fn.ntmps - args.length) .undef, T, base⟩ e S') : ∃ res T', FnOk E.P f args T base res T' ∧ kf (res, T') = some r := by
  have key : ∀ (hfin : finK (!(E.nr f), E.bs f) E.Θ base fn.results.toList S' kf = some r) (he : e = .ret ∨ e = .normal), ∃ res T', FnOk E.P f args T base res T' ∧ kf (res, T') = some r := by
    intro hfin he
    obtain ⟨res, T', h2, p2⟩ := fin_ok (P := E.P) hE.ty hfin
    refine ⟨res, T', ⟨⟨hlt, fn, hf, by rw [hb]; rfl, hE.names fn hmem⟩, fun c vs hen hK ho hd => ?_⟩, h2⟩
    refine calls_of_wp hf hb (wpA_wp ?_)
    refine p1 c c _ _ (fun id hid => (hK id).1 hid) ⟨ho, hen, fun id hid => (hK id).1 hid, rfl, ?_, fun s => ?_⟩ .refl ?_
    · have := hd.1
      simp [this]
    · rcases Nat.lt_or_ge s args.length with hlt | hge
      · have e1 : lget (args ++ List.replicate (fn.ntmps - args.length) .undef) s = lget args s := by simp [lget, List.getElem?_append_left hlt]
        have hlt2 : s < vs.length := by rw [← hd.1]; exact hlt
        have e2 : ((vs.toArray ++ Array.replicate (fn.ntmps - vs.toArray.size) Go.undef) : Array Value).getD s Go.undef = vs[s] := by
          rw [Array.getD_eq_getD_getElem?, Array.getElem?_append_left (by simpa using hlt2)]
          simp [hlt2]
        show Den c (lget (args ++ List.replicate (fn.ntmps - args.length) .undef) s) _
        rw [e1, e2]
        exact hd.2 s _ _ (lget_lt hlt) (List.getElem?_eq_getElem hlt2)
      · have e1 : lget (args ++ List.replicate (fn.ntmps - args.length) .undef) s = .undef := by
          simp only [lget, List.getD_eq_getElem?_getD, List.getElem?_append_right hge]
          by_cases hlt : s - args.length < fn.ntmps - args.length <;> simp [hlt]
        show Den c (lget (args ++ List.replicate (fn.ntmps - args.length) .undef) s) _
        rw [e1]
        exact .und _
    · intro c' a' hr' ht'
      obtain ⟨v, c2, q1, q2, q3, q4, q5, q6⟩ := p2 c c' a' (fun id hid => (hK id).1 hid) hr' ht'
      have : bodyPost E.P fn (fun e w' => ∃ v c', e = .returned v ∧ c'.w = w' ∧ (∀ id, c'.en id = tget T' id) ∧ HeapOk c' ∧ Den c' res v ∧ Trans c c') .ret a' c'.w :=
        ⟨hr'.defers, v, q1, v, c2, rfl, q2, q3, q4, q5, q6⟩
      rcases he with rfl | rfl
      · exact this
      · exact this
  cases e <;> simp only [reduceCtorEq] at h1
  · exact key h1 (.inr rfl)
  · exact key h1 (.inl rfl)
end
end Go.Sx
