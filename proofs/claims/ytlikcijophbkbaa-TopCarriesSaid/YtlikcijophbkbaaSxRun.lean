import Derived.Test.YtlikcijophbkbaaSxM
namespace Go.Sx
noncomputable section
section
variable {R : Type}
def fI (n : Int) (k : Int → Option R) : Option R := match n with
  | .ofNat m => fN m fun m' => k (.ofNat m')
  | .negSucc m => fN m fun m' => k (.negSucc m')
theorem fI_eq (n : Int) (k : Int → Option R) : fI n k = k n := by cases n <;> simp only [fI, fN_eq]
def fB (b : Bool) (k : Bool → Option R) : Option R := match b with
  | true => k true
  | false => k false
theorem fB_eq (b : Bool) (k : Bool → Option R) : fB b k = k b := by cases b <;> rfl
def gC0 (s : SV) (k : SV → Option R) : Option R := match s with
  | .int kd n => fI n fun n' => k (.int kd n')
  | .bool b => fB b fun b' => k (.bool b')
  | .sl kd fl size n c => fN size fun size' => fN n fun n' => k (.sl kd fl size' n' c)
  | .xptr g b st n z => fN g fun g' => fN b fun b' => fN st fun st' => fN n fun n' => fI z fun z' => k (.xptr g' b' st' n' z')
  | .wptr r size i off => fN r fun r' => fN size fun size' => fN i fun i' => fN off fun off' => k (.wptr r' size' i' off')
  | s => fC s k
theorem gC0_eq (s : SV) (k : SV → Option R) : gC0 s k = k s := by cases s <;> simp only [gC0, fI_eq, fB_eq, fN_eq, fC_eq]
def gL0 : List SV → (List SV → Option R) → Option R
  | [], k => k []
  | a :: l, k => gC0 a fun a' => gL0 l fun l' => k (a' :: l')
theorem gL0_eq (l : List SV) (k : List SV → Option R) : gL0 l k = k l := by
  induction l generalizing k with
  | nil => rfl
  | cons a l ih => simp only [gL0, gC0_eq, ih]
def gA (s : SV) (k : SV → Option R) : Option R := match s with
  | .agg cs => gL0 cs fun cs' => k (.agg cs')
  | s => gC0 s k
theorem gA_eq (s : SV) (k : SV → Option R) : gA s k = k s := by cases s <;> simp only [gA, gL0_eq, gC0_eq]
def gLA : List SV → (List SV → Option R) → Option R
  | [], k => k []
  | a :: l, k => gA a fun a' => gLA l fun l' => k (a' :: l')
theorem gLA_eq (l : List SV) (k : List SV → Option R) : gLA l k = k l := by
  induction l generalizing k with
  | nil => rfl
  | cons a l ih => simp only [gLA, gA_eq, ih]
def gC (s : SV) (k : SV → Option R) : Option R := match s with
  | .func f m cs => fN m fun m' => gLA cs fun cs' => k (.func f m' cs')
  | s => gC0 s k
theorem gC_eq (s : SV) (k : SV → Option R) : gC s k = k s := by cases s <;> simp only [gC, fN_eq, gLA_eq, gC0_eq]
def gL : List SV → (List SV → Option R) → Option R
  | [], k => k []
  | a :: l, k => gC a fun a' => gL l fun l' => k (a' :: l')
theorem gL_eq (l : List SV) (k : List SV → Option R) : gL l k = k l := by
  induction l generalizing k with
  | nil => rfl
  | cons a l ih => simp only [gL, gC_eq, ih]
def g1 (s : SV) (k : SV → Option R) : Option R := match s with
  | .agg cs => gL cs fun cs' => k (.agg cs')
  | s => gC s k
theorem g1_eq (s : SV) (k : SV → Option R) : g1 s k = k s := by cases s <;> simp only [g1, gL_eq, gC_eq]
def g1L : List SV → (List SV → Option R) → Option R
  | [], k => k []
  | a :: l, k => g1 a fun a' => g1L l fun l' => k (a' :: l')
theorem g1L_eq (l : List SV) (k : List SV → Option R) : g1L l k = k l := by
  induction l generalizing k with
  | nil => rfl
  | cons a l ih => simp only [g1L, g1_eq, ih]
def gV (s : SV) (k : SV → Option R) : Option R := match s with
  | .tup cs => g1L cs fun cs' => k (.tup cs')
  | s => g1 s k
theorem gV_eq (s : SV) (k : SV → Option R) : gV s k = k s := by cases s <;> simp only [gV, g1L_eq, g1_eq]
def gE (e : Ent) (k : Ent → Option R) : Option R := match e with
  | .blk cs => gL cs fun cs' => k (.blk cs')
  | .mp m hs gt => k (.mp m hs gt)
  | .fm ik fl size hs ln gt h => k (.fm ik fl size hs ln gt h)
  | .fx v bs => k (.fx v bs)
  | .mx ik n ln gt => fN n fun n' => k (.mx ik n' ln gt)
  | .row nl fl size n c => fB nl fun nl' => fN size fun size' => fN n fun n' => k (.row nl' fl size' n' c)
theorem gE_eq (e : Ent) (k : Ent → Option R) : gE e k = k e := by cases e <;> simp only [gE, gL_eq, fB_eq, fN_eq]
def gT : Tab → (Tab → Option R) → Option R
  | [], k => k []
  | (i, e) :: t, k => fN i fun i' => gE e fun e' => gT t fun t' => k ((i', e') :: t')
theorem gT_eq (t : Tab) (k : Tab → Option R) : gT t k = k t := by
  induction t generalizing k with
  | nil => rfl
  | cons p t ih => obtain ⟨i, e⟩ := p; simp only [gT, fN_eq, gE_eq, ih]
def gO (e : Option Ent) (k : Option Ent → Option R) : Option R := match e with
  | some e => gE e fun e' => k (some e')
  | Option.none => k Option.none
theorem gO_eq (e : Option Ent) (k : Option Ent → Option R) : gO e k = k e := by cases e <;> simp only [gO, gE_eq]
def gU : List (Nat × Option Ent) → (List (Nat × Option Ent) → Option R) → Option R
  | [], k => k []
  | (i, e) :: t, k => fN i fun i' => gO e fun e' => gU t fun t' => k ((i', e') :: t')
theorem gU_eq (t : List (Nat × Option Ent)) (k : List (Nat × Option Ent) → Option R) : gU t k = k t := by
  induction t generalizing k with
  | nil => rfl
  | cons p t ih => obtain ⟨i, e⟩ := p; simp only [gU, fN_eq, gO_eq, ih]
def tabG (t : Tab) (upd : List (Nat × Option Ent)) (k : Tab → Option R) : Option R := match upd with
  | [] => k t
  | u :: us => gU (u :: us) fun us' => fT (tupd t us') k
theorem tabG_eq (t : Tab) (upd : List (Nat × Option Ent)) (k : Tab → Option R) : tabG t upd k = k (tupd t upd) := by cases upd <;> simp only [tabG, gU_eq, fT_eq, tupd]
def goOnG (S : St) (o : Oper) (acc : List Info) (kf : St → List Info → Option R) (δ : Delta) : Option R :=
  bif keysLt δ then gV δ.v fun v => setF S.tmps o.dst v fun tmps => tabG S.tab δ.upd fun tab => fN δ.nx fun nx => kf ⟨tmps, tab, nx⟩ ((δ.rd, δ.upd.map (·.1), S.nx) :: acc) else Option.none
theorem goOnG_eq (S : St) (o : Oper) (acc : List Info) (kf : St → List Info → Option R) (δ : Delta) : goOnG S o acc kf δ = goOn S o acc kf δ := by
  unfold goOnG goOn putD setF
  cases keysLt δ <;> simp only [cond_true, cond_false]
  rw [gV_eq]
  cases o.dst <;> simp only [lsetK_eq, tabG_eq, fN_eq]
def opsG (Θ : Tys) (cal : Cal R) (all : List Oper) : List Oper → St → List Info → (St → List Info → Option R) → Option R
  | [], S, acc, kf => kf S acc
  | o :: rest, S, acc, kf =>
    match o.guard with
    | Option.none => opF Θ cal o S (goOnG S o acc fun S' acc' => opsG Θ cal all rest S' acc' kf)
    | some (j, want) => (match (all[j]?).bind (·.dst) with
      | some d => (match lget S.tmps d with
        | .bool x =>
          bif x then
            lsetK S.tmps d (.bool true) fun tmps =>
            (bif want then opF Θ cal o ⟨tmps, S.tab, S.nx⟩ (goOnG ⟨tmps, S.tab, S.nx⟩ o acc fun S' acc' => opsG Θ cal all rest S' acc' kf)
             else skipF ⟨tmps, S.tab, S.nx⟩ o.dst fun S' => opsG Θ cal all rest S' (([], [], S.nx) :: acc) kf)
          else
            lsetK S.tmps d (.bool false) fun tmps =>
            (bif want then skipF ⟨tmps, S.tab, S.nx⟩ o.dst fun S' => opsG Θ cal all rest S' (([], [], S.nx) :: acc) kf
             else opF Θ cal o ⟨tmps, S.tab, S.nx⟩ (goOnG ⟨tmps, S.tab, S.nx⟩ o acc fun S' acc' => opsG Θ cal all rest S' acc' kf))
        | .none => skipF S o.dst fun S' => opsG Θ cal all rest S' (([], [], S.nx) :: acc) kf
        | _ => Option.none)
      | Option.none => Option.none)
theorem opsG_eq (Θ : Tys) (cal : Cal R) (all : List Oper) (ops : List Oper) : ∀ (S : St) (acc : List Info) (kf : St → List Info → Option R), opsG Θ cal all ops S acc kf = opsK Θ cal all ops S acc kf := by
  induction ops with
  | nil => intro S acc kf; rfl
  | cons o rest ih =>
    intro S acc kf
    have hg : ∀ S acc kf, goOnG (R := R) S o acc kf = goOn S o acc kf := fun S acc kf => funext fun δ => goOnG_eq S o acc kf δ
    simp only [opsG, opsK, ih, opF_eq, hg, lsetK_eq, skipF_eq]
    rfl
def codeG (Θ : Tys) (cal : Cal R) (lp : Lp R) : Code → St → (Exit → St → Option R) → Option R
  | .skip, S, k => k .normal S
  | .region _ ops draw, S, k => rowsF S.tab S.nx fun t nx => opsG Θ cal ops.toList ops.toList ⟨S.tmps, t, nx⟩ [] fun S' infos => bif draw then (bif indep ops.toList infos.reverse then k .normal S' else Option.none) else k .normal S'
  | .seq a b, S, k => codeG Θ cal lp a S fun e S' => match e with | .normal => codeG Θ cal lp b S' k | e => k e S'
  | .cond c a b, S, k => (match ev Θ 0 (lget S.tmps) c with
    | .bool x => bif x then refineF S c true fun S' => codeG Θ cal lp a S' k else refineF S c false fun S' => codeG Θ cal lp b S' k
    | _ => Option.none)
  | .block id body, S, k => codeG Θ cal lp body S fun e S' => match e with | .exit j => (bif j == id then k .normal S' else k (.exit j) S') | e => k e S'
  | .loop body, S, k => lp body S k
  | .exit id, S, k => k (.exit id) S
  | .label _, S, k => k .normal S
  | .ret, S, k => k .ret S
  | _, _, _ => Option.none
theorem codeG_eq (Θ : Tys) (cal : Cal R) (lp : Lp R) : ∀ (c : Code) (S : St) (k : Exit → St → Option R), codeG Θ cal lp c S k = codeK Θ cal lp c S k := by
  intro c
  induction c with
  | region id ops draw => intro S k; simp only [codeG, codeK, opsG_eq, rowsF_eq]
  | seq a b iha ihb => intro S k; simp only [codeG, codeK, iha]; congr 1; funext e S'; cases e <;> simp only [ihb]
  | cond x a b iha ihb => intro S k; simp only [codeG, codeK, refineF_eq, iha, ihb]; rfl
  | block id a ih => intro S k; simp only [codeG, codeK, ih]; rfl
  | _ => intro S k; rfl
def loopG (Θ : Tys) (cal : Cal R) : Nat → Lp R
  | 0, _, _, _ => Option.none
  | n + 1, body, S, k => codeG Θ cal (loopG Θ cal n) body S fun e S' => match e with | .normal => loopG Θ cal n body S' k | e => k e S'
theorem loopG_rounds {P : Program} {Θ : Tys} {cal : Cal R} (hty : tyOk P Θ = true) (hm : P.follows .mixedOrders = true) (hcal : CalOk P cal) (base : Nat) : ∀ (n : Nat),
    (∀ m, m < n → LpOk P base (loopG (R := R) Θ cal m)) → ∀ body S k r, codeOk body = true → loopG Θ cal n body S k = some r → ∃ e S', k e S' = some r ∧ RoundSem P base n body S e S' := by
  intro n
  induction n with
  | zero => intro _ body S k r _ h; simp [loopG] at h
  | succ n ih =>
    intro hlt body S k r hok h
    simp only [loopG] at h
    rw [codeG_eq] at h
    obtain ⟨e, S1, h1, p1⟩ := code_ok hty hm hcal (hlt n (Nat.lt_succ_self _)) body S _ hok h
    have oth : ∀ e, e ≠ .normal → k e S1 = some r → CodeSem P base body S e S1 → ∃ e S', k e S' = some r ∧ RoundSem P base (n + 1) body S e S' := by
      intro e hne h1 p1
      refine ⟨e, S1, h1, fun c0 c a Q hK hr ht hq => ?_⟩
      rw [rounds_succ]
      refine p1 c0 c a _ hK hr ht fun c2 a2 hr2 ht2 => ?_
      cases e with
      | normal => exact absurd rfl hne
      | _ => exact hq c2 a2 hr2 ht2
    cases e with
    | normal =>
      obtain ⟨e2, S2, h2, p2⟩ := ih (fun m hm => hlt m (Nat.lt_succ_of_lt hm)) body S1 k r hok h1
      refine ⟨e2, S2, h2, fun c0 c a Q hK hr ht hq => ?_⟩
      rw [rounds_succ]
      exact p1 c0 c a _ hK hr ht fun c2 a2 hr2 ht2 => p2 c0 c2 a2 Q hK hr2 ht2 hq
    | exit j => exact oth _ (by simp) h1 p1
    | goto j => exact oth _ (by simp) h1 p1
    | ret => exact oth _ (by simp) h1 p1
    | panic ch => exact oth _ (by simp) h1 p1
    | outgrown => exact oth _ (by simp) h1 p1
theorem loopG_ok {P : Program} {Θ : Tys} {cal : Cal R} (hty : tyOk P Θ = true) (hm : P.follows .mixedOrders = true) (hcal : CalOk P cal) (base : Nat) (n : Nat) : LpOk P base (loopG (R := R) Θ cal n) := by
  induction n using Nat.strongRecOn with
  | _ n ih =>
    intro body S k r hok h
    obtain ⟨e, S', h1, p1⟩ := loopG_rounds hty hm hcal base n ih body S k r hok h
    exact ⟨e, S', h1, fun c0 c a Q hK hr ht hq => wp_loop_rounds n (p1 c0 c a Q hK hr ht hq)⟩
def fnG (E : Env) (cal : Cal R) (n : Nat) (f : FuncId) (args : List SV) (T : Tab) (base : Nat) (k : SV × Tab → Option R) : Option R :=
  match E.P.funcs[f]? with
  | some fn => (match fn.body with
    | some body => bif Nat.ble args.length fn.ntmps then
        g1L (args ++ List.replicate (fn.ntmps - args.length) .undef) fun tmps =>
        gT T fun T' =>
        codeG E.Θ cal (loopG E.Θ cal n) body ⟨tmps, T', base⟩ fun e S =>
          (match e with
          | .ret => finF (!(E.nr f), E.bs f) E.Θ base fn.results.toList S fun p => gV p.1 fun v => gT p.2 fun T2 => k (v, T2)
          | .normal => finF (!(E.nr f), E.bs f) E.Θ base fn.results.toList S fun p => gV p.1 fun v => gT p.2 fun T2 => k (v, T2)
          | _ => Option.none)
      else Option.none
    | Option.none => Option.none)
  | Option.none => Option.none
def runG (E : Env) {R : Type} (n : Nat) : Nat → Cal R
  | 0 => noCal E
  | m + 1 => ⟨E.ro, E.own, fun f args T base kf => fnG E (runG E n m) n f args T base kf⟩
theorem runG_ok {E : Env} (hE : EnvOk E) (n m : Nat) : CalOk E.P (runG E (R := R) n m) := by
  induction m with
  | zero => exact noCal_ok E
  | succ m ih =>
    intro f args T base kf r h
    simp only [runG, fnG, g1L_eq, gT_eq, finF_eq, gV_eq] at h
    cases hf : E.P.funcs[f]? with
    | none => rw [hf] at h; cases h
    | some fn =>
      rw [hf] at h
      simp only at h
      cases hb : fn.body with
      | none => rw [hb] at h; cases h
      | some body =>
        rw [hb] at h
        simp only at h
        cases hle : Nat.ble args.length fn.ntmps <;> rw [hle] at h <;> simp only [cond_true, cond_false, reduceCtorEq] at h
        have hmem : fn ∈ E.P.funcs.toList := by
          have := Array.mem_of_getElem? hf
          simpa using this
        rw [codeG_eq] at h
        obtain ⟨e, S', h1, p1⟩ := code_ok hE.ty hE.mixed ih (loopG_ok hE.ty hE.mixed ih base n) body _ _ (hE.codes fn hmem body hb) h
        exact fn_end hE hf hb hmem h1 p1
theorem closed_ok {E : Env} (hE : EnvOk E) {cal : Cal R} (hcal : CalOk E.P cal) {f : FuncId} {n m : Nat} {v : SV} {T' : Tab} (h : ∀ kf, (runG E (R := R) n m).run f [] [] 0 kf = kf (v, T')) :
    CalOk E.P (callM cal f 0 ⟨[], []⟩ (fun _ _ kf => kf (v, T'))) := by
  intro g args T b kf r hr
  simp only [callM] at hr
  cases hc : (g == f && b == 0 && Sp.ok ⟨[], []⟩ args T) <;> rw [hc] at hr <;> simp only [cond_true, cond_false] at hr
  · exact hcal g args T b kf r hr
  · simp only [Bool.and_eq_true, beq_iff_eq, Sp.ok] at hc
    obtain ⟨⟨rfl, rfl⟩, ⟨h1, _⟩, h2⟩ := hc
    have ha : args = [] := by simpa using h1
    have ht : T = [] := by cases T with | nil => rfl | cons p t => simp [entsOk] at h2
    subst ha ht
    rw [← h kf] at hr
    exact runG_ok hE n m g [] [] 0 kf r hr
end
end
end Go.Sx
