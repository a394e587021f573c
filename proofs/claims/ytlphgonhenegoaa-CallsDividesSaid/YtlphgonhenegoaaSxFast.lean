import Derived.Test.YtlphgonhenegoaaSxLoop
namespace Go.Sx
noncomputable section
section
variable {R : Type}
def fN (n : Nat) (k : Nat → Option R) : Option R := match n with
  | 0 => k 0
  | m + 1 => k (m + 1)
theorem fN_eq (n : Nat) (k : Nat → Option R) : fN n k = k n := by cases n <;> rfl
def fNL : List Nat → (List Nat → Option R) → Option R
  | [], k => k []
  | a :: l, k => fN a fun a' => fNL l fun l' => k (a' :: l')
theorem fNL_eq (l : List Nat) (k : List Nat → Option R) : fNL l k = k l := by
  induction l generalizing k with
  | nil => rfl
  | cons a l ih => simp only [fNL, fN_eq, ih]
def fC0 (s : SV) (k : SV → Option R) : Option R := match s with
  | .undef => k .undef
  | .none => k .none
  | .int kd n => k (.int kd n)
  | .bool b => k (.bool b)
  | .str s => k (.str s)
  | .nilp => k .nilp
  | .nilm => k .nilm
  | .nilf => k .nilf
  | .ptr g off => fN g fun g' => fN off fun off' => k (.ptr g' off')
  | .xptr g b st n z => fN g fun g' => fN b fun b' => fN st fun st' => fN n fun n' => k (.xptr g' b' st' n' z)
  | .eptr m c => k (.eptr m c)
  | .wptr r size i off => fN r fun r' => fN size fun size' => k (.wptr r' size' i off)
  | .sl kd fl size n c => k (.sl kd fl size n c)
  | .row r => fN r fun r' => k (.row r')
  | .func f m cs => k (.func f m cs)
  | .agg cs => k (.agg cs)
  | .tup cs => k (.tup cs)
theorem fC0_eq (s : SV) (k : SV → Option R) : fC0 s k = k s := by cases s <;> simp only [fC0, fN_eq]
def fL0 : List SV → (List SV → Option R) → Option R
  | [], k => k []
  | a :: l, k => fC0 a fun a' => fL0 l fun l' => k (a' :: l')
theorem fL0_eq (l : List SV) (k : List SV → Option R) : fL0 l k = k l := by
  induction l generalizing k with
  | nil => rfl
  | cons a l ih => simp only [fL0, fC0_eq, ih]
def fA (s : SV) (k : SV → Option R) : Option R := match s with
  | .agg cs => fL0 cs fun cs' => k (.agg cs')
  | s => fC0 s k
theorem fA_eq (s : SV) (k : SV → Option R) : fA s k = k s := by cases s <;> simp only [fA, fL0_eq, fC0_eq]
def fLA : List SV → (List SV → Option R) → Option R
  | [], k => k []
  | a :: l, k => fA a fun a' => fLA l fun l' => k (a' :: l')
theorem fLA_eq (l : List SV) (k : List SV → Option R) : fLA l k = k l := by
  induction l generalizing k with
  | nil => rfl
  | cons a l ih => simp only [fLA, fA_eq, ih]
def fC (s : SV) (k : SV → Option R) : Option R := match s with
  | .func f m cs => fN m fun m' => fLA cs fun cs' => k (.func f m' cs')
  | s => fC0 s k
theorem fC_eq (s : SV) (k : SV → Option R) : fC s k = k s := by cases s <;> simp only [fC, fN_eq, fLA_eq, fC0_eq]
def fL : List SV → (List SV → Option R) → Option R
  | [], k => k []
  | a :: l, k => fC a fun a' => fL l fun l' => k (a' :: l')
theorem fL_eq (l : List SV) (k : List SV → Option R) : fL l k = k l := by
  induction l generalizing k with
  | nil => rfl
  | cons a l ih => simp only [fL, fC_eq, ih]
def f1 (s : SV) (k : SV → Option R) : Option R := match s with
  | .agg cs => fL cs fun cs' => k (.agg cs')
  | s => fC s k
theorem f1_eq (s : SV) (k : SV → Option R) : f1 s k = k s := by cases s <;> simp only [f1, fL_eq, fC_eq]
def f1L : List SV → (List SV → Option R) → Option R
  | [], k => k []
  | a :: l, k => f1 a fun a' => f1L l fun l' => k (a' :: l')
theorem f1L_eq (l : List SV) (k : List SV → Option R) : f1L l k = k l := by
  induction l generalizing k with
  | nil => rfl
  | cons a l ih => simp only [f1L, f1_eq, ih]
def fV (s : SV) (k : SV → Option R) : Option R := match s with
  | .tup cs => f1L cs fun cs' => k (.tup cs')
  | s => f1 s k
theorem fV_eq (s : SV) (k : SV → Option R) : fV s k = k s := by cases s <;> simp only [fV, f1L_eq, f1_eq]
def fE (e : Ent) (k : Ent → Option R) : Option R := match e with
  | .blk cs => fL cs fun cs' => k (.blk cs')
  | .row nl fl size n c => k (.row nl fl size n c)
  | .mp m hs gt => k (.mp m hs gt)
  | .fm ik fl size hs ln gt h => k (.fm ik fl size hs ln gt h)
  | .fx v bs => k (.fx v bs)
  | .lp n => k (.lp n)
  | .mx ik n ln gt => k (.mx ik n ln gt)
theorem fE_eq (e : Ent) (k : Ent → Option R) : fE e k = k e := by cases e <;> simp only [fE, fL_eq]
def fT : Tab → (Tab → Option R) → Option R
  | [], k => k []
  | (i, e) :: t, k => fN i fun i' => fE e fun e' => fT t fun t' => k ((i', e') :: t')
theorem fT_eq (t : Tab) (k : Tab → Option R) : fT t k = k t := by
  induction t generalizing k with
  | nil => rfl
  | cons p t ih => obtain ⟨i, e⟩ := p; simp only [fT, fN_eq, fE_eq, ih]
def fO (e : Option Ent) (k : Option Ent → Option R) : Option R := match e with
  | some e => fE e fun e' => k (some e')
  | Option.none => k Option.none
theorem fO_eq (e : Option Ent) (k : Option Ent → Option R) : fO e k = k e := by cases e <;> simp only [fO, fE_eq]
def fU : List (Nat × Option Ent) → (List (Nat × Option Ent) → Option R) → Option R
  | [], k => k []
  | (i, e) :: t, k => fN i fun i' => fO e fun e' => fU t fun t' => k ((i', e') :: t')
theorem fU_eq (t : List (Nat × Option Ent)) (k : List (Nat × Option Ent) → Option R) : fU t k = k t := by
  induction t generalizing k with
  | nil => rfl
  | cons p t ih => obtain ⟨i, e⟩ := p; simp only [fU, fN_eq, fO_eq, ih]
def lgetN (l : List SV) (i : Nat) : SV :=
  Nat.rec (motive := fun _ => List SV → SV) (fun l => List.rec (motive := fun _ => SV) .undef (fun a _ _ => a) l) (fun _ ih l => List.rec (motive := fun _ => SV) .undef (fun _ t _ => ih t) l) i l
theorem lgetN_eq (l : List SV) : lgetN l = lget l := by
  funext i
  induction i generalizing l with
  | zero => cases l <;> rfl
  | succ i ih =>
    cases l with
    | nil => rfl
    | cons a l => exact (ih l).trans (by simp [lget])
def lsetK (l : List SV) (i : Nat) (v : SV) (k : List SV → Option R) : Option R :=
  Nat.rec (motive := fun _ => List SV → (List SV → Option R) → Option R) (fun l k => List.rec (motive := fun _ => Option R) (k []) (fun _ t _ => k (v :: t)) l)
    (fun _ ih l k => List.rec (motive := fun _ => Option R) (k []) (fun a t _ => ih t fun l' => k (a :: l')) l) i l k
theorem lsetK_eq (l : List SV) (i : Nat) (v : SV) (k : List SV → Option R) : lsetK l i v k = k (lset l i v) := by
  induction i generalizing l k with
  | zero => cases l <;> rfl
  | succ i ih =>
    cases l with
    | nil => rfl
    | cons a l => exact (ih l _).trans rfl
def tabF (t : Tab) (upd : List (Nat × Option Ent)) (k : Tab → Option R) : Option R := match upd with
  | [] => k t
  | u :: us => fT (tupd t (u :: us)) k
theorem tabF_eq (t : Tab) (upd : List (Nat × Option Ent)) (k : Tab → Option R) : tabF t upd k = k (tupd t upd) := by cases upd <;> simp only [tabF, fT_eq, tupd]
def setF (l : List SV) (d : Option Tmp) (v : SV) (k : List SV → Option R) : Option R := match d with
  | some d => lsetK l d v k
  | Option.none => k l
def goOnF (S : St) (o : Oper) (acc : List Info) (kf : St → List Info → Option R) (δ : Delta) : Option R :=
  bif keysLt δ then fV δ.v fun v => setF S.tmps o.dst v fun tmps => tabF S.tab δ.upd fun tab => fN δ.nx fun nx => kf ⟨tmps, tab, nx⟩ ((δ.rd, δ.upd.map (·.1), S.nx) :: acc) else Option.none
theorem goOnF_eq (S : St) (o : Oper) (acc : List Info) (kf : St → List Info → Option R) (δ : Delta) : goOnF S o acc kf δ = goOn S o acc kf δ := by
  unfold goOnF goOn putD setF
  cases keysLt δ <;> simp only [cond_true, cond_false]
  rw [fV_eq]
  cases o.dst <;> simp only [lsetK_eq, tabF_eq, fN_eq]
def skipF (S : St) (d : Option Tmp) (k : St → Option R) : Option R := setF S.tmps d .none fun tmps => k ⟨tmps, S.tab, S.nx⟩
theorem skipF_eq (S : St) (d : Option Tmp) (k : St → Option R) : skipF S d k = k (skipD S d) := by
  unfold skipF skipD setF
  cases d <;> simp only [lsetK_eq]
def callF (cal : Cal R) (f : FuncId) (args : List SV) (t : Tab) (nx : Nat) (kf : Delta → Option R) : Option R :=
  fNL (reach (fun _ => false) t 1000 (args.flatMap (ptrIds (cal.ro f) (cal.own f))) []) fun L =>
    fNL (args.flatMap (viewIds (cal.ro f) (tget t) L)) fun V => bif nodupN L then
        f1L (args.map fun a => ren (idxN L · 0) (view1 (cal.ro f) (tget t) L a)) fun args' =>
        fT (keepOrd t (idxN L · 0) L 0) fun t' => fN L.length fun b =>
        cal.run f args' t' b fun (res, T') =>
          match T'.length + L.length with
          | m => bif idsBelow m T' && tabOk T' then
              fV (ren (backN T' L nx) res) fun v => fU (lowUpd T' (backN T' L nx) L 0 ++ newUpd L.length nx (backN T' L nx) T' ++ (bif pureOk V res T' then [] else V.map fun r => (r, Option.none))) fun u => fN (nx + m) fun nx' =>
              kf ⟨v, u, L ++ V, nx'⟩
            else Option.none
      else Option.none
theorem callF_eq (cal : Cal R) (f : FuncId) (args : List SV) (t : Tab) (nx : Nat) (kf : Delta → Option R) : callF cal f args t nx kf = callK cal f args t nx kf := by
  unfold callF callK
  simp only [fNL_eq, f1L_eq, fT_eq, fV_eq, fU_eq, fN_eq]
def opF (Θ : Tys) (cal : Cal R) (o : Oper) (S : St) (kf : Delta → Option R) : Option R :=
  match o.op with
  | .call ⟨.value fx, args, ts⟩ => (match ev Θ 0 (lgetN S.tmps) fx with
    | .func f m caps => bif args.toList.length == ts.toList.length && (bif m == yK then Nat.ble yK f && (Nat.ble caps.length yK && args.toList.length == 1) else Nat.blt f yK) then f1L (caps.take m ++ ((args.toList.zip ts.toList).map (fun (x, t) => ev Θ t (lgetN S.tmps) x) ++ caps.drop m)) fun args' => callF cal f args' S.tab S.nx kf else Option.none
    | _ => Option.none)
  | _ => planZ Θ o S.nx (frzOf Θ o (lgetN S.tmps)) (lgetN S.tmps) (tget S.tab) kf
theorem opF_eq (Θ : Tys) (cal : Cal R) (o : Oper) (S : St) (kf : Delta → Option R) : opF Θ cal o S kf = opK Θ cal o S kf := by
  unfold opF opK
  simp only [f1L_eq, callF_eq, lgetN_eq]
  rfl
def opsF (Θ : Tys) (cal : Cal R) (all : List Oper) : List Oper → St → List Info → (St → List Info → Option R) → Option R
  | [], S, acc, kf => kf S acc
  | o :: rest, S, acc, kf =>
    match o.guard with
    | Option.none => opF Θ cal o S (goOnF S o acc fun S' acc' => opsF Θ cal all rest S' acc' kf)
    | some (j, want) => (match (all[j]?).bind (·.dst) with
      | some d => (match lget S.tmps d with
        | .bool x =>
          bif x then
            lsetK S.tmps d (.bool true) fun tmps =>
            (bif want then opF Θ cal o ⟨tmps, S.tab, S.nx⟩ (goOnF ⟨tmps, S.tab, S.nx⟩ o acc fun S' acc' => opsF Θ cal all rest S' acc' kf)
             else skipF ⟨tmps, S.tab, S.nx⟩ o.dst fun S' => opsF Θ cal all rest S' (([], [], S.nx) :: acc) kf)
          else
            lsetK S.tmps d (.bool false) fun tmps =>
            (bif want then skipF ⟨tmps, S.tab, S.nx⟩ o.dst fun S' => opsF Θ cal all rest S' (([], [], S.nx) :: acc) kf
             else opF Θ cal o ⟨tmps, S.tab, S.nx⟩ (goOnF ⟨tmps, S.tab, S.nx⟩ o acc fun S' acc' => opsF Θ cal all rest S' acc' kf))
        | .none => skipF S o.dst fun S' => opsF Θ cal all rest S' (([], [], S.nx) :: acc) kf
        | _ => Option.none)
      | Option.none => Option.none)
theorem opsF_eq (Θ : Tys) (cal : Cal R) (all : List Oper) (ops : List Oper) : ∀ (S : St) (acc : List Info) (kf : St → List Info → Option R), opsF Θ cal all ops S acc kf = opsK Θ cal all ops S acc kf := by
  induction ops with
  | nil => intro S acc kf; rfl
  | cons o rest ih =>
    intro S acc kf
    have hg : ∀ S acc kf, goOnF (R := R) S o acc kf = goOn S o acc kf := fun S acc kf => funext fun δ => goOnF_eq S o acc kf δ
    simp only [opsF, opsK, ih, opF_eq, hg, lsetK_eq, skipF_eq]
    rfl
def canonF (base : Nat) (bp : Nat → Bool) (roots : List SV) (t : Tab) (kf : List SV → Tab → Nat → Option R) : Option R :=
  fNL (reach (lowB base bp) t 1000 (idR roots ++ belowIds (lowB base bp) t) []) fun ord => bif nodupN ord then
    f1L (roots.map (ren (numOf (lowB base bp) base ord))) fun r' => fT (keepLow (lowB base bp) (numOf (lowB base bp) base ord) t ++ keepOrd t (numOf (lowB base bp) base ord) ord base) fun t' => fN (base + ord.length) fun nx => kf r' t' nx else Option.none
theorem canonF_eq (base : Nat) (bp : Nat → Bool) (roots : List SV) (t : Tab) (kf : List SV → Tab → Nat → Option R) : canonF base bp roots t kf = canon base bp roots t kf := by
  unfold canonF canon
  simp only [fNL_eq, f1L_eq, fT_eq, fN_eq]
def normF (base : Nat) (keep : List Nat) (S : St) (kf : St → Option R) : Option R :=
  rowifyS (clearS 0 keep S.tmps) S.tab S.nx fun tmps t nx => rowifyT (t.map (·.1)) t nx fun t' _ =>
    fT t' fun t2 => canonF base (fun g => memN keep (1000000 + g)) tmps t2 fun tmps' t'' nx'' => kf ⟨tmps', t'', nx''⟩
theorem normF_eq (base : Nat) (keep : List Nat) (S : St) (kf : St → Option R) : normF base keep S kf = normK base keep S kf := by
  unfold normF normK
  simp only [fT_eq, canonF_eq]
def refineF (S : St) (c : Operand) (b : Bool) (k : St → Option R) : Option R :=
  match c with
  | .tmp t => lsetK S.tmps t (.bool b) fun tmps => k ⟨tmps, S.tab, S.nx⟩
  | _ => k S
theorem refineF_eq (S : St) (c : Operand) (b : Bool) (k : St → Option R) : refineF S c b k = k (refine S c b) := by
  unfold refineF refine
  cases c <;> simp only [lsetK_eq]
def rowsF (t : Tab) (nx : Nat) (kf : Tab → Nat → Option R) : Option R := bif hasNil t then rowifyT (t.map (·.1)) t nx fun t' nx' => fT t' fun t2 => fN nx' fun nx2 => kf t2 nx2 else kf t nx
theorem rowsF_eq (t : Tab) (nx : Nat) (kf : Tab → Nat → Option R) : rowsF t nx kf = rowsT t nx kf := by
  unfold rowsF rowsT
  simp only [fT_eq, fN_eq]
def codeF (Θ : Tys) (cal : Cal R) (lp : Lp R) : Code → St → (Exit → St → Option R) → Option R
  | .skip, S, k => k .normal S
  | .region _ ops draw, S, k => rowsF S.tab S.nx fun t nx => opsF Θ cal ops.toList ops.toList ⟨S.tmps, t, nx⟩ [] fun S' infos => bif draw then (bif indep ops.toList infos.reverse then k .normal S' else Option.none) else k .normal S'
  | .seq a b, S, k => codeF Θ cal lp a S fun e S' => match e with | .normal => codeF Θ cal lp b S' k | e => k e S'
  | .cond c a b, S, k => (match ev Θ 0 (lget S.tmps) c with
    | .bool x => bif x then refineF S c true fun S' => codeF Θ cal lp a S' k else refineF S c false fun S' => codeF Θ cal lp b S' k
    | _ => Option.none)
  | .block id body, S, k => codeF Θ cal lp body S fun e S' => match e with | .exit j => (bif j == id then k .normal S' else k (.exit j) S') | e => k e S'
  | .loop body, S, k => lp body S k
  | .exit id, S, k => k (.exit id) S
  | .label _, S, k => k .normal S
  | .ret, S, k => k .ret S
  | _, _, _ => Option.none
theorem codeF_eq (Θ : Tys) (cal : Cal R) (lp : Lp R) : ∀ (c : Code) (S : St) (k : Exit → St → Option R), codeF Θ cal lp c S k = codeK Θ cal lp c S k := by
  intro c
  induction c with
  | region id ops draw => intro S k; simp only [codeF, codeK, opsF_eq, rowsF_eq]
  | seq a b iha ihb => intro S k; simp only [codeF, codeK, iha]; congr 1; funext e S'; cases e <;> simp only [ihb]
  | cond x a b iha ihb => intro S k; simp only [codeF, codeK, refineF_eq, iha, ihb]; rfl
  | block id a ih => intro S k; simp only [codeF, codeK, ih]; rfl
  | _ => intro S k; rfl
def finF (rw : Bool × List Nat) (Θ : Tys) (base : Nat) (rs : List ResultVar) (S : St) (k : SV × Tab → Option R) : Option R :=
  resL Θ S rs fun vs => fV (tupS vs) fun v => rowifyR rw.1 v S.tab S.nx fun v' t nx => rowifyT (t.map (·.1)) t nx fun t' _ => fT t' fun t2 => canonF base (bpOf rw.2 base) [v'] t2 fun vs' t'' _ => match vs' with
      | [v''] => fV v'' fun v3 => k (v3, t'')
      | _ => Option.none
theorem finF_eq (rw : Bool × List Nat) (Θ : Tys) (base : Nat) (rs : List ResultVar) (S : St) (k : SV × Tab → Option R) : finF rw Θ base rs S k = finK rw Θ base rs S k := by
  unfold finF finK
  simp only [fT_eq, canonF_eq, fV_eq]
  rfl
end
end
end Go.Sx
