/-
  The model of the statement EnergyWithin, that it is what the code does (written by a program), and that it answers true.
-/
import Derived.Test.YtfaefhegfcidpaaP5
set_option maxRecDepth 100000
set_option maxHeartbeats 0
set_option linter.unusedVariables false
set_option linter.unusedSimpArgs false
namespace Go.Proofs.Ytfaefhegfcidpaa
open Go.Sx
noncomputable section

def newellaw11_EnergyWithin_L12 : LoopSp := ⟨⟨[3, 4, 5, 7, 11, 12, 13], ⟨(dr 3 ((rPtr 0 0) :: (rPtr 1 0) :: (rPtr 2 0) :: (dr 1 ((rPtr 3 0) :: (dr 3 ((rRow 4) :: (rRow 5) :: (rInt .i64) :: (dr 134 []))))))), [(0, eBlkC api_BandC), (1, eBlkC api_TimesC), (2, eBlkC newellaw11_PaidC), (3, eBlkC api_SpanC), (4, eRow intC), (5, eRow intC)]⟩, 6⟩, [(some 0, ⟨[3, 4, 5, 7, 11, 12], ⟨(dr 3 ((rPtr 0 0) :: (rPtr 1 0) :: (rPtr 2 0) :: (dr 1 ((rPtr 3 0) :: (dr 3 ((rRow 4) :: (rRow 5) :: (dr 135 []))))))), [(0, eBlkC api_BandC), (1, eBlkC api_TimesC), (2, eBlkC newellaw11_PaidC), (3, eBlkC api_SpanC), (4, eRow intC), (5, eRow intC)]⟩, 6⟩)]⟩
theorem newellaw11_EnergyWithin_L12_ok : newellaw11_EnergyWithin_L12.Ok := ⟨⟨(drCons 3 (allCons (rPtr_ok 0 0) (allCons (rPtr_ok 1 0) (allCons (rPtr_ok 2 0) (drCons 1 (allCons (rPtr_ok 3 0) (drCons 3 (allCons (rRow_ok 4) (allCons (rRow_ok 5) (allCons (rInt_ok .i64) (drCons 134 allNil))))))))))), (eCons (eBlkC_ok api_BandC_ok api_BandC_len) (eCons (eBlkC_ok api_TimesC_ok api_TimesC_len) (eCons (eBlkC_ok newellaw11_PaidC_ok newellaw11_PaidC_len) (eCons (eBlkC_ok api_SpanC_ok api_SpanC_len) (eCons (eRow_ok intC_ok) (eCons (eRow_ok intC_ok) eNil))))))⟩, (xCons ⟨(drCons 3 (allCons (rPtr_ok 0 0) (allCons (rPtr_ok 1 0) (allCons (rPtr_ok 2 0) (drCons 1 (allCons (rPtr_ok 3 0) (drCons 3 (allCons (rRow_ok 4) (allCons (rRow_ok 5) (drCons 135 allNil)))))))))), (eCons (eBlkC_ok api_BandC_ok api_BandC_len) (eCons (eBlkC_ok api_TimesC_ok api_TimesC_len) (eCons (eBlkC_ok newellaw11_PaidC_ok newellaw11_PaidC_len) (eCons (eBlkC_ok api_SpanC_ok api_SpanC_len) (eCons (eRow_ok intC_ok) (eCons (eRow_ok intC_ok) eNil))))))⟩ xNil)⟩
def newellaw11_EnergyWithin_h12 (v779 : Int) (v780 : api_Band) (v781 : api_Times) (v782 : newellaw11_Paid) (v783 : api_Span) (v784 : Bool) (v785 : Arr Int) (v786 : Bool) (v787 : Arr Int) : St := ⟨(un 3 ((.ptr 0 0) :: (.ptr 1 0) :: (.ptr 2 0) :: (un 1 ((.ptr 3 0) :: (un 3 ((.row 4) :: (.row 5) :: (.int .i64 v779) :: (un 134 []))))))), [(0, .blk (Cod.enc api_BandC v780)), (1, .blk (Cod.enc api_TimesC v781)), (2, .blk (Cod.enc newellaw11_PaidC v782)), (3, .blk (Cod.enc api_SpanC v783)), (4, rowE intC v784 v785), (5, rowE intC v786 v787)], 6⟩
def newellaw11_EnergyWithin_x12_0 (v780 : api_Band) (v781 : api_Times) (v782 : newellaw11_Paid) (v783 : api_Span) (q4 : Bool) (q5 : Arr Int) (q6 : Bool) (q7 : Arr Int) : St := ⟨(un 3 ((.ptr 0 0) :: (.ptr 1 0) :: (.ptr 2 0) :: (un 1 ((.ptr 3 0) :: (un 3 ((.row 4) :: (.row 5) :: (un 135 []))))))), [(0, .blk (Cod.enc api_BandC v780)), (1, .blk (Cod.enc api_TimesC v781)), (2, .blk (Cod.enc newellaw11_PaidC v782)), (3, .blk (Cod.enc api_SpanC v783)), (4, rowE intC q4 q5), (5, rowE intC q6 q7)], 6⟩
def newellaw11_EnergyWithin_b12 {R : Type} (N : Nat) (rc : Int → api_Band → api_Times → newellaw11_Paid → api_Span → Bool → Arr Int → Bool → Arr Int → Option R) (v779 : Int) (v780 : api_Band) (v781 : api_Times) (v782 : newellaw11_Paid) (v783 : api_Span) (v784 : Bool) (v785 : Arr Int) (v786 : Bool) (v787 : Arr Int) (k0 : Bool → Arr Int → Bool → Arr Int → Option R) : Option R :=
  bif decide (v779 < (↑(Arr.n (api_Times.Periods v781)) : Int)) then
   bif decide ((0 : Int) ≤ v779) && decide (v779 < (↑(Arr.n (api_Times.Periods v781)) : Int)) then
    bif room (Arr.n v785 + (1 : Nat)) then
     bif decide ((0 : Int) ≤ v779) && decide (v779 < (↑(Arr.n (api_Times.Periods v781)) : Int)) then
      bif room (Arr.n v787 + (1 : Nat)) then
       rc (w64 (v779 + (1 : Int))) v780 v781 v782 v783 false (lst intC (Arr.n v785 + (1 : Nat)) (catC (Arr.n v785) (Cod.cell intC (Arr.f v785)) (litC [SV.int IntKind.i64 (0 : Int)] [[SV.int IntKind.i64 (api_Span.Low (api_Period.Flow (Arr.f (api_Times.Periods v781) (Int.toNat v779))))]]))) false (lst intC (Arr.n v787 + (1 : Nat)) (catC (Arr.n v787) (Cod.cell intC (Arr.f v787)) (litC [SV.int IntKind.i64 (0 : Int)] [[SV.int IntKind.i64 (api_Span.High (api_Period.Flow (Arr.f (api_Times.Periods v781) (Int.toNat v779))))]])))
      else
       Option.none
     else
      Option.none
    else
     Option.none
   else
    Option.none
  else
   k0 v784 v785 v786 v787
def newellaw11_EnergyWithin_l12 {R : Type} (N : Nat) : Nat → Int → api_Band → api_Times → newellaw11_Paid → api_Span → Bool → Arr Int → Bool → Arr Int → (Bool → Arr Int → Bool → Arr Int → Option R) → Option R
  | 0, _, _, _, _, _, _, _, _, _, _ => Option.none
  | n + 1, v779, v780, v781, v782, v783, v784, v785, v786, v787, k0 => newellaw11_EnergyWithin_b12 N (fun v779 v780 v781 v782 v783 v784 v785 v786 v787 => newellaw11_EnergyWithin_l12 N n v779 v780 v781 v782 v783 v784 v785 v786 v787 k0) v779 v780 v781 v782 v783 v784 v785 v786 v787 k0


def newellaw11_EnergyWithin_m {R : Type} (N : Nat) (a765 : api_Band) (a766 : api_Times) (a767 : newellaw11_Paid) (k : Bool → Option R) : Option R :=
  newellaw11_Far N a765 (fun r768 =>
  bif r768 then
   newellaw11_works N  (fun r769 =>
   k r769)
  else
   newellaw11_FarTimes N a766 (fun r770 =>
   bif r770 then
    newellaw11_works N  (fun r771 =>
    k r771)
   else
    newelref11_CheckPlan N a765 a766 (newellaw11_Paid.Plan a767) (fun r772 =>
    bif r772 != (0 : Int) then
     newellaw11_works N  (fun r773 =>
     k r773)
    else
     energy_Bounds N a765 a766 (newellaw11_Paid.Plan a767) (fun r774 r775 =>
     bif r775 != (0 : Int) then
      k false
     else
      bif decide (api_Span.Low r774 > api_Span.High r774) then
       k false
      else
       newelref11_Are N a766 (newellaw11_Paid.Flows a767) (fun r776 =>
       bif r776 then
        energy_Bill N a765 a766 (newellaw11_Paid.Plan a767) (newellaw11_Paid.Flows a767) (fun r777 r778 =>
        bif r778 != (0 : Int) then
         k false
        else
         bif decide (r777 < api_Span.Low r774) then
          k false
         else
          bif decide (r777 > api_Span.High r774) then
           k false
          else
           newellaw11_EnergyWithin_l12 N N (0 : Int) a765 a766 a767 r774 true (lst intC (0 : Nat) (zeroC [SV.int IntKind.i64 (0 : Int)])) true (lst intC (0 : Nat) (zeroC [SV.int IntKind.i64 (0 : Int)])) (fun r788 r789 r790 r791 =>
            energy_Bill N a765 a766 (newellaw11_Paid.Plan a767) r789 (fun r792 r793 =>
            energy_Bill N a765 a766 (newellaw11_Paid.Plan a767) r791 (fun r794 r795 =>
            bif r793 == (0 : Int) then
             bif r795 == (0 : Int) then
              bif (if r794 < r792 then r794 else r792) == api_Span.Low r774 then
               bif (if r794 > r792 then r794 else r792) == api_Span.High r774 then
                newellaw11_works N  (fun r796 =>
                k r796)
               else
                k false
              else
               k false
             else
              k false
            else
             k false))))
       else
        newellaw11_EnergyWithin_l12 N N (0 : Int) a765 a766 a767 r774 true (lst intC (0 : Nat) (zeroC [SV.int IntKind.i64 (0 : Int)])) true (lst intC (0 : Nat) (zeroC [SV.int IntKind.i64 (0 : Int)])) (fun r797 r798 r799 r800 =>
         energy_Bill N a765 a766 (newellaw11_Paid.Plan a767) r798 (fun r801 r802 =>
         energy_Bill N a765 a766 (newellaw11_Paid.Plan a767) r800 (fun r803 r804 =>
         bif r802 == (0 : Int) then
          bif r804 == (0 : Int) then
           bif (if r803 < r801 then r803 else r801) == api_Span.Low r774 then
            bif (if r803 > r801 then r803 else r801) == api_Span.High r774 then
             newellaw11_works N  (fun r805 =>
             k r805)
            else
             k false
           else
            k false
          else
           k false
         else
          k false))))))))
noncomputable def newellaw11_EnergyWithin {R : Type} : Nat → api_Band → api_Times → newellaw11_Paid → (Bool → Option R) → Option R := lock (@newellaw11_EnergyWithin_m R)
theorem newellaw11_EnergyWithin_def {R : Type} (N : Nat) (a765 : api_Band) (a766 : api_Times) (a767 : newellaw11_Paid) (k : Bool → Option R) : newellaw11_EnergyWithin N a765 a766 a767 k = newellaw11_EnergyWithin_m N a765 a766 a767 k := by unfold newellaw11_EnergyWithin; rw [lock_eq]
def newellaw11_EnergyWithin_sp : Sp := ⟨[rAgg api_BandC, rAgg api_TimesC, rAgg newellaw11_PaidC], []⟩
theorem newellaw11_EnergyWithin_sp_ok : newellaw11_EnergyWithin_sp.Ok := ⟨(allCons (rAgg_ok api_BandC_ok api_BandC_len) (allCons (rAgg_ok api_TimesC_ok api_TimesC_len) (allCons (rAgg_ok newellaw11_PaidC_ok newellaw11_PaidC_len) allNil))), eNil⟩
def newellaw11_EnergyWithin_rs : Sp := ⟨[rBool], []⟩
theorem newellaw11_EnergyWithin_rs_ok : newellaw11_EnergyWithin_rs.Ok := ⟨(allCons rBool_ok allNil), eNil⟩
def newellaw11_EnergyWithin_run {R : Type} (N : Nat) (args : List SV) (T : Tab) (kf : SV × Tab → Option R) : Option R :=
  newellaw11_EnergyWithin_m N (Cod.dec api_BandC (lget (toCs (lget args 0)))) (Cod.dec api_TimesC (lget (toCs (lget args 1)))) (Cod.dec newellaw11_PaidC (lget (toCs (lget args 2)))) (fun q0 => kf (lget [.bool q0] 0, []))
def newellaw11_EnergyWithin_d12 {R : Type} (N : Nat) (S0 : St) (k : Exit → St → Option R) : Option R :=
  newellaw11_EnergyWithin_l12 N N (toI (lget S0.tmps 13)) (Cod.dec api_BandC (lget (entCs (entAt S0.tab 0)))) (Cod.dec api_TimesC (lget (entCs (entAt S0.tab 1)))) (Cod.dec newellaw11_PaidC (lget (entCs (entAt S0.tab 2)))) (Cod.dec api_SpanC (lget (entCs (entAt S0.tab 3)))) (entNl (entAt S0.tab 4)) (lst intC (entN (entAt S0.tab 4)) (entC (entAt S0.tab 4))) (entNl (entAt S0.tab 5)) (lst intC (entN (entAt S0.tab 5)) (entC (entAt S0.tab 5))) (fun q4 q5 q6 q7 => k (.exit 0) (newellaw11_EnergyWithin_x12_0 (Cod.dec api_BandC (lget (entCs (entAt S0.tab 0)))) (Cod.dec api_TimesC (lget (entCs (entAt S0.tab 1)))) (Cod.dec newellaw11_PaidC (lget (entCs (entAt S0.tab 2)))) (Cod.dec api_SpanC (lget (entCs (entAt S0.tab 3)))) q4 q5 q6 q7))
def newellaw11_EnergyWithin_lp {R : Type} (N : Nat) : Lp R := fun body S k => bif (Go.Sx.keyOf body).getD 0 == 12 then newellaw11_EnergyWithin_L12.head.raw 0 S (fun S0 => newellaw11_EnergyWithin_d12 N S0 k) else Option.none
theorem newellaw11_EnergyWithin_l12_eq {R : Type} (N : Nat) (k : Exit → St → Option R) (n : Nat) : ∀ (v0 : Int) (v1 : api_Band) (v2 : api_Times) (v3 : newellaw11_Paid) (v4 : api_Span) (v5 : Bool) (v6 : Arr Int) (v7 : Bool) (v8 : Arr Int), loopM E.Θ (newellaw11_works_cal N) (newellaw11_EnergyWithin_lp N) 0 newellaw11_EnergyWithin_L12 (bodyAt E 8 12) n (newellaw11_EnergyWithin_h12 v0 v1 v2 v3 v4 v5 v6 v7 v8) k = newellaw11_EnergyWithin_l12 N n v0 v1 v2 v3 v4 v5 v6 v7 v8 (fun q4 q5 q6 q7 => k (.exit 0) (newellaw11_EnergyWithin_x12_0 v1 v2 v3 v4 q4 q5 q6 q7)) := by
  induction n with
  | zero => intro v0 v1 v2 v3 v4 v5 v6 v7 v8; rfl
  | succ n ih =>
    intro v0 v1 v2 v3 v4 v5 v6 v7 v8
    refine Eq.trans (b := newellaw11_EnergyWithin_b12 N (fun v0 v1 v2 v3 v4 v5 v6 v7 v8 => loopM E.Θ (newellaw11_works_cal N) (newellaw11_EnergyWithin_lp N) 0 newellaw11_EnergyWithin_L12 (bodyAt E 8 12) n (newellaw11_EnergyWithin_h12 v0 v1 v2 v3 v4 v5 v6 v7 v8) k) v0 v1 v2 v3 v4 v5 v6 v7 v8 (fun q4 q5 q6 q7 => k (.exit 0) (newellaw11_EnergyWithin_x12_0 v1 v2 v3 v4 q4 q5 q6 q7))) (by kernel_rfl) ?_
    have h : (fun (v0 : Int) (v1 : api_Band) (v2 : api_Times) (v3 : newellaw11_Paid) (v4 : api_Span) (v5 : Bool) (v6 : Arr Int) (v7 : Bool) (v8 : Arr Int) => loopM E.Θ (newellaw11_works_cal N) (newellaw11_EnergyWithin_lp N) 0 newellaw11_EnergyWithin_L12 (bodyAt E 8 12) n (newellaw11_EnergyWithin_h12 v0 v1 v2 v3 v4 v5 v6 v7 v8) k) = (fun (v0 : Int) (v1 : api_Band) (v2 : api_Times) (v3 : newellaw11_Paid) (v4 : api_Span) (v5 : Bool) (v6 : Arr Int) (v7 : Bool) (v8 : Arr Int) => newellaw11_EnergyWithin_l12 N n v0 v1 v2 v3 v4 v5 v6 v7 v8 (fun q4 q5 q6 q7 => k (.exit 0) (newellaw11_EnergyWithin_x12_0 v1 v2 v3 v4 q4 q5 q6 q7))) := funext fun v0 => funext fun v1 => funext fun v2 => funext fun v3 => funext fun v4 => funext fun v5 => funext fun v6 => funext fun v7 => funext fun v8 => ih v0 v1 v2 v3 v4 v5 v6 v7 v8
    rw [h]
    rfl
theorem newellaw11_EnergyWithin_k12 {R : Type} (N : Nat) : LpKey (R := R) E 8 0 (newellaw11_EnergyWithin_lp N) 12 :=
  lpKey_of hE (newellaw11_works_cal_ok N) newellaw11_EnergyWithin_L12_ok [] kNil (by kernel_rfl) N fun S k =>
    Eq.trans (b := newellaw11_EnergyWithin_L12.head.raw 0 S (fun S0 => newellaw11_EnergyWithin_d12 N S0 k)) (by kernel_rfl) (congrArg (newellaw11_EnergyWithin_L12.head.raw 0 S) (funext fun S0 => Eq.trans (newellaw11_EnergyWithin_l12_eq N k N (toI (lget S0.tmps 13)) (Cod.dec api_BandC (lget (entCs (entAt S0.tab 0)))) (Cod.dec api_TimesC (lget (entCs (entAt S0.tab 1)))) (Cod.dec newellaw11_PaidC (lget (entCs (entAt S0.tab 2)))) (Cod.dec api_SpanC (lget (entCs (entAt S0.tab 3)))) (entNl (entAt S0.tab 4)) (lst intC (entN (entAt S0.tab 4)) (entC (entAt S0.tab 4))) (entNl (entAt S0.tab 5)) (lst intC (entN (entAt S0.tab 5)) (entC (entAt S0.tab 5)))).symm (by kernel_rfl)))
noncomputable def newellaw11_EnergyWithin_go {R : Type} (N : Nat) (args : List SV) (T : Tab) (kf : SV × Tab → Option R) : Option R :=
  newellaw11_EnergyWithin N (Cod.dec api_BandC (lget (toCs (lget args 0)))) (Cod.dec api_TimesC (lget (toCs (lget args 1)))) (Cod.dec newellaw11_PaidC (lget (toCs (lget args 2)))) (fun q0 => kf (lget [.bool q0] 0, []))
noncomputable def newellaw11_EnergyWithin_cal {R : Type} (N : Nat) : Cal R := callM (newellaw11_works_cal N) 8 0 newellaw11_EnergyWithin_sp (newellaw11_EnergyWithin_go N)
theorem newellaw11_EnergyWithin_cal_ok {R : Type} (N : Nat) : CalOk E.P (newellaw11_EnergyWithin_cal (R := R) N) :=
  callM_ok hE (newellaw11_works_cal_ok N) (lp := newellaw11_EnergyWithin_lp N) (keys := [12]) (kCons (newellaw11_EnergyWithin_k12 N) kNil) (by kernel_rfl) newellaw11_EnergyWithin_sp_ok newellaw11_EnergyWithin_rs_ok (fun args T kf => Eq.trans (newellaw11_EnergyWithin_def N (Cod.dec api_BandC (lget (toCs (lget args 0)))) (Cod.dec api_TimesC (lget (toCs (lget args 1)))) (Cod.dec newellaw11_PaidC (lget (toCs (lget args 2)))) (fun q0 => kf (lget [.bool q0] 0, []))) (by kernel_rfl : newellaw11_EnergyWithin_run N args T kf = fnM E (newellaw11_works_cal N) (newellaw11_EnergyWithin_lp N) 8 (newellaw11_EnergyWithin_sp.vs args) (newellaw11_EnergyWithin_sp.tab T) 0 (resK newellaw11_EnergyWithin_rs kf)))

theorem within_l12 {N : Nat} {b : api_Band} {t : api_Times} (hn : t.Periods.n ≤ 1000) (p : newellaw11_Paid) (s : api_Span) : ∀ (r i n : Nat) (c1 c2 : Bool) (x y : Arr Int), i + r = t.Periods.n → r < n → x.Is i (fun j => (t.Periods.f j).Flow.Low) → y.Is i (fun j => (t.Periods.f j).Flow.High) →
    ∃ (c1' c2' : Bool) (x' y' : Arr Int), x'.Is t.Periods.n (fun j => (t.Periods.f j).Flow.Low) ∧ y'.Is t.Periods.n (fun j => (t.Periods.f j).Flow.High) ∧ ∀ {R : Type} (k : Bool → Arr Int → Bool → Arr Int → Option R), newellaw11_EnergyWithin_l12 N n (i : Int) b t p s c1 x c2 y k = k c1' x' c2' y' := by
  intro r
  induction r with
  | zero =>
    intro i n c1 c2 x y h1 h2 hx hy
    obtain ⟨n, rfl⟩ : ∃ m, n = m + 1 := ⟨n - 1, by omega⟩
    have : i = t.Periods.n := by omega
    subst this
    refine ⟨c1, c2, x, y, hx, hy, fun {R} k => ?_⟩
    unfold newellaw11_EnergyWithin_l12 newellaw11_EnergyWithin_b12
    simp only [lt_false (Nat.le_refl t.Periods.n), cond_false]
  | succ r ih =>
    intro i n c1 c2 x y h1 h2 hx hy
    obtain ⟨n, rfl⟩ : ∃ m, n = m + 1 := ⟨n - 1, by omega⟩
    have hx' := hx.push_int (z := [SV.int IntKind.i64 0]) (v := (t.Periods.f i).Flow.Low) rfl
    have hy' := hy.push_int (z := [SV.int IntKind.i64 0]) (v := (t.Periods.f i).Flow.High) rfl
    obtain ⟨d1, d2, x', y', h3, h4, h5⟩ := ih (i + 1) n false false _ _ (by omega) (by omega) hx' hy'
    refine ⟨d1, d2, x', y', h3, h4, fun {R} k => ?_⟩
    unfold newellaw11_EnergyWithin_l12 newellaw11_EnergyWithin_b12
    have hr1 : room (x.n + 1) = true := room_of (by rw [hx.len]; omega)
    have hr2 : room (y.n + 1) = true := room_of (by rw [hy.len]; omega)
    simp only [lt_true (show i < t.Periods.n by omega), nat_nonneg, Bool.and_self, cond_true, Int.toNat_natCast, w64_succ (show i < 1000000000000 by omega), hr1, hr2]
    exact h5 k

theorem pw_between {b : api_Band} (h : VB b) {t : api_Times} (ht : VT t) {p fl : Arr Int} (hp : planP b t p) (ha : areP t fl) {j : Nat} (hj : j < t.Periods.n) : pwE b t p false j ≤ pwS b p fl j ∧ pwS b p fl j ≤ pwE b t p true j := by
  have hfl := ha.2 j (by rw [ha.1]; exact hj)
  have hr := flP_range ht hj hfl
  have hq := ht.per j hj
  have f1 := hq.f1
  have f2 := hq.f2
  have f3 := hq.f3
  have hlo := plan_fp h hp hj (f := (t.Periods.f j).Flow.Low) (by omega)
  have hfp := plan_fp h hp hj hr
  unfold flP at hfl
  unfold pwE pwS endF
  cases hu : b.Up with
  | true =>
    simp only [Bool.true_eq_false, if_false, if_true]
    exact ⟨power_up h hu hlo hfl.1, power_up h hu hfp hfl.2⟩
  | false =>
    have hu' : ¬ b.Up = true := by rw [hu]; simp
    simp only [Bool.false_eq_true, if_false, if_true]
    exact ⟨power_down h hu' hfp hfl.2, power_down h hu' hlo hfl.1⟩

theorem energyWithin_true (b : api_Band) (t : api_Times) (p : newellaw11_Paid) (hb : b.wf) (ht : t.wf) (hp : p.wf) : ∃ N, newellaw11_EnergyWithin N b t p (fun q0 => okK (lget [.bool q0] 0, [])) = some () := by
  classical
  refine ⟨NN, ?_⟩
  have hNN : NN = 20000 := rfl
  rw [newellaw11_EnergyWithin_def]
  unfold newellaw11_EnergyWithin_m
  have htr : okK (lget [SV.bool true] 0, []) = some () := rfl
  simp only [Far_eq, FarTimes_eq, works_eq, refPlan_eq (show 20 ≤ NN by decide), htr]
  cases decide ((b.Paces.n : Int) > 10)
  rotate_left
  · rfl
  cases decide ((t.Periods.n : Int) > 20)
  rotate_left
  · rfl
  by_cases h : planV b t p.Plan = 0
  rotate_left
  · have : (planV b t p.Plan != 0) = true := by simpa using h
    simp only [cond_false, this, cond_true]
  obtain ⟨hv, hvt, hpl⟩ := planV_zero.1 h
  have hn2 := hvt.n2
  have hB : boundsV b t p.Plan = ⟨billS t (pwE b t p.Plan false), billS t (pwE b t p.Plan true)⟩ := by unfold boundsV; rw [if_pos h]
  have hle : billS t (pwE b t p.Plan false) ≤ billS t (pwE b t p.Plan true) := billS_mono hvt fun j hj => by
    have hq := hvt.per j hj
    have f1 := hq.f1
    have f2 := hq.f2
    have f3 := hq.f3
    have hlo := plan_fp hv hpl hj (f := (t.Periods.f j).Flow.Low) (by omega)
    unfold pwE endF
    cases hu : b.Up with
    | true => simp only [Bool.true_eq_false, if_false, if_true]; exact power_up hv hu hlo f2
    | false => simp only [Bool.false_eq_true, if_false, if_true]; exact power_down hv (by rw [hu]; simp) hlo f2
  have c1 : decide (billS t (pwE b t p.Plan false) > billS t (pwE b t p.Plan true)) = false := by simp; omega
  obtain ⟨d1, d2, x, y, hx, hy, hxy⟩ := within_l12 (N := NN) (b := b) (t := t) (by omega) p (boundsV b t p.Plan) t.Periods.n 0 NN true true emI emI (by omega) (by omega) Arr.Is.zero Arr.Is.zero
  have hax : areP t x := ⟨hx.len, fun j hj => by
    rw [hx.len] at hj
    have hq := hvt.per j hj
    have f2 := hq.f2
    unfold flP
    rw [hx.get j hj]
    omega⟩
  have hay : areP t y := ⟨hy.len, fun j hj => by
    rw [hy.len] at hj
    have hq := hvt.per j hj
    have f2 := hq.f2
    unfold flP
    rw [hy.get j hj]
    omega⟩
  have ex : billE b t p.Plan x = 0 := billE_zero.2 ⟨hv, hvt, hpl, hax⟩
  have ey : billE b t p.Plan y = 0 := billE_zero.2 ⟨hv, hvt, hpl, hay⟩
  have vx : billV b t p.Plan x = billS t (pwS b p.Plan x) := by unfold billV; rw [if_pos ex]
  have vy : billV b t p.Plan y = billS t (pwS b p.Plan y) := by unfold billV; rw [if_pos ey]
  have hmin : ((if billS t (pwS b p.Plan y) < billS t (pwS b p.Plan x) then billS t (pwS b p.Plan y) else billS t (pwS b p.Plan x)) == billS t (pwE b t p.Plan false)) = true ∧ ((if billS t (pwS b p.Plan y) > billS t (pwS b p.Plan x) then billS t (pwS b p.Plan y) else billS t (pwS b p.Plan x)) == billS t (pwE b t p.Plan true)) = true := by
    cases hu : b.Up with
    | true =>
      have e1 : billS t (pwS b p.Plan x) = billS t (pwE b t p.Plan false) := billS_congr fun j hj => by unfold pwS pwE endF; rw [hx.get j hj, hu, if_neg (by simp)]
      have e2 : billS t (pwS b p.Plan y) = billS t (pwE b t p.Plan true) := billS_congr fun j hj => by unfold pwS pwE endF; rw [hy.get j hj, hu, if_pos rfl]
      rw [e1, e2]
      simp only [beq_iff_eq]
      constructor <;> split <;> omega
    | false =>
      have e1 : billS t (pwS b p.Plan x) = billS t (pwE b t p.Plan true) := billS_congr fun j hj => by unfold pwS pwE endF; rw [hx.get j hj, hu, if_neg (by simp)]
      have e2 : billS t (pwS b p.Plan y) = billS t (pwE b t p.Plan false) := billS_congr fun j hj => by unfold pwS pwE endF; rw [hy.get j hj, hu, if_pos rfl]
      rw [e1, e2]
      simp only [beq_iff_eq]
      constructor <;> split <;> omega
  have tail : newellaw11_EnergyWithin_l12 NN NN (0 : Int) b t p (boundsV b t p.Plan) true (lst intC (0 : Nat) (zeroC [SV.int IntKind.i64 (0 : Int)])) true (lst intC (0 : Nat) (zeroC [SV.int IntKind.i64 (0 : Int)])) (fun r797 r798 r799 r800 =>
         energy_Bill NN b t p.Plan r798 (fun r801 r802 =>
         energy_Bill NN b t p.Plan r800 (fun r803 r804 =>
         bif r802 == (0 : Int) then
          bif r804 == (0 : Int) then
           bif (if r803 < r801 then r803 else r801) == (boundsV b t p.Plan).Low then
            bif (if r803 > r801 then r803 else r801) == (boundsV b t p.Plan).High then some ()
            else okK (lget [SV.bool false] 0, [])
           else okK (lget [SV.bool false] 0, [])
          else okK (lget [SV.bool false] 0, [])
         else okK (lget [SV.bool false] 0, [])))) = some () := by
    refine Eq.trans (hxy _) ?_
    rw [Bill_eq (by decide), Bill_eq (by decide), ex, ey, vx, vy, hB]
    simp only [BEq.rfl, cond_true, hmin.1, hmin.2]
  simp only [cond_false, h, bne_self_eq_false, Bounds_eq (show 20 ≤ NN by decide), Are_eq (show 20 ≤ NN by decide) hvt, Bill_eq (show 20 ≤ NN by decide)] at tail ⊢
  have hc1 : decide ((boundsV b t p.Plan).Low > (boundsV b t p.Plan).High) = false := by rw [hB]; exact c1
  simp only [hc1, cond_false]
  by_cases ha : areP t p.Flows
  · have e1 : billE b t p.Plan p.Flows = 0 := billE_zero.2 ⟨hv, hvt, hpl, ha⟩
    have e2 : billV b t p.Plan p.Flows = billS t (pwS b p.Plan p.Flows) := by unfold billV; rw [if_pos e1]
    have g1 := billS_mono hvt (fun j hj => (pw_between hv hvt hpl ha hj).1)
    have g2 := billS_mono hvt (fun j hj => (pw_between hv hvt hpl ha hj).2)
    have g3 : decide (billS t (pwS b p.Plan p.Flows) < (boundsV b t p.Plan).Low) = false := by rw [hB, decide_eq_false_iff_not]; show ¬ _ < billS t (pwE b t p.Plan false); omega
    have g4 : decide (billS t (pwS b p.Plan p.Flows) > (boundsV b t p.Plan).High) = false := by rw [hB, decide_eq_false_iff_not]; show ¬ _ > billS t (pwE b t p.Plan true); omega
    simp only [ha, decide_true, cond_true, e1, e2, bne_self_eq_false, cond_false, g3, g4]
    exact tail
  · simp only [ha, decide_false, cond_false]
    exact tail
end
end Go.Proofs.Ytfaefhegfcidpaa
