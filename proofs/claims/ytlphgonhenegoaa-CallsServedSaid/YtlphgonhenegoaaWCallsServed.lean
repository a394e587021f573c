import Derived.Test.YtlphgonhenegoaaPC
set_option maxRecDepth 100000
set_option maxHeartbeats 0
set_option linter.unusedSectionVars false
set_option linter.unusedVariables false
set_option linter.unusedSimpArgs false
namespace Go.Proofs.Ytlphgonhenegoaa
open Go.Sx
noncomputable section
def newellaw07_CallsServed_L8 : LoopSp := ⟨⟨[1, 2, 3, 7, 9, 10], ⟨(dr 1 ((rSl api_PressC) :: (rInt .i64) :: (rPtr 0 0) :: (dr 3 ((rRow 1) :: (dr 1 ((rRow 2) :: (rInt .i64) :: (dr 157 []))))))), [(0, eBlkC api_CarC), (1, eRow intC), (2, eRow intC)]⟩, 3⟩, [(Option.none, ⟨[6], ⟨(dr 6 ((rBool) :: (dr 161 []))), []⟩, 0⟩), (some 0, ⟨[1, 2, 3, 7, 9], ⟨(dr 1 ((rSl api_PressC) :: (rInt .i64) :: (rPtr 0 0) :: (dr 3 ((rRow 1) :: (dr 1 ((rRow 2) :: (dr 158 []))))))), [(0, eBlkC api_CarC), (1, eRow intC), (2, eRow intC)]⟩, 3⟩)]⟩
theorem newellaw07_CallsServed_L8_ok : newellaw07_CallsServed_L8.Ok := ⟨⟨(drCons 1 (allCons (rSl_ok api_PressC_ok) (allCons (rInt_ok .i64) (allCons (rPtr_ok 0 0) (drCons 3 (allCons (rRow_ok 1) (drCons 1 (allCons (rRow_ok 2) (allCons (rInt_ok .i64) (drCons 157 allNil)))))))))), (eCons (eBlkC_ok api_CarC_ok api_CarC_len) (eCons (eRow_ok intC_ok) (eCons (eRow_ok intC_ok) eNil)))⟩, (xCons ⟨(drCons 6 (allCons rBool_ok (drCons 161 allNil))), eNil⟩ (xCons ⟨(drCons 1 (allCons (rSl_ok api_PressC_ok) (allCons (rInt_ok .i64) (allCons (rPtr_ok 0 0) (drCons 3 (allCons (rRow_ok 1) (drCons 1 (allCons (rRow_ok 2) (drCons 158 allNil))))))))), (eCons (eBlkC_ok api_CarC_ok api_CarC_len) (eCons (eRow_ok intC_ok) (eCons (eRow_ok intC_ok) eNil)))⟩ xNil))⟩
def newellaw07_CallsServed_h8 (v845 : Arr api_Press) (v846 : Int) (v847 : Int) (v848 : api_Car) (v849 : Bool) (v850 : Arr Int) (v851 : Bool) (v852 : Arr Int) : St := ⟨(un 1 ((slC api_PressC v845) :: (.int .i64 v846) :: (.ptr 0 0) :: (un 3 ((.row 1) :: (un 1 ((.row 2) :: (.int .i64 v847) :: (un 157 []))))))), [(0, .blk (Cod.enc api_CarC v848)), (1, rowE intC v849 v850), (2, rowE intC v851 v852)], 3⟩
def newellaw07_CallsServed_x8_r (q0 : Bool) : St := ⟨(un 6 ((.bool q0) :: (un 161 []))), [], 0⟩
def newellaw07_CallsServed_x8_0 (v845 : Arr api_Press) (v846 : Int) (v848 : api_Car) (v849 : Bool) (v850 : Arr Int) (q5 : Bool) (q6 : Arr Int) : St := ⟨(un 1 ((slC api_PressC v845) :: (.int .i64 v846) :: (.ptr 0 0) :: (un 3 ((.row 1) :: (un 1 ((.row 2) :: (un 158 []))))))), [(0, .blk (Cod.enc api_CarC v848)), (1, rowE intC v849 v850), (2, rowE intC q5 q6)], 3⟩
def newellaw07_CallsServed_b8 {R : Type} (N : Nat) (rc : Arr api_Press → Int → Int → api_Car → Bool → Arr Int → Bool → Arr Int → Option R) (v845 : Arr api_Press) (v846 : Int) (v847 : Int) (v848 : api_Car) (v849 : Bool) (v850 : Arr Int) (v851 : Bool) (v852 : Arr Int) (kr : Bool → Option R) (k0 : Bool → Arr Int → Option R) : Option R :=
  bif decide (v847 ≤ api_Car.High v848) then
   calls_Worst N v848 v847 (fun r853 r854 =>
   bif !(r854 == (0 : Int)) == decide (v847 ≥ api_Car.Low v848) then
    kr false
   else
    bif room (Arr.n v852 + (1 : Nat)) then
     rc v845 v846 (w64 (v847 + (1 : Int))) v848 v849 v850 false (lst intC (Arr.n v852 + (1 : Nat)) (catC (Arr.n v852) (Cod.cell intC (Arr.f v852)) (litC [SV.int IntKind.i64 (0 : Int)] [[SV.int IntKind.i64 r853]])))
    else
     Option.none)
  else
   k0 v851 v852
def newellaw07_CallsServed_l8 {R : Type} (N : Nat) : Nat → Arr api_Press → Int → Int → api_Car → Bool → Arr Int → Bool → Arr Int → (Bool → Option R) → (Bool → Arr Int → Option R) → Option R
  | 0, _, _, _, _, _, _, _, _, _, _ => Option.none
  | n + 1, v845, v846, v847, v848, v849, v850, v851, v852, kr, k0 => newellaw07_CallsServed_b8 N (fun v845 v846 v847 v848 v849 v850 v851 v852 => newellaw07_CallsServed_l8 N n v845 v846 v847 v848 v849 v850 v851 v852 kr k0) v845 v846 v847 v848 v849 v850 v851 v852 kr k0
def newellaw07_CallsServed_L15 : LoopSp := ⟨⟨[1, 2, 3, 7, 9, 13], ⟨(dr 1 ((rSl api_PressC) :: (rInt .i64) :: (rPtr 0 0) :: (dr 3 ((rRow 1) :: (dr 1 ((rRow 2) :: (dr 3 ((rInt .i64) :: (dr 154 []))))))))), [(0, eBlkC api_CarC), (1, eRow intC), (2, eRow intC)]⟩, 3⟩, [(Option.none, ⟨[6], ⟨(dr 6 ((rBool) :: (dr 161 []))), []⟩, 0⟩), (some 2, ⟨[2, 3, 9], ⟨(dr 2 ((rInt .i64) :: (rPtr 0 0) :: (dr 5 ((rRow 1) :: (dr 158 []))))), [(0, eBlkC api_CarC), (1, eRow intC)]⟩, 2⟩)]⟩
theorem newellaw07_CallsServed_L15_ok : newellaw07_CallsServed_L15.Ok := ⟨⟨(drCons 1 (allCons (rSl_ok api_PressC_ok) (allCons (rInt_ok .i64) (allCons (rPtr_ok 0 0) (drCons 3 (allCons (rRow_ok 1) (drCons 1 (allCons (rRow_ok 2) (drCons 3 (allCons (rInt_ok .i64) (drCons 154 allNil))))))))))), (eCons (eBlkC_ok api_CarC_ok api_CarC_len) (eCons (eRow_ok intC_ok) (eCons (eRow_ok intC_ok) eNil)))⟩, (xCons ⟨(drCons 6 (allCons rBool_ok (drCons 161 allNil))), eNil⟩ (xCons ⟨(drCons 2 (allCons (rInt_ok .i64) (allCons (rPtr_ok 0 0) (drCons 5 (allCons (rRow_ok 1) (drCons 158 allNil)))))), (eCons (eBlkC_ok api_CarC_ok api_CarC_len) (eCons (eRow_ok intC_ok) eNil))⟩ xNil))⟩
def newellaw07_CallsServed_h15 (v858 : Arr api_Press) (v859 : Int) (v860 : Int) (v861 : api_Car) (v862 : Bool) (v863 : Arr Int) (v864 : Bool) (v865 : Arr Int) : St := ⟨(un 1 ((slC api_PressC v858) :: (.int .i64 v859) :: (.ptr 0 0) :: (un 3 ((.row 1) :: (un 1 ((.row 2) :: (un 3 ((.int .i64 v860) :: (un 154 []))))))))), [(0, .blk (Cod.enc api_CarC v861)), (1, rowE intC v862 v863), (2, rowE intC v864 v865)], 3⟩
def newellaw07_CallsServed_x15_r (q0 : Bool) : St := ⟨(un 6 ((.bool q0) :: (un 161 []))), [], 0⟩
def newellaw07_CallsServed_x15_2 (v859 : Int) (v861 : api_Car) (v864 : Bool) (v865 : Arr Int) : St := ⟨(un 2 ((.int .i64 v859) :: (.ptr 0 0) :: (un 5 ((.row 1) :: (un 158 []))))), [(0, .blk (Cod.enc api_CarC v861)), (1, rowE intC v864 v865)], 2⟩
def newellaw07_CallsServed_b15 {R : Type} (N : Nat) (rc : Arr api_Press → Int → Int → api_Car → Bool → Arr Int → Bool → Arr Int → Option R) (v858 : Arr api_Press) (v859 : Int) (v860 : Int) (v861 : api_Car) (v862 : Bool) (v863 : Arr Int) (v864 : Bool) (v865 : Arr Int) (kr : Bool → Option R) (k2 : Unit → Option R) : Option R :=
  bif decide (v860 < (↑(Arr.n v858) : Int)) then
   bif decide ((0 : Int) ≤ v860) && decide (v860 < (↑(Arr.n v863) : Int)) then
    bif decide (Arr.f v863 (Int.toNat v860) < (0 : Int)) then
     kr false
    else
     bif decide ((0 : Int) ≤ v860) && decide (v860 < (↑(Arr.n v863) : Int)) then
      bif decide ((0 : Int) ≤ v860) && decide (v860 < (↑(Arr.n v858) : Int)) then
       bif decide ((0 : Int) ≤ api_Press.Floor (Arr.f v858 (Int.toNat v860))) && decide (api_Press.Floor (Arr.f v858 (Int.toNat v860)) < (↑(Arr.n v865) : Int)) then
        bif decide (Arr.f v863 (Int.toNat v860) > Arr.f v865 (Int.toNat (api_Press.Floor (Arr.f v858 (Int.toNat v860))))) then
         kr false
        else
         rc v858 v859 (w64 (v860 + (1 : Int))) v861 v862 v863 v864 v865
       else
        Option.none
      else
       Option.none
     else
      Option.none
   else
    Option.none
  else
   k2 ()
def newellaw07_CallsServed_l15 {R : Type} (N : Nat) : Nat → Arr api_Press → Int → Int → api_Car → Bool → Arr Int → Bool → Arr Int → (Bool → Option R) → (Unit → Option R) → Option R
  | 0, _, _, _, _, _, _, _, _, _, _ => Option.none
  | n + 1, v858, v859, v860, v861, v862, v863, v864, v865, kr, k2 => newellaw07_CallsServed_b15 N (fun v858 v859 v860 v861 v862 v863 v864 v865 => newellaw07_CallsServed_l15 N n v858 v859 v860 v861 v862 v863 v864 v865 kr k2) v858 v859 v860 v861 v862 v863 v864 v865 kr k2
def newellaw07_CallsServed_L27 : LoopSp := ⟨⟨[2, 7, 8, 9, 14, 16, 17], ⟨(dr 2 ((rInt .i64) :: (dr 4 ((rRow 0) :: (rInt .i64) :: (rRow 1) :: (dr 4 ((rRow 2) :: (dr 1 ((rBool) :: (rInt .i64) :: (dr 150 []))))))))), [(0, eRow intC), (1, eRow intC), (2, eRow api_PressC)]⟩, 3⟩, [(some 4, ⟨[8, 16], ⟨(dr 8 ((rInt .i64) :: (dr 7 ((rBool) :: (dr 151 []))))), []⟩, 0⟩)]⟩
theorem newellaw07_CallsServed_L27_ok : newellaw07_CallsServed_L27.Ok := ⟨⟨(drCons 2 (allCons (rInt_ok .i64) (drCons 4 (allCons (rRow_ok 0) (allCons (rInt_ok .i64) (allCons (rRow_ok 1) (drCons 4 (allCons (rRow_ok 2) (drCons 1 (allCons rBool_ok (allCons (rInt_ok .i64) (drCons 150 allNil)))))))))))), (eCons (eRow_ok intC_ok) (eCons (eRow_ok intC_ok) (eCons (eRow_ok api_PressC_ok) eNil)))⟩, (xCons ⟨(drCons 8 (allCons (rInt_ok .i64) (drCons 7 (allCons rBool_ok (drCons 151 allNil))))), eNil⟩ xNil)⟩
def newellaw07_CallsServed_h27 (v876 : Int) (v877 : Int) (v878 : Bool) (v879 : Int) (v880 : Bool) (v881 : Arr Int) (v882 : Bool) (v883 : Arr Int) (v884 : Bool) (v885 : Arr api_Press) : St := ⟨(un 2 ((.int .i64 v876) :: (un 4 ((.row 0) :: (.int .i64 v877) :: (.row 1) :: (un 4 ((.row 2) :: (un 1 ((.bool v878) :: (.int .i64 v879) :: (un 150 []))))))))), [(0, rowE intC v880 v881), (1, rowE intC v882 v883), (2, rowE api_PressC v884 v885)], 3⟩
def newellaw07_CallsServed_x27_4 (v877 : Int) (q1 : Bool) : St := ⟨(un 8 ((.int .i64 v877) :: (un 7 ((.bool q1) :: (un 151 []))))), [], 0⟩
def newellaw07_CallsServed_b27 {R : Type} (N : Nat) (rc : Int → Int → Bool → Int → Bool → Arr Int → Bool → Arr Int → Bool → Arr api_Press → Option R) (v876 : Int) (v877 : Int) (v878 : Bool) (v879 : Int) (v880 : Bool) (v881 : Arr Int) (v882 : Bool) (v883 : Arr Int) (v884 : Bool) (v885 : Arr api_Press) (k4 : Bool → Option R) : Option R :=
  bif decide (v879 < (↑(Arr.n v881) : Int)) then
   bif decide (v879 < (↑(Arr.n v885) : Int)) then
    bif v878 then
     rc v876 v877 true (w64 (v879 + (1 : Int))) v880 v881 v882 v883 v884 v885
    else
     bif decide ((0 : Int) ≤ v879) && decide (v879 < (↑(Arr.n v885) : Int)) then
      bif api_Press.Floor (Arr.f v885 (Int.toNat v879)) == v876 then
       bif decide ((0 : Int) ≤ v879) && decide (v879 < (↑(Arr.n v881) : Int)) then
        bif decide ((0 : Int) ≤ v876) && decide (v876 < (↑(Arr.n v883) : Int)) then
         rc v876 v877 (Arr.f v881 (Int.toNat v879) == Arr.f v883 (Int.toNat v876)) (w64 (v879 + (1 : Int))) v880 v881 v882 v883 v884 v885
        else
         Option.none
       else
        Option.none
      else
       rc v876 v877 false (w64 (v879 + (1 : Int))) v880 v881 v882 v883 v884 v885
     else
      Option.none
   else
    k4 v878
  else
   k4 v878
def newellaw07_CallsServed_l27 {R : Type} (N : Nat) : Nat → Int → Int → Bool → Int → Bool → Arr Int → Bool → Arr Int → Bool → Arr api_Press → (Bool → Option R) → Option R
  | 0, _, _, _, _, _, _, _, _, _, _, _ => Option.none
  | n + 1, v876, v877, v878, v879, v880, v881, v882, v883, v884, v885, k4 => newellaw07_CallsServed_b27 N (fun v876 v877 v878 v879 v880 v881 v882 v883 v884 v885 => newellaw07_CallsServed_l27 N n v876 v877 v878 v879 v880 v881 v882 v883 v884 v885 k4) v876 v877 v878 v879 v880 v881 v882 v883 v884 v885 k4
def newellaw07_CallsServed_m {R : Type} (N : Nat) (a834 : api_Car) (a835 : Arr api_Press) (a836 : Int) (k : Bool → Option R) : Option R :=
  newellaw07_Tall N a834 (fun r837 =>
  bif r837 then
   newellaw07_works N  (fun r838 =>
   k r838)
  else
   bif decide ((↑(Arr.n a835) : Int) > (40 : Int)) then
    newellaw07_works N  (fun r839 =>
    k r839)
   else
    newelref07_Check N a834 a835 (fun r840 =>
    bif r840 != (0 : Int) then
     newellaw07_works N  (fun r841 =>
     k r841)
    else
     calls_Waits N a834 a835 (fun r842 r843 r844 =>
     bif r842 != (0 : Int) then
      k false
     else
      bif (↑(Arr.n r844) : Int) != (↑(Arr.n a835) : Int) then
       k false
      else
       newellaw07_CallsServed_l8 N N a835 a836 (0 : Int) a834 r843 r844 true (lst intC (0 : Nat) (zeroC [SV.int IntKind.i64 (0 : Int)])) (fun r855 =>
        k r855) (fun r856 r857 =>
        newellaw07_CallsServed_l15 N N a835 a836 (0 : Int) a834 r843 r844 r856 r857 (fun r866 =>
         k r866) (fun (_ : Unit) =>
         bif decide (a836 < api_Car.Low a834) then
          newellaw07_works N  (fun r867 =>
          k r867)
         else
          bif decide (a836 > api_Car.High a834) then
           newellaw07_works N  (fun r868 =>
           k r868)
          else
           calls_Witness N a834 a836 (fun r869 r870 r871 =>
           bif r869 != (0 : Int) then
            k false
           else
            newelref07_Check N a834 r871 (fun r872 =>
            bif r872 != (0 : Int) then
             k false
            else
             calls_Waits N a834 r871 (fun r873 r874 r875 =>
             newellaw07_CallsServed_l27 N N a836 r873 false (0 : Int) r874 r875 r856 r857 r870 r871 (fun r886 =>
              bif r873 == (0 : Int) then
               bif r886 then
                newellaw07_works N  (fun r887 =>
                k r887)
               else
                k false
              else
               k false)))))))))
noncomputable def newellaw07_CallsServed {R : Type} : Nat → api_Car → Arr api_Press → Int → (Bool → Option R) → Option R := lock (@newellaw07_CallsServed_m R)
theorem newellaw07_CallsServed_def {R : Type} (N : Nat) (a834 : api_Car) (a835 : Arr api_Press) (a836 : Int) (k : Bool → Option R) : newellaw07_CallsServed N a834 a835 a836 k = newellaw07_CallsServed_m N a834 a835 a836 k := by unfold newellaw07_CallsServed; rw [lock_eq]
def newellaw07_CallsServed_sp : Sp := ⟨[rAgg api_CarC, rSl api_PressC, rInt .i64], []⟩
theorem newellaw07_CallsServed_sp_ok : newellaw07_CallsServed_sp.Ok := ⟨(allCons (rAgg_ok api_CarC_ok api_CarC_len) (allCons (rSl_ok api_PressC_ok) (allCons (rInt_ok .i64) allNil))), eNil⟩
def newellaw07_CallsServed_rs : Sp := ⟨[rBool], []⟩
theorem newellaw07_CallsServed_rs_ok : newellaw07_CallsServed_rs.Ok := ⟨(allCons rBool_ok allNil), eNil⟩
def newellaw07_CallsServed_run {R : Type} (N : Nat) (args : List SV) (T : Tab) (kf : SV × Tab → Option R) : Option R :=
  newellaw07_CallsServed_m N (Cod.dec api_CarC (lget (toCs (lget args 0)))) (lstC api_PressC (lget args 1)) (toI (lget args 2)) (fun q0 => kf (lget [.bool q0] 0, []))
def newellaw07_CallsServed_d27 {R : Type} (N : Nat) (S0 : St) (k : Exit → St → Option R) : Option R :=
  newellaw07_CallsServed_l27 N N (toI (lget S0.tmps 2)) (toI (lget S0.tmps 8)) (toB (lget S0.tmps 16)) (toI (lget S0.tmps 17)) (entNl (entAt S0.tab 0)) (lst intC (entN (entAt S0.tab 0)) (entC (entAt S0.tab 0))) (entNl (entAt S0.tab 1)) (lst intC (entN (entAt S0.tab 1)) (entC (entAt S0.tab 1))) (entNl (entAt S0.tab 2)) (lst api_PressC (entN (entAt S0.tab 2)) (entC (entAt S0.tab 2))) (fun q1 => k (.exit 4) (newellaw07_CallsServed_x27_4 (toI (lget S0.tmps 8)) q1))
def newellaw07_CallsServed_d15 {R : Type} (N : Nat) (S0 : St) (k : Exit → St → Option R) : Option R :=
  newellaw07_CallsServed_l15 N N (lstC api_PressC (lget S0.tmps 1)) (toI (lget S0.tmps 2)) (toI (lget S0.tmps 13)) (Cod.dec api_CarC (lget (entCs (entAt S0.tab 0)))) (entNl (entAt S0.tab 1)) (lst intC (entN (entAt S0.tab 1)) (entC (entAt S0.tab 1))) (entNl (entAt S0.tab 2)) (lst intC (entN (entAt S0.tab 2)) (entC (entAt S0.tab 2))) (fun q0 => k .ret (newellaw07_CallsServed_x15_r q0)) (fun (_ : Unit) => k (.exit 2) (newellaw07_CallsServed_x15_2 (toI (lget S0.tmps 2)) (Cod.dec api_CarC (lget (entCs (entAt S0.tab 0)))) (entNl (entAt S0.tab 2)) (lst intC (entN (entAt S0.tab 2)) (entC (entAt S0.tab 2)))))
def newellaw07_CallsServed_d8 {R : Type} (N : Nat) (S0 : St) (k : Exit → St → Option R) : Option R :=
  newellaw07_CallsServed_l8 N N (lstC api_PressC (lget S0.tmps 1)) (toI (lget S0.tmps 2)) (toI (lget S0.tmps 10)) (Cod.dec api_CarC (lget (entCs (entAt S0.tab 0)))) (entNl (entAt S0.tab 1)) (lst intC (entN (entAt S0.tab 1)) (entC (entAt S0.tab 1))) (entNl (entAt S0.tab 2)) (lst intC (entN (entAt S0.tab 2)) (entC (entAt S0.tab 2))) (fun q0 => k .ret (newellaw07_CallsServed_x8_r q0)) (fun q5 q6 => k (.exit 0) (newellaw07_CallsServed_x8_0 (lstC api_PressC (lget S0.tmps 1)) (toI (lget S0.tmps 2)) (Cod.dec api_CarC (lget (entCs (entAt S0.tab 0)))) (entNl (entAt S0.tab 1)) (lst intC (entN (entAt S0.tab 1)) (entC (entAt S0.tab 1))) q5 q6))
def newellaw07_CallsServed_lp {R : Type} (N : Nat) : Lp R := fun body S k => bif (Go.Sx.keyOf body).getD 0 == 8 then (newellaw07_CallsServed_L8.head.raw 0 S (fun S0 => newellaw07_CallsServed_d8 N S0 k)) else bif (Go.Sx.keyOf body).getD 0 == 15 then (newellaw07_CallsServed_L15.head.raw 0 S (fun S0 => newellaw07_CallsServed_d15 N S0 k)) else bif (Go.Sx.keyOf body).getD 0 == 27 then (newellaw07_CallsServed_L27.head.raw 0 S (fun S0 => newellaw07_CallsServed_d27 N S0 k)) else Option.none
theorem newellaw07_CallsServed_l8_eq {R : Type} (N : Nat) (k : Exit → St → Option R) (n : Nat) : ∀ (v0 : Arr api_Press) (v1 : Int) (v2 : Int) (v3 : api_Car) (v4 : Bool) (v5 : Arr Int) (v6 : Bool) (v7 : Arr Int), loopM E.Θ (calls_waits_v2_cal N) (newellaw07_CallsServed_lp N) (noJn) 0 newellaw07_CallsServed_L8 (bodyAt E 7 8) n (newellaw07_CallsServed_h8 v0 v1 v2 v3 v4 v5 v6 v7) k = newellaw07_CallsServed_l8 N n v0 v1 v2 v3 v4 v5 v6 v7 (fun q0 => k .ret (newellaw07_CallsServed_x8_r q0)) (fun q5 q6 => k (.exit 0) (newellaw07_CallsServed_x8_0 v0 v1 v3 v4 v5 q5 q6)) := by
  induction n with
  | zero => intro v0 v1 v2 v3 v4 v5 v6 v7; rfl
  | succ n ih =>
    intro v0 v1 v2 v3 v4 v5 v6 v7
    refine Eq.trans (b := newellaw07_CallsServed_b8 N (fun v0 v1 v2 v3 v4 v5 v6 v7 => loopM E.Θ (calls_waits_v2_cal N) (newellaw07_CallsServed_lp N) (noJn) 0 newellaw07_CallsServed_L8 (bodyAt E 7 8) n (newellaw07_CallsServed_h8 v0 v1 v2 v3 v4 v5 v6 v7) k) v0 v1 v2 v3 v4 v5 v6 v7 (fun q0 => k .ret (newellaw07_CallsServed_x8_r q0)) (fun q5 q6 => k (.exit 0) (newellaw07_CallsServed_x8_0 v0 v1 v3 v4 v5 q5 q6))) (by kernel_rfl) ?_
    have h : (fun (v0 : Arr api_Press) (v1 : Int) (v2 : Int) (v3 : api_Car) (v4 : Bool) (v5 : Arr Int) (v6 : Bool) (v7 : Arr Int) => loopM E.Θ (calls_waits_v2_cal N) (newellaw07_CallsServed_lp N) (noJn) 0 newellaw07_CallsServed_L8 (bodyAt E 7 8) n (newellaw07_CallsServed_h8 v0 v1 v2 v3 v4 v5 v6 v7) k) = (fun (v0 : Arr api_Press) (v1 : Int) (v2 : Int) (v3 : api_Car) (v4 : Bool) (v5 : Arr Int) (v6 : Bool) (v7 : Arr Int) => newellaw07_CallsServed_l8 N n v0 v1 v2 v3 v4 v5 v6 v7 (fun q0 => k .ret (newellaw07_CallsServed_x8_r q0)) (fun q5 q6 => k (.exit 0) (newellaw07_CallsServed_x8_0 v0 v1 v3 v4 v5 q5 q6))) := funext fun v0 => funext fun v1 => funext fun v2 => funext fun v3 => funext fun v4 => funext fun v5 => funext fun v6 => funext fun v7 => ih v0 v1 v2 v3 v4 v5 v6 v7
    rw [h]
    rfl
theorem newellaw07_CallsServed_l15_eq {R : Type} (N : Nat) (k : Exit → St → Option R) (n : Nat) : ∀ (v0 : Arr api_Press) (v1 : Int) (v2 : Int) (v3 : api_Car) (v4 : Bool) (v5 : Arr Int) (v6 : Bool) (v7 : Arr Int), loopM E.Θ (calls_waits_v2_cal N) (newellaw07_CallsServed_lp N) (noJn) 0 newellaw07_CallsServed_L15 (bodyAt E 7 15) n (newellaw07_CallsServed_h15 v0 v1 v2 v3 v4 v5 v6 v7) k = newellaw07_CallsServed_l15 N n v0 v1 v2 v3 v4 v5 v6 v7 (fun q0 => k .ret (newellaw07_CallsServed_x15_r q0)) (fun (_ : Unit) => k (.exit 2) (newellaw07_CallsServed_x15_2 v1 v3 v6 v7)) := by
  induction n with
  | zero => intro v0 v1 v2 v3 v4 v5 v6 v7; rfl
  | succ n ih =>
    intro v0 v1 v2 v3 v4 v5 v6 v7
    refine Eq.trans (b := newellaw07_CallsServed_b15 N (fun v0 v1 v2 v3 v4 v5 v6 v7 => loopM E.Θ (calls_waits_v2_cal N) (newellaw07_CallsServed_lp N) (noJn) 0 newellaw07_CallsServed_L15 (bodyAt E 7 15) n (newellaw07_CallsServed_h15 v0 v1 v2 v3 v4 v5 v6 v7) k) v0 v1 v2 v3 v4 v5 v6 v7 (fun q0 => k .ret (newellaw07_CallsServed_x15_r q0)) (fun (_ : Unit) => k (.exit 2) (newellaw07_CallsServed_x15_2 v1 v3 v6 v7))) (by kernel_rfl) ?_
    have h : (fun (v0 : Arr api_Press) (v1 : Int) (v2 : Int) (v3 : api_Car) (v4 : Bool) (v5 : Arr Int) (v6 : Bool) (v7 : Arr Int) => loopM E.Θ (calls_waits_v2_cal N) (newellaw07_CallsServed_lp N) (noJn) 0 newellaw07_CallsServed_L15 (bodyAt E 7 15) n (newellaw07_CallsServed_h15 v0 v1 v2 v3 v4 v5 v6 v7) k) = (fun (v0 : Arr api_Press) (v1 : Int) (v2 : Int) (v3 : api_Car) (v4 : Bool) (v5 : Arr Int) (v6 : Bool) (v7 : Arr Int) => newellaw07_CallsServed_l15 N n v0 v1 v2 v3 v4 v5 v6 v7 (fun q0 => k .ret (newellaw07_CallsServed_x15_r q0)) (fun (_ : Unit) => k (.exit 2) (newellaw07_CallsServed_x15_2 v1 v3 v6 v7))) := funext fun v0 => funext fun v1 => funext fun v2 => funext fun v3 => funext fun v4 => funext fun v5 => funext fun v6 => funext fun v7 => ih v0 v1 v2 v3 v4 v5 v6 v7
    rw [h]
    rfl
theorem newellaw07_CallsServed_l27_eq {R : Type} (N : Nat) (k : Exit → St → Option R) (n : Nat) : ∀ (v0 : Int) (v1 : Int) (v2 : Bool) (v3 : Int) (v4 : Bool) (v5 : Arr Int) (v6 : Bool) (v7 : Arr Int) (v8 : Bool) (v9 : Arr api_Press), loopM E.Θ (calls_waits_v2_cal N) (newellaw07_CallsServed_lp N) (noJn) 0 newellaw07_CallsServed_L27 (bodyAt E 7 27) n (newellaw07_CallsServed_h27 v0 v1 v2 v3 v4 v5 v6 v7 v8 v9) k = newellaw07_CallsServed_l27 N n v0 v1 v2 v3 v4 v5 v6 v7 v8 v9 (fun q1 => k (.exit 4) (newellaw07_CallsServed_x27_4 v1 q1)) := by
  induction n with
  | zero => intro v0 v1 v2 v3 v4 v5 v6 v7 v8 v9; rfl
  | succ n ih =>
    intro v0 v1 v2 v3 v4 v5 v6 v7 v8 v9
    refine Eq.trans (b := newellaw07_CallsServed_b27 N (fun v0 v1 v2 v3 v4 v5 v6 v7 v8 v9 => loopM E.Θ (calls_waits_v2_cal N) (newellaw07_CallsServed_lp N) (noJn) 0 newellaw07_CallsServed_L27 (bodyAt E 7 27) n (newellaw07_CallsServed_h27 v0 v1 v2 v3 v4 v5 v6 v7 v8 v9) k) v0 v1 v2 v3 v4 v5 v6 v7 v8 v9 (fun q1 => k (.exit 4) (newellaw07_CallsServed_x27_4 v1 q1))) (by kernel_rfl) ?_
    have h : (fun (v0 : Int) (v1 : Int) (v2 : Bool) (v3 : Int) (v4 : Bool) (v5 : Arr Int) (v6 : Bool) (v7 : Arr Int) (v8 : Bool) (v9 : Arr api_Press) => loopM E.Θ (calls_waits_v2_cal N) (newellaw07_CallsServed_lp N) (noJn) 0 newellaw07_CallsServed_L27 (bodyAt E 7 27) n (newellaw07_CallsServed_h27 v0 v1 v2 v3 v4 v5 v6 v7 v8 v9) k) = (fun (v0 : Int) (v1 : Int) (v2 : Bool) (v3 : Int) (v4 : Bool) (v5 : Arr Int) (v6 : Bool) (v7 : Arr Int) (v8 : Bool) (v9 : Arr api_Press) => newellaw07_CallsServed_l27 N n v0 v1 v2 v3 v4 v5 v6 v7 v8 v9 (fun q1 => k (.exit 4) (newellaw07_CallsServed_x27_4 v1 q1))) := funext fun v0 => funext fun v1 => funext fun v2 => funext fun v3 => funext fun v4 => funext fun v5 => funext fun v6 => funext fun v7 => funext fun v8 => funext fun v9 => ih v0 v1 v2 v3 v4 v5 v6 v7 v8 v9
    rw [h]
    rfl
theorem newellaw07_CallsServed_k27 {R : Type} (N : Nat) : LpKey (R := R) E 7 0 (newellaw07_CallsServed_lp N) 27 :=
  lpKey_of hE (calls_waits_v2_cal_ok N) (lp := newellaw07_CallsServed_lp N) (jn := noJn) newellaw07_CallsServed_L27_ok [] kNil (by kernel_rfl) [] jNil (by kernel_rfl) N fun S k =>
    Eq.trans (b := newellaw07_CallsServed_L27.head.raw 0 S (fun S0 => newellaw07_CallsServed_d27 N S0 k)) (by kernel_rfl) (congrArg (newellaw07_CallsServed_L27.head.raw 0 S) (funext fun S0 => Eq.trans (newellaw07_CallsServed_l27_eq N k N (toI (lget S0.tmps 2)) (toI (lget S0.tmps 8)) (toB (lget S0.tmps 16)) (toI (lget S0.tmps 17)) (entNl (entAt S0.tab 0)) (lst intC (entN (entAt S0.tab 0)) (entC (entAt S0.tab 0))) (entNl (entAt S0.tab 1)) (lst intC (entN (entAt S0.tab 1)) (entC (entAt S0.tab 1))) (entNl (entAt S0.tab 2)) (lst api_PressC (entN (entAt S0.tab 2)) (entC (entAt S0.tab 2)))).symm (by kernel_rfl)))
theorem newellaw07_CallsServed_k15 {R : Type} (N : Nat) : LpKey (R := R) E 7 0 (newellaw07_CallsServed_lp N) 15 :=
  lpKey_of hE (calls_waits_v2_cal_ok N) (lp := newellaw07_CallsServed_lp N) (jn := noJn) newellaw07_CallsServed_L15_ok [] kNil (by kernel_rfl) [] jNil (by kernel_rfl) N fun S k =>
    Eq.trans (b := newellaw07_CallsServed_L15.head.raw 0 S (fun S0 => newellaw07_CallsServed_d15 N S0 k)) (by kernel_rfl) (congrArg (newellaw07_CallsServed_L15.head.raw 0 S) (funext fun S0 => Eq.trans (newellaw07_CallsServed_l15_eq N k N (lstC api_PressC (lget S0.tmps 1)) (toI (lget S0.tmps 2)) (toI (lget S0.tmps 13)) (Cod.dec api_CarC (lget (entCs (entAt S0.tab 0)))) (entNl (entAt S0.tab 1)) (lst intC (entN (entAt S0.tab 1)) (entC (entAt S0.tab 1))) (entNl (entAt S0.tab 2)) (lst intC (entN (entAt S0.tab 2)) (entC (entAt S0.tab 2)))).symm (by kernel_rfl)))
theorem newellaw07_CallsServed_k8 {R : Type} (N : Nat) : LpKey (R := R) E 7 0 (newellaw07_CallsServed_lp N) 8 :=
  lpKey_of hE (calls_waits_v2_cal_ok N) (lp := newellaw07_CallsServed_lp N) (jn := noJn) newellaw07_CallsServed_L8_ok [] kNil (by kernel_rfl) [] jNil (by kernel_rfl) N fun S k =>
    Eq.trans (b := newellaw07_CallsServed_L8.head.raw 0 S (fun S0 => newellaw07_CallsServed_d8 N S0 k)) (by kernel_rfl) (congrArg (newellaw07_CallsServed_L8.head.raw 0 S) (funext fun S0 => Eq.trans (newellaw07_CallsServed_l8_eq N k N (lstC api_PressC (lget S0.tmps 1)) (toI (lget S0.tmps 2)) (toI (lget S0.tmps 10)) (Cod.dec api_CarC (lget (entCs (entAt S0.tab 0)))) (entNl (entAt S0.tab 1)) (lst intC (entN (entAt S0.tab 1)) (entC (entAt S0.tab 1))) (entNl (entAt S0.tab 2)) (lst intC (entN (entAt S0.tab 2)) (entC (entAt S0.tab 2)))).symm (by kernel_rfl)))
noncomputable def newellaw07_CallsServed_go {R : Type} (N : Nat) (args : List SV) (T : Tab) (kf : SV × Tab → Option R) : Option R :=
  newellaw07_CallsServed N (Cod.dec api_CarC (lget (toCs (lget args 0)))) (lstC api_PressC (lget args 1)) (toI (lget args 2)) (fun q0 => kf (lget [.bool q0] 0, []))
noncomputable def newellaw07_CallsServed_cal {R : Type} (N : Nat) : Cal R := callM (calls_waits_v2_cal N) 7 0 newellaw07_CallsServed_sp (newellaw07_CallsServed_go N)
theorem newellaw07_CallsServed_cal_ok {R : Type} (N : Nat) : CalOk E.P (newellaw07_CallsServed_cal (R := R) N) :=
  callM_ok hE (calls_waits_v2_cal_ok N) (lp := newellaw07_CallsServed_lp N) (jn := noJn) (keys := [8, 15, 27]) (kCons (newellaw07_CallsServed_k8 N) (kCons (newellaw07_CallsServed_k15 N) (kCons (newellaw07_CallsServed_k27 N) kNil))) (by kernel_rfl) (js := []) jNil (by kernel_rfl) newellaw07_CallsServed_sp_ok newellaw07_CallsServed_rs_ok (fun args T kf => Eq.trans (newellaw07_CallsServed_def N (Cod.dec api_CarC (lget (toCs (lget args 0)))) (lstC api_PressC (lget args 1)) (toI (lget args 2)) (fun q0 => kf (lget [.bool q0] 0, []))) (by kernel_rfl : newellaw07_CallsServed_run N args T kf = fnM E (calls_waits_v2_cal N) (newellaw07_CallsServed_lp N) (noJn) 7 (newellaw07_CallsServed_sp.vs args) (newellaw07_CallsServed_sp.tab T) 0 (resK newellaw07_CallsServed_rs kf)))
def wrsN (c : Cn) (f : Nat) : Int := if c.L ≤ f then (worstN c f : Int) else 0
theorem served_l8 (N : Nat) {c : Cn} (hc : c.Ok) (l : Arr api_Press) (fl : Int) (b1 : Bool) (v : Arr Int) : ∀ (q i n : Nat) (b : Bool) (a : Arr Int), i + q = c.H + 1 → q < n → a.Is i (wrsN c) →
    ∃ (b' : Bool) (a' : Arr Int), a'.Is (c.H + 1) (wrsN c) ∧ ∀ {R : Type} (kr : Bool → Option R) (k : Bool → Arr Int → Option R), newellaw07_CallsServed_l8 N n l fl (i : Int) c.car b1 v b a kr k = k b' a' := by
  have h5 := hc.h5
  intro q
  induction q with
  | zero =>
    intro i n b a h1 h2 h3
    obtain ⟨n, rfl⟩ : ∃ m, n = m + 1 := ⟨n - 1, by omega⟩
    have : i = c.H + 1 := by omega
    subst this
    refine ⟨b, a, h3, fun {R} kr k => ?_⟩
    unfold newellaw07_CallsServed_l8 newellaw07_CallsServed_b8
    have e : decide (((c.H + 1 : Nat) : Int) ≤ api_Car.High c.car) = false := decide_eq_false (by show ¬ _ ≤ ((c.H : Nat) : Int); omega)
    rw [e, cond_false]
  | succ q ih =>
    intro i n b a h1 h2 h3
    obtain ⟨n, rfl⟩ : ∃ m, n = m + 1 := ⟨n - 1, by omega⟩
    have hpush := Arr.Is.push_int h3 (z := [SV.int IntKind.i64 (0 : Int)]) (v := wrsN c i) rfl
    obtain ⟨b', a', g1, g2⟩ := ih (i + 1) n false _ (by omega) (by omega) hpush
    refine ⟨b', a', g1, fun {R} kr k => ?_⟩
    unfold newellaw07_CallsServed_l8 newellaw07_CallsServed_b8
    have e : decide ((i : Int) ≤ api_Car.High c.car) = true := decide_eq_true (by show _ ≤ ((c.H : Nat) : Int); omega)
    have er : room (a.n + 1) = true := room_of (by rw [h3.1]; omega)
    rw [e, cond_true]
    by_cases hL : c.L ≤ i
    · have e2 : decide ((i : Int) ≥ api_Car.Low c.car) = true := decide_eq_true (by show ((c.L : Nat) : Int) ≤ _; omega)
      rw [worstP_eq N hc ⟨hL, by omega⟩, e2, er, w64_succ (show i < 1000000000000 by omega)]
      have hw : wrsN c i = (worstN c i : Int) := if_pos hL
      rw [hw] at g2
      exact g2 kr k
    · have e2 : decide ((i : Int) ≥ api_Car.Low c.car) = false := decide_eq_false (by show ¬ ((c.L : Nat) : Int) ≤ _; omega)
      have hse : servesE c.car (i : Int) = 1 := by
        unfold servesE
        rw [if_pos hc.vc, if_neg (by show ¬ (((c.L : Nat) : Int) ≤ _ ∧ _); omega)]
      rw [worst_err N (by rw [hse]; decide), hse, e2, er, w64_succ (show i < 1000000000000 by omega)]
      have hw : wrsN c i = 0 := if_neg hL
      rw [hw] at g2
      exact g2 kr k
theorem served_l15 (N : Nat) {c : Cn} (hc : c.Ok) {l : Arr api_Press} (hl : VL c l) (fl : Int) (b1 b2 : Bool) {v a : Arr Int} (hv : WE c l allP v) (ha : a.Is (c.H + 1) (wrsN c)) {R : Type} (kr : Bool → Option R) (k : Unit → Option R) : ∀ (q i n : Nat), i + q = l.n → q < n →
    newellaw07_CallsServed_l15 N n l fl (i : Int) c.car b1 v b2 a kr k = k () := by
  have h5 := hc.h5
  have hln := hl.n
  intro q
  induction q with
  | zero =>
    intro i n h1 h2
    obtain ⟨n, rfl⟩ : ∃ m, n = m + 1 := ⟨n - 1, by omega⟩
    unfold newellaw07_CallsServed_l15 newellaw07_CallsServed_b15
    rw [ltF (show l.n ≤ i by omega), cond_false]
  | succ q ih =>
    intro i n h1 h2
    obtain ⟨n, rfl⟩ : ∃ m, n = m + 1 := ⟨n - 1, by omega⟩
    have hi : i < l.n := by omega
    have iG := hl.pg hi
    have hw := wt_worst hc hl (p := allP) hi rfl
    unfold newellaw07_CallsServed_l15 newellaw07_CallsServed_b15
    have e0 : decide ((i : Int) < (l.n : Int)) = true := ltT hi
    have e1 : decide ((i : Int) < (v.n : Int)) = true := by rw [hv.n]; exact e0
    have vi : v.f i = (wt c l allP i : Int) := by rw [hv.f i hi]; rfl
    have e2 : decide (Arr.f v (Int.toNat (i : Int)) < (0 : Int)) = false := decide_eq_false (by rw [Int.toNat_natCast, vi]; omega)
    have e3 : decide ((0 : Int) ≤ api_Press.Floor (Arr.f l (Int.toNat (i : Int)))) = true := decide_eq_true (by rw [Int.toNat_natCast, iG.1]; omega)
    have e4 : decide (api_Press.Floor (Arr.f l (Int.toNat (i : Int))) < (a.n : Int)) = true := decide_eq_true (by rw [Int.toNat_natCast, iG.1, ha.1]; omega)
    have e5 : decide (Arr.f v (Int.toNat (i : Int)) > Arr.f a (Int.toNat (api_Press.Floor (Arr.f l (Int.toNat (i : Int)))))) = false := decide_eq_false (by
      rw [Int.toNat_natCast, vi, iG.1, Int.toNat_natCast, ha.2 _ (by omega)]
      unfold wrsN
      rw [if_pos iG.2.1]
      omega)
    rw [e0, cond_true, nat_nonneg, Bool.true_and, e1, cond_true, e2, cond_false, cond_true, Bool.true_and, cond_true, e3, Bool.true_and, e4, cond_true, e5, cond_false, w64_succ (show i < 1000000000000 by omega)]
    exact ih (i + 1) n (by omega) (by omega)
theorem served_l27 (N : Nat) {c : Cn} (hc : c.Ok) {f : Nat} (hf : c.L ≤ f ∧ f ≤ c.H) {l : Arr api_Press} (hl : VL c l) (b1 b2 b3 : Bool) {w a : Arr Int} (hw : WE c l allP w) (ha : a.Is (c.H + 1) (wrsN c)) {j : Nat} (hj : j < l.n) (hjf : (l.f j).Floor = (f : Int)) (hjw : wt c l allP j = worstN c f) (e : Int) {R : Type} (k : Bool → Option R) : ∀ (q i n : Nat) (b : Bool), i + q = l.n → q < n → (j < i → b = true) →
    newellaw07_CallsServed_l27 N n (f : Int) e b (i : Int) b1 w b2 a b3 l k = k true := by
  have h5 := hc.h5
  have hln := hl.n
  intro q
  induction q with
  | zero =>
    intro i n b h1 h2 h3
    obtain ⟨n, rfl⟩ : ∃ m, n = m + 1 := ⟨n - 1, by omega⟩
    unfold newellaw07_CallsServed_l27 newellaw07_CallsServed_b27
    rw [hw.n, ltF (show l.n ≤ i by omega), cond_false, h3 (by omega)]
  | succ q ih =>
    intro i n b h1 h2 h3
    obtain ⟨n, rfl⟩ : ∃ m, n = m + 1 := ⟨n - 1, by omega⟩
    have hi : i < l.n := by omega
    have e0 : decide ((i : Int) < (l.n : Int)) = true := ltT hi
    have e1 : decide ((i : Int) < (w.n : Int)) = true := by rw [hw.n]; exact e0
    have e3 : decide ((f : Int) < (a.n : Int)) = true := by rw [ha.1]; exact ltT (by omega)
    unfold newellaw07_CallsServed_l27 newellaw07_CallsServed_b27
    rw [e1, cond_true, e0, cond_true, nat_nonneg, Bool.true_and, cond_true, cond_true, nat_nonneg, Bool.true_and, e3, cond_true, w64_succ (show i < 1000000000000 by omega)]
    cases b with
    | true =>
      rw [cond_true]
      exact ih (i + 1) n true (by omega) (by omega) (fun _ => rfl)
    | false =>
      rw [cond_false]
      have hij : i ≤ j := by
        refine Classical.byContradiction fun hn => ?_
        have := h3 (by omega)
        cases this
      by_cases hgi : api_Press.Floor (Arr.f l (Int.toNat (i : Int))) = (f : Int)
      · rw [hgi, BEq.rfl, cond_true]
        refine ih (i + 1) n _ (by omega) (by omega) fun hlt => ?_
        have : j = i := by omega
        subst this
        rw [Int.toNat_natCast, Int.toNat_natCast, hw.f j hj, ha.2 f (by omega)]
        unfold wrsN
        rw [if_pos hf.1]
        show ((wt c l allP j : Int) == _) = true
        rw [hjw, BEq.rfl]
      · have e4 : (api_Press.Floor (Arr.f l (Int.toNat (i : Int))) == (f : Int)) = false := by simpa using hgi
        rw [e4, cond_false]
        refine ih (i + 1) n false (by omega) (by omega) fun hlt => ?_
        have : j = i := by omega
        subst this
        exact absurd hjf hgi
theorem callsServed_true (c : api_Car) (l : Arr api_Press) (fl : Int) (hc : c.wf) (hl : l.n ≤ maxLen) (hl2 : ∀ i, i < l.n → (l.f i).wf) (hf : i64 fl) : ∃ N, newellaw07_CallsServed N c l fl (fun q0 => okK (lget [.bool q0] 0, [])) = some () := by
  refine ⟨3000, ?_⟩
  have hN : 2000 < 3000 := by decide
  have wk : newellaw07_works 3000 (fun r => okK (lget [.bool r] 0, [])) = some () := works_eq hN _
  rw [newellaw07_CallsServed_def]
  unfold newellaw07_CallsServed_m
  have main : ∀ h1 : l.n ≤ 40, ∀ n : Cn, n.Ok → c = n.car → Sm n → (bif decide ((↑(Arr.n l) : Int) > (40 : Int)) then newellaw07_works 3000 (fun r => okK (lget [.bool r] 0, [])) else newelref07_Check 3000 c l (fun r840 => bif r840 != (0 : Int) then newellaw07_works 3000 (fun r841 => okK (lget [.bool r841] 0, [])) else calls_Waits 3000 c l (fun r842 r843 r844 => bif r842 != (0 : Int) then okK (lget [.bool false] 0, []) else
      bif (↑(Arr.n r844) : Int) != (↑(Arr.n l) : Int) then okK (lget [.bool false] 0, []) else
       newellaw07_CallsServed_l8 3000 3000 l fl (0 : Int) c r843 r844 true (lst intC (0 : Nat) (zeroC [SV.int IntKind.i64 (0 : Int)])) (fun r855 => okK (lget [.bool r855] 0, [])) (fun r856 r857 =>
        newellaw07_CallsServed_l15 3000 3000 l fl (0 : Int) c r843 r844 r856 r857 (fun r866 => okK (lget [.bool r866] 0, [])) (fun (_ : Unit) =>
         bif decide (fl < api_Car.Low c) then newellaw07_works 3000 (fun r867 => okK (lget [.bool r867] 0, [])) else
          bif decide (fl > api_Car.High c) then newellaw07_works 3000 (fun r868 => okK (lget [.bool r868] 0, [])) else
           calls_Witness 3000 c fl (fun r869 r870 r871 => bif r869 != (0 : Int) then okK (lget [.bool false] 0, []) else
            newelref07_Check 3000 c r871 (fun r872 => bif r872 != (0 : Int) then okK (lget [.bool false] 0, []) else
             calls_Waits 3000 c r871 (fun r873 r874 r875 =>
             newellaw07_CallsServed_l27 3000 3000 fl r873 false (0 : Int) r874 r875 r856 r857 r870 r871 (fun r886 =>
              bif r873 == (0 : Int) then bif r886 then newellaw07_works 3000 (fun r887 => okK (lget [.bool r887] 0, [])) else okK (lget [.bool false] 0, []) else okK (lget [.bool false] 0, [])))))))))) = some () := by
    intro h1 n hn hcn hs
    have e0 : ((0 : Int) != 0) = false := rfl
    rw [decide_eq_false (show ¬ (l.n : Int) > 40 by omega), cond_false, refCheck (by decide) _ (by omega)]
    by_cases he : errC c l = 0
    rotate_left
    · have e1 : (errC c l != 0) = true := by simpa using he
      rw [e1, cond_true]
      exact wk
    have hvl : VL n l := by
      obtain ⟨n', hn', hcn', hvl⟩ := err_zero he
      have : n = n' := by
        rw [hcn] at hcn'
        unfold Cn.car at hcn'
        obtain ⟨a1, a2, a3, a4, a5⟩ := n
        obtain ⟨b1, b2, b3, b4, b5⟩ := n'
        simp only [api_Car.mk.injEq] at hcn'
        obtain ⟨k1, k2, k3, k4, k5⟩ := hcn'
        congr 1 <;> omega
      rw [this]; exact hvl
    subst hcn
    have hln := hvl.n
    have h5 := hn.h5
    rw [he, e0, cond_false]
    obtain ⟨v, f1, f2⟩ := waits_eq hN hn hvl
    refine (f2 _).trans ?_
    rw [e0, cond_false, f1.n, bne_self_eq_false, cond_false]
    obtain ⟨b, a, g1, g2⟩ := served_l8 3000 hn l fl false v (n.H + 1) 0 3000 true _ (by omega) (by omega) (Arr.Is.zero (C := intC) (c := zeroC [SV.int IntKind.i64 (0 : Int)]))
    refine (g2 _ _).trans ?_
    refine (served_l15 3000 hn hvl fl false b f1 g1 _ _ l.n 0 3000 (by omega) (by omega)).trans ?_
    by_cases q1 : fl < n.car.Low
    · rw [decide_eq_true q1, cond_true]; exact wk
    rw [decide_eq_false q1, cond_false]
    by_cases q2 : fl > n.car.High
    · rw [decide_eq_true q2, cond_true]; exact wk
    rw [decide_eq_false q2, cond_false]
    have q1' : ¬ fl < ((n.L : Nat) : Int) := q1
    have q2' : ¬ fl > ((n.H : Nat) : Int) := q2
    obtain ⟨f, rfl⟩ : ∃ f : Nat, fl = (f : Int) := ⟨fl.toNat, by omega⟩
    have hff : n.L ≤ f ∧ f ≤ n.H := by omega
    obtain ⟨b2, p, p1, p2⟩ := witness_eq hN hn hff
    obtain ⟨w1, w2, w3, w4⟩ := wit_ok hn hs hff p1
    refine (p2 _).trans ?_
    have hpn := w1.n
    rw [e0, cond_false, refCheck (by decide) _ (by omega), err_ok hn w1, e0, cond_false]
    obtain ⟨w, o1, o2⟩ := waits_eq hN hn w1
    refine (o2 _).trans ?_
    refine (served_l27 3000 hn hff w1 false b b2 o1 g1 w2 w3 w4 0 _ p.n 0 3000 false (by omega) (by omega) (fun h => by omega)).trans ?_
    exact wk
  by_cases hv : VC c
  · obtain ⟨n, hn, rfl⟩ := hv.cn
    rw [tall_eq 3000 hn]
    by_cases hs : Sm n
    · rw [decide_eq_true hs, Bool.not_true, cond_false]
      by_cases h1 : l.n ≤ 40
      · exact main h1 n hn rfl hs
      · rw [decide_eq_true (show (l.n : Int) > 40 by omega), cond_true]
        exact wk
    · rw [decide_eq_false hs, Bool.not_false, cond_true]
      exact wk
  · rw [tall_no 3000 hv, cond_false]
    by_cases h1 : l.n ≤ 40
    · rw [decide_eq_false (show ¬ (l.n : Int) > 40 by omega), cond_false, refCheck (by decide) _ (by omega)]
      have e1 : (errC c l != 0) = true := by
        have : errC c l ≠ 0 := fun h => by
          obtain ⟨n, hn, rfl, _⟩ := err_zero h
          exact hv hn.vc
        simpa using this
      rw [e1, cond_true]
      exact wk
    · rw [decide_eq_true (show (l.n : Int) > 40 by omega), cond_true]
      exact wk
end
end Go.Proofs.Ytlphgonhenegoaa
