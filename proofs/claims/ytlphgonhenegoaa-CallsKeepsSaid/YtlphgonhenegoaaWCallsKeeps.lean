import Derived.Test.YtlphgonhenegoaaPE
set_option maxRecDepth 100000
set_option maxHeartbeats 0
set_option linter.unusedSectionVars false
set_option linter.unusedVariables false
set_option linter.unusedSimpArgs false
namespace Go.Proofs.Ytlphgonhenegoaa
open Go.Sx
noncomputable section
def newellaw07_CallsKeeps_L4 : LoopSp := ⟨⟨[1, 2, 3, 7], ⟨(dr 1 ((rSl api_PressC) :: (rInt .i64) :: (rPtr 0 0) :: (dr 3 ((rInt .i64) :: (dr 147 []))))), [(0, eBlkC api_CarC)]⟩, 1⟩, [(Option.none, ⟨[6], ⟨(dr 6 ((rBool) :: (dr 148 []))), []⟩, 0⟩), (some 0, ⟨[1, 2, 3], ⟨(dr 1 ((rSl api_PressC) :: (rInt .i64) :: (rPtr 0 0) :: (dr 151 []))), [(0, eBlkC api_CarC)]⟩, 1⟩)]⟩
theorem newellaw07_CallsKeeps_L4_ok : newellaw07_CallsKeeps_L4.Ok := ⟨⟨(drCons 1 (allCons (rSl_ok api_PressC_ok) (allCons (rInt_ok .i64) (allCons (rPtr_ok 0 0) (drCons 3 (allCons (rInt_ok .i64) (drCons 147 allNil))))))), (eCons (eBlkC_ok api_CarC_ok api_CarC_len) eNil)⟩, (xCons ⟨(drCons 6 (allCons rBool_ok (drCons 148 allNil))), eNil⟩ (xCons ⟨(drCons 1 (allCons (rSl_ok api_PressC_ok) (allCons (rInt_ok .i64) (allCons (rPtr_ok 0 0) (drCons 151 allNil))))), (eCons (eBlkC_ok api_CarC_ok api_CarC_len) eNil)⟩ xNil))⟩
def newellaw07_CallsKeeps_h4 (v912 : Arr api_Press) (v913 : Int) (v914 : Int) (v915 : api_Car) : St := ⟨(un 1 ((slC api_PressC v912) :: (.int .i64 v913) :: (.ptr 0 0) :: (un 3 ((.int .i64 v914) :: (un 147 []))))), [(0, .blk (Cod.enc api_CarC v915))], 1⟩
def newellaw07_CallsKeeps_x4_r (q0 : Bool) : St := ⟨(un 6 ((.bool q0) :: (un 148 []))), [], 0⟩
def newellaw07_CallsKeeps_x4_0 (v912 : Arr api_Press) (v913 : Int) (v915 : api_Car) : St := ⟨(un 1 ((slC api_PressC v912) :: (.int .i64 v913) :: (.ptr 0 0) :: (un 151 []))), [(0, .blk (Cod.enc api_CarC v915))], 1⟩
def newellaw07_CallsKeeps_b4 {R : Type} (N : Nat) (rc : Arr api_Press → Int → Int → api_Car → Option R) (v912 : Arr api_Press) (v913 : Int) (v914 : Int) (v915 : api_Car) (kr : Bool → Option R) (k0 : Unit → Option R) : Option R :=
  bif decide (v914 < (↑(Arr.n v912) : Int)) then
   bif decide ((0 : Int) ≤ v914) && decide (v914 < (↑(Arr.n v912) : Int)) then
    bif decide (api_Press.At (Arr.f v912 (Int.toNat v914)) > (60 : Int)) then
     newellaw07_works N  (fun r916 =>
     kr r916)
    else
     rc v912 v913 (w64 (v914 + (1 : Int))) v915
   else
    Option.none
  else
   k0 ()
def newellaw07_CallsKeeps_l4 {R : Type} (N : Nat) : Nat → Arr api_Press → Int → Int → api_Car → (Bool → Option R) → (Unit → Option R) → Option R
  | 0, _, _, _, _, _, _ => Option.none
  | n + 1, v912, v913, v914, v915, kr, k0 => newellaw07_CallsKeeps_b4 N (fun v912 v913 v914 v915 => newellaw07_CallsKeeps_l4 N n v912 v913 v914 v915 kr k0) v912 v913 v914 v915 kr k0
def newellaw07_CallsKeeps_L12 : LoopSp := ⟨⟨[2, 3, 8, 10], ⟨(dr 2 ((rInt .i64) :: (rPtr 0 0) :: (dr 4 ((rRow 1) :: (dr 1 ((rInt .i64) :: (dr 144 []))))))), [(0, eBlkC api_CarC), (1, eRow api_RideC)]⟩, 2⟩, [(Option.none, ⟨[6], ⟨(dr 6 ((rBool) :: (dr 148 []))), []⟩, 0⟩), (some 2, ⟨[2, 3, 8], ⟨(dr 2 ((rInt .i64) :: (rPtr 0 0) :: (dr 4 ((rRow 1) :: (dr 146 []))))), [(0, eBlkC api_CarC), (1, eRow api_RideC)]⟩, 2⟩)]⟩
theorem newellaw07_CallsKeeps_L12_ok : newellaw07_CallsKeeps_L12.Ok := ⟨⟨(drCons 2 (allCons (rInt_ok .i64) (allCons (rPtr_ok 0 0) (drCons 4 (allCons (rRow_ok 1) (drCons 1 (allCons (rInt_ok .i64) (drCons 144 allNil)))))))), (eCons (eBlkC_ok api_CarC_ok api_CarC_len) (eCons (eRow_ok api_RideC_ok) eNil))⟩, (xCons ⟨(drCons 6 (allCons rBool_ok (drCons 148 allNil))), eNil⟩ (xCons ⟨(drCons 2 (allCons (rInt_ok .i64) (allCons (rPtr_ok 0 0) (drCons 4 (allCons (rRow_ok 1) (drCons 146 allNil)))))), (eCons (eBlkC_ok api_CarC_ok api_CarC_len) (eCons (eRow_ok api_RideC_ok) eNil))⟩ xNil))⟩
def newellaw07_CallsKeeps_h12 (v921 : Int) (v922 : Int) (v923 : api_Car) (v924 : Bool) (v925 : Arr api_Ride) : St := ⟨(un 2 ((.int .i64 v921) :: (.ptr 0 0) :: (un 4 ((.row 1) :: (un 1 ((.int .i64 v922) :: (un 144 []))))))), [(0, .blk (Cod.enc api_CarC v923)), (1, rowE api_RideC v924 v925)], 2⟩
def newellaw07_CallsKeeps_x12_r (q0 : Bool) : St := ⟨(un 6 ((.bool q0) :: (un 148 []))), [], 0⟩
def newellaw07_CallsKeeps_x12_2 (v921 : Int) (v923 : api_Car) (v924 : Bool) (v925 : Arr api_Ride) : St := ⟨(un 2 ((.int .i64 v921) :: (.ptr 0 0) :: (un 4 ((.row 1) :: (un 146 []))))), [(0, .blk (Cod.enc api_CarC v923)), (1, rowE api_RideC v924 v925)], 2⟩
def newellaw07_CallsKeeps_b12 {R : Type} (N : Nat) (rc : Int → Int → api_Car → Bool → Arr api_Ride → Option R) (v921 : Int) (v922 : Int) (v923 : api_Car) (v924 : Bool) (v925 : Arr api_Ride) (kr : Bool → Option R) (k2 : Unit → Option R) : Option R :=
  bif decide (v922 < (↑(Arr.n v925) : Int)) then
   bif decide ((0 : Int) ≤ v922) && decide (v922 < (↑(Arr.n v925) : Int)) then
    newelref07_Right N v923 (Arr.f v925 (Int.toNat v922)) (fun r926 =>
    bif !r926 then
     kr false
    else
     rc v921 (w64 (v922 + (1 : Int))) v923 v924 v925)
   else
    Option.none
  else
   k2 ()
def newellaw07_CallsKeeps_l12 {R : Type} (N : Nat) : Nat → Int → Int → api_Car → Bool → Arr api_Ride → (Bool → Option R) → (Unit → Option R) → Option R
  | 0, _, _, _, _, _, _, _ => Option.none
  | n + 1, v921, v922, v923, v924, v925, kr, k2 => newellaw07_CallsKeeps_b12 N (fun v921 v922 v923 v924 v925 => newellaw07_CallsKeeps_l12 N n v921 v922 v923 v924 v925 kr k2) v921 v922 v923 v924 v925 kr k2
def newellaw07_CallsKeeps_L25 : LoopSp := ⟨⟨[2, 3, 8, 11, 12, 14, 15], ⟨(dr 2 ((rInt .i64) :: (rPtr 0 0) :: (dr 4 ((rRow 1) :: (dr 2 ((rInt .i64) :: (rInt .i64) :: (dr 1 ((rBool) :: (rInt .i64) :: (dr 139 []))))))))), [(0, eBlkC api_CarC), (1, eRow api_RideC)]⟩, 2⟩, [(some 6, ⟨[2, 3, 8, 11, 14], ⟨(dr 2 ((rInt .i64) :: (rPtr 0 0) :: (dr 4 ((rRow 1) :: (dr 2 ((rInt .i64) :: (dr 2 ((rBool) :: (dr 140 []))))))))), [(0, eBlkC api_CarC), (1, eRow api_RideC)]⟩, 2⟩)]⟩
theorem newellaw07_CallsKeeps_L25_ok : newellaw07_CallsKeeps_L25.Ok := ⟨⟨(drCons 2 (allCons (rInt_ok .i64) (allCons (rPtr_ok 0 0) (drCons 4 (allCons (rRow_ok 1) (drCons 2 (allCons (rInt_ok .i64) (allCons (rInt_ok .i64) (drCons 1 (allCons rBool_ok (allCons (rInt_ok .i64) (drCons 139 allNil)))))))))))), (eCons (eBlkC_ok api_CarC_ok api_CarC_len) (eCons (eRow_ok api_RideC_ok) eNil))⟩, (xCons ⟨(drCons 2 (allCons (rInt_ok .i64) (allCons (rPtr_ok 0 0) (drCons 4 (allCons (rRow_ok 1) (drCons 2 (allCons (rInt_ok .i64) (drCons 2 (allCons rBool_ok (drCons 140 allNil)))))))))), (eCons (eBlkC_ok api_CarC_ok api_CarC_len) (eCons (eRow_ok api_RideC_ok) eNil))⟩ xNil)⟩
def newellaw07_CallsKeeps_h25 (v935 : Int) (v936 : Int) (v937 : Int) (v938 : Bool) (v939 : Int) (v940 : api_Car) (v941 : Bool) (v942 : Arr api_Ride) : St := ⟨(un 2 ((.int .i64 v935) :: (.ptr 0 0) :: (un 4 ((.row 1) :: (un 2 ((.int .i64 v936) :: (.int .i64 v937) :: (un 1 ((.bool v938) :: (.int .i64 v939) :: (un 139 []))))))))), [(0, .blk (Cod.enc api_CarC v940)), (1, rowE api_RideC v941 v942)], 2⟩
def newellaw07_CallsKeeps_x25_6 (v935 : Int) (v936 : Int) (v940 : api_Car) (v941 : Bool) (v942 : Arr api_Ride) (q2 : Bool) : St := ⟨(un 2 ((.int .i64 v935) :: (.ptr 0 0) :: (un 4 ((.row 1) :: (un 2 ((.int .i64 v936) :: (un 2 ((.bool q2) :: (un 140 []))))))))), [(0, .blk (Cod.enc api_CarC v940)), (1, rowE api_RideC v941 v942)], 2⟩
def newellaw07_CallsKeeps_b25 {R : Type} (N : Nat) (rc : Int → Int → Int → Bool → Int → api_Car → Bool → Arr api_Ride → Option R) (v935 : Int) (v936 : Int) (v937 : Int) (v938 : Bool) (v939 : Int) (v940 : api_Car) (v941 : Bool) (v942 : Arr api_Ride) (k6 : Bool → Option R) : Option R :=
  bif decide (v939 ≤ w64 (v935 + v937)) then
   bif v938 then
    rc v935 v936 v937 true (w64 (v939 + (1 : Int))) v940 v941 v942
   else
    bif decide ((0 : Int) ≤ v939) && decide (v939 < (↑(Arr.n v942) : Int)) then
     bif api_Ride.Doing (Arr.f v942 (Int.toNat v939)) == (2 : Int) then
      bif decide ((0 : Int) ≤ v939) && decide (v939 < (↑(Arr.n v942) : Int)) then
       bif api_Ride.Floor (Arr.f v942 (Int.toNat v939)) == v936 then
        bif decide ((0 : Int) ≤ v939) && decide (v939 < (↑(Arr.n v942) : Int)) then
         rc v935 v936 v937 (api_Ride.Left (Arr.f v942 (Int.toNat v939)) == api_Car.Stop v940) (w64 (v939 + (1 : Int))) v940 v941 v942
        else
         Option.none
       else
        rc v935 v936 v937 false (w64 (v939 + (1 : Int))) v940 v941 v942
      else
       Option.none
     else
      rc v935 v936 v937 false (w64 (v939 + (1 : Int))) v940 v941 v942
    else
     Option.none
  else
   k6 v938
def newellaw07_CallsKeeps_l25 {R : Type} (N : Nat) : Nat → Int → Int → Int → Bool → Int → api_Car → Bool → Arr api_Ride → (Bool → Option R) → Option R
  | 0, _, _, _, _, _, _, _, _, _ => Option.none
  | n + 1, v935, v936, v937, v938, v939, v940, v941, v942, k6 => newellaw07_CallsKeeps_b25 N (fun v935 v936 v937 v938 v939 v940 v941 v942 => newellaw07_CallsKeeps_l25 N n v935 v936 v937 v938 v939 v940 v941 v942 k6) v935 v936 v937 v938 v939 v940 v941 v942 k6
def newellaw07_CallsKeeps_L17 : LoopSp := ⟨⟨[2, 3, 8, 11], ⟨(dr 2 ((rInt .i64) :: (rPtr 0 0) :: (dr 4 ((rRow 1) :: (dr 2 ((rInt .i64) :: (dr 143 []))))))), [(0, eBlkC api_CarC), (1, eRow api_RideC)]⟩, 2⟩, [(Option.none, ⟨[6], ⟨(dr 6 ((rBool) :: (dr 148 []))), []⟩, 0⟩), (some 4, ⟨[], ⟨(dr 155 []), []⟩, 0⟩)]⟩
theorem newellaw07_CallsKeeps_L17_ok : newellaw07_CallsKeeps_L17.Ok := ⟨⟨(drCons 2 (allCons (rInt_ok .i64) (allCons (rPtr_ok 0 0) (drCons 4 (allCons (rRow_ok 1) (drCons 2 (allCons (rInt_ok .i64) (drCons 143 allNil)))))))), (eCons (eBlkC_ok api_CarC_ok api_CarC_len) (eCons (eRow_ok api_RideC_ok) eNil))⟩, (xCons ⟨(drCons 6 (allCons rBool_ok (drCons 148 allNil))), eNil⟩ (xCons ⟨(drCons 155 allNil), eNil⟩ xNil))⟩
def newellaw07_CallsKeeps_h17 (v928 : Int) (v929 : Int) (v930 : api_Car) (v931 : Bool) (v932 : Arr api_Ride) : St := ⟨(un 2 ((.int .i64 v928) :: (.ptr 0 0) :: (un 4 ((.row 1) :: (un 2 ((.int .i64 v929) :: (un 143 []))))))), [(0, .blk (Cod.enc api_CarC v930)), (1, rowE api_RideC v931 v932)], 2⟩
def newellaw07_CallsKeeps_x17_r (q0 : Bool) : St := ⟨(un 6 ((.bool q0) :: (un 148 []))), [], 0⟩
def newellaw07_CallsKeeps_x17_4  : St := ⟨(un 155 []), [], 0⟩
def newellaw07_CallsKeeps_b17 {R : Type} (N : Nat) (rc : Int → Int → api_Car → Bool → Arr api_Ride → Option R) (v928 : Int) (v929 : Int) (v930 : api_Car) (v931 : Bool) (v932 : Arr api_Ride) (kr : Bool → Option R) (k4 : Unit → Option R) : Option R :=
  bif decide (v929 ≤ api_Car.High v930) then
   bif decide ((0 : Int) ≤ v928) && decide (v928 < (↑(Arr.n v932) : Int)) then
    bif decide (IntKind.wrap IntKind.u64 v929 < (0 : Int)) then
     Option.none
    else
     bif w64 (↑(BitVec.toNat (BitVec.ofInt (IntKind.bits IntKind.i64) (Int.fdiv (api_Ride.Wants (Arr.f v932 (Int.toNat v928))) ((2 : Int) ^ min (Int.toNat (IntKind.wrap IntKind.u64 v929)) (IntKind.bits IntKind.i64))) &&& BitVec.ofInt (IntKind.bits IntKind.i64) (1 : Int))) : Int) == (0 : Int) then
      rc v928 (w64 (v929 + (1 : Int))) v930 v931 v932
     else
      bif decide ((0 : Int) ≤ v928) && decide (v928 < (↑(Arr.n v932) : Int)) then
       calls_Bound N v930 (Arr.f v932 (Int.toNat v928)) v929 (fun r933 r934 =>
       bif r934 != (0 : Int) then
        kr false
       else
        bif decide (r933 < (1 : Int)) then
         kr false
        else
         bif decide (r933 > (100 : Int)) then
          kr false
         else
          newellaw07_CallsKeeps_l25 N N v928 v929 r933 false (w64 (v928 + (1 : Int))) v930 v931 v932 (fun r943 =>
           bif !r943 then
            kr false
           else
            rc v928 (w64 (v929 + (1 : Int))) v930 v931 v932))
      else
       Option.none
   else
    Option.none
  else
   k4 ()
def newellaw07_CallsKeeps_l17 {R : Type} (N : Nat) : Nat → Int → Int → api_Car → Bool → Arr api_Ride → (Bool → Option R) → (Unit → Option R) → Option R
  | 0, _, _, _, _, _, _, _ => Option.none
  | n + 1, v928, v929, v930, v931, v932, kr, k4 => newellaw07_CallsKeeps_b17 N (fun v928 v929 v930 v931 v932 => newellaw07_CallsKeeps_l17 N n v928 v929 v930 v931 v932 kr k4) v928 v929 v930 v931 v932 kr k4
def newellaw07_CallsKeeps_m {R : Type} (N : Nat) (a902 : api_Car) (a903 : Arr api_Press) (a904 : Int) (k : Bool → Option R) : Option R :=
  newellaw07_Tall N a902 (fun r905 =>
  bif r905 then
   newellaw07_works N  (fun r906 =>
   k r906)
  else
   bif decide ((↑(Arr.n a903) : Int) > (10 : Int)) then
    newellaw07_works N  (fun r907 =>
    k r907)
   else
    newelref07_Check N a902 a903 (fun r908 =>
    bif r908 != (0 : Int) then
     newellaw07_works N  (fun r909 =>
     k r909)
    else
     bif decide (a904 < (0 : Int)) then
      newellaw07_works N  (fun r910 =>
      k r910)
     else
      bif decide (a904 > (60 : Int)) then
       newellaw07_works N  (fun r911 =>
       k r911)
      else
       newellaw07_CallsKeeps_l4 N N a903 a904 (0 : Int) a902 (fun r917 =>
        k r917) (fun (_ : Unit) =>
        calls_Play N a902 a903 (200 : Int) (fun r918 r919 r920 =>
        bif r918 != (0 : Int) then
         k false
        else
         bif (↑(Arr.n r920) : Int) != (200 : Int) then
          k false
         else
          newellaw07_CallsKeeps_l12 N N a904 (0 : Int) a902 r919 r920 (fun r927 =>
           k r927) (fun (_ : Unit) =>
           newellaw07_CallsKeeps_l17 N N a904 (api_Car.Low a902) a902 r919 r920 (fun r944 =>
            k r944) (fun (_ : Unit) =>
            newellaw07_works N  (fun r945 =>
            k r945)))))))
noncomputable def newellaw07_CallsKeeps {R : Type} : Nat → api_Car → Arr api_Press → Int → (Bool → Option R) → Option R := lock (@newellaw07_CallsKeeps_m R)
theorem newellaw07_CallsKeeps_def {R : Type} (N : Nat) (a902 : api_Car) (a903 : Arr api_Press) (a904 : Int) (k : Bool → Option R) : newellaw07_CallsKeeps N a902 a903 a904 k = newellaw07_CallsKeeps_m N a902 a903 a904 k := by unfold newellaw07_CallsKeeps; rw [lock_eq]
def newellaw07_CallsKeeps_sp : Sp := ⟨[rAgg api_CarC, rSl api_PressC, rInt .i64], []⟩
theorem newellaw07_CallsKeeps_sp_ok : newellaw07_CallsKeeps_sp.Ok := ⟨(allCons (rAgg_ok api_CarC_ok api_CarC_len) (allCons (rSl_ok api_PressC_ok) (allCons (rInt_ok .i64) allNil))), eNil⟩
def newellaw07_CallsKeeps_rs : Sp := ⟨[rBool], []⟩
theorem newellaw07_CallsKeeps_rs_ok : newellaw07_CallsKeeps_rs.Ok := ⟨(allCons rBool_ok allNil), eNil⟩
def newellaw07_CallsKeeps_run {R : Type} (N : Nat) (args : List SV) (T : Tab) (kf : SV × Tab → Option R) : Option R :=
  newellaw07_CallsKeeps_m N (Cod.dec api_CarC (lget (toCs (lget args 0)))) (lstC api_PressC (lget args 1)) (toI (lget args 2)) (fun q0 => kf (lget [.bool q0] 0, []))
def newellaw07_CallsKeeps_d25 {R : Type} (N : Nat) (S0 : St) (k : Exit → St → Option R) : Option R :=
  newellaw07_CallsKeeps_l25 N N (toI (lget S0.tmps 2)) (toI (lget S0.tmps 11)) (toI (lget S0.tmps 12)) (toB (lget S0.tmps 14)) (toI (lget S0.tmps 15)) (Cod.dec api_CarC (lget (entCs (entAt S0.tab 0)))) (entNl (entAt S0.tab 1)) (lst api_RideC (entN (entAt S0.tab 1)) (entC (entAt S0.tab 1))) (fun q2 => k (.exit 6) (newellaw07_CallsKeeps_x25_6 (toI (lget S0.tmps 2)) (toI (lget S0.tmps 11)) (Cod.dec api_CarC (lget (entCs (entAt S0.tab 0)))) (entNl (entAt S0.tab 1)) (lst api_RideC (entN (entAt S0.tab 1)) (entC (entAt S0.tab 1))) q2))
def newellaw07_CallsKeeps_d17 {R : Type} (N : Nat) (S0 : St) (k : Exit → St → Option R) : Option R :=
  newellaw07_CallsKeeps_l17 N N (toI (lget S0.tmps 2)) (toI (lget S0.tmps 11)) (Cod.dec api_CarC (lget (entCs (entAt S0.tab 0)))) (entNl (entAt S0.tab 1)) (lst api_RideC (entN (entAt S0.tab 1)) (entC (entAt S0.tab 1))) (fun q0 => k .ret (newellaw07_CallsKeeps_x17_r q0)) (fun (_ : Unit) => k (.exit 4) (newellaw07_CallsKeeps_x17_4 ))
def newellaw07_CallsKeeps_d12 {R : Type} (N : Nat) (S0 : St) (k : Exit → St → Option R) : Option R :=
  newellaw07_CallsKeeps_l12 N N (toI (lget S0.tmps 2)) (toI (lget S0.tmps 10)) (Cod.dec api_CarC (lget (entCs (entAt S0.tab 0)))) (entNl (entAt S0.tab 1)) (lst api_RideC (entN (entAt S0.tab 1)) (entC (entAt S0.tab 1))) (fun q0 => k .ret (newellaw07_CallsKeeps_x12_r q0)) (fun (_ : Unit) => k (.exit 2) (newellaw07_CallsKeeps_x12_2 (toI (lget S0.tmps 2)) (Cod.dec api_CarC (lget (entCs (entAt S0.tab 0)))) (entNl (entAt S0.tab 1)) (lst api_RideC (entN (entAt S0.tab 1)) (entC (entAt S0.tab 1)))))
def newellaw07_CallsKeeps_d4 {R : Type} (N : Nat) (S0 : St) (k : Exit → St → Option R) : Option R :=
  newellaw07_CallsKeeps_l4 N N (lstC api_PressC (lget S0.tmps 1)) (toI (lget S0.tmps 2)) (toI (lget S0.tmps 7)) (Cod.dec api_CarC (lget (entCs (entAt S0.tab 0)))) (fun q0 => k .ret (newellaw07_CallsKeeps_x4_r q0)) (fun (_ : Unit) => k (.exit 0) (newellaw07_CallsKeeps_x4_0 (lstC api_PressC (lget S0.tmps 1)) (toI (lget S0.tmps 2)) (Cod.dec api_CarC (lget (entCs (entAt S0.tab 0))))))
def newellaw07_CallsKeeps_lp {R : Type} (N : Nat) : Lp R := fun body S k => bif (Go.Sx.keyOf body).getD 0 == 4 then (newellaw07_CallsKeeps_L4.head.raw 0 S (fun S0 => newellaw07_CallsKeeps_d4 N S0 k)) else bif (Go.Sx.keyOf body).getD 0 == 12 then (newellaw07_CallsKeeps_L12.head.raw 0 S (fun S0 => newellaw07_CallsKeeps_d12 N S0 k)) else bif (Go.Sx.keyOf body).getD 0 == 17 then (newellaw07_CallsKeeps_L17.head.raw 0 S (fun S0 => newellaw07_CallsKeeps_d17 N S0 k)) else bif (Go.Sx.keyOf body).getD 0 == 25 then (newellaw07_CallsKeeps_L25.head.raw 0 S (fun S0 => newellaw07_CallsKeeps_d25 N S0 k)) else Option.none
theorem newellaw07_CallsKeeps_l4_eq {R : Type} (N : Nat) (k : Exit → St → Option R) (n : Nat) : ∀ (v0 : Arr api_Press) (v1 : Int) (v2 : Int) (v3 : api_Car), loopM E.Θ (calls_waits_v2_cal N) (newellaw07_CallsKeeps_lp N) (noJn) 0 newellaw07_CallsKeeps_L4 (bodyAt E 9 4) n (newellaw07_CallsKeeps_h4 v0 v1 v2 v3) k = newellaw07_CallsKeeps_l4 N n v0 v1 v2 v3 (fun q0 => k .ret (newellaw07_CallsKeeps_x4_r q0)) (fun (_ : Unit) => k (.exit 0) (newellaw07_CallsKeeps_x4_0 v0 v1 v3)) := by
  induction n with
  | zero => intro v0 v1 v2 v3; rfl
  | succ n ih =>
    intro v0 v1 v2 v3
    refine Eq.trans (b := newellaw07_CallsKeeps_b4 N (fun v0 v1 v2 v3 => loopM E.Θ (calls_waits_v2_cal N) (newellaw07_CallsKeeps_lp N) (noJn) 0 newellaw07_CallsKeeps_L4 (bodyAt E 9 4) n (newellaw07_CallsKeeps_h4 v0 v1 v2 v3) k) v0 v1 v2 v3 (fun q0 => k .ret (newellaw07_CallsKeeps_x4_r q0)) (fun (_ : Unit) => k (.exit 0) (newellaw07_CallsKeeps_x4_0 v0 v1 v3))) (by kernel_rfl) ?_
    have h : (fun (v0 : Arr api_Press) (v1 : Int) (v2 : Int) (v3 : api_Car) => loopM E.Θ (calls_waits_v2_cal N) (newellaw07_CallsKeeps_lp N) (noJn) 0 newellaw07_CallsKeeps_L4 (bodyAt E 9 4) n (newellaw07_CallsKeeps_h4 v0 v1 v2 v3) k) = (fun (v0 : Arr api_Press) (v1 : Int) (v2 : Int) (v3 : api_Car) => newellaw07_CallsKeeps_l4 N n v0 v1 v2 v3 (fun q0 => k .ret (newellaw07_CallsKeeps_x4_r q0)) (fun (_ : Unit) => k (.exit 0) (newellaw07_CallsKeeps_x4_0 v0 v1 v3))) := funext fun v0 => funext fun v1 => funext fun v2 => funext fun v3 => ih v0 v1 v2 v3
    rw [h]
    rfl
theorem newellaw07_CallsKeeps_l12_eq {R : Type} (N : Nat) (k : Exit → St → Option R) (n : Nat) : ∀ (v0 : Int) (v1 : Int) (v2 : api_Car) (v3 : Bool) (v4 : Arr api_Ride), loopM E.Θ (calls_waits_v2_cal N) (newellaw07_CallsKeeps_lp N) (noJn) 0 newellaw07_CallsKeeps_L12 (bodyAt E 9 12) n (newellaw07_CallsKeeps_h12 v0 v1 v2 v3 v4) k = newellaw07_CallsKeeps_l12 N n v0 v1 v2 v3 v4 (fun q0 => k .ret (newellaw07_CallsKeeps_x12_r q0)) (fun (_ : Unit) => k (.exit 2) (newellaw07_CallsKeeps_x12_2 v0 v2 v3 v4)) := by
  induction n with
  | zero => intro v0 v1 v2 v3 v4; rfl
  | succ n ih =>
    intro v0 v1 v2 v3 v4
    refine Eq.trans (b := newellaw07_CallsKeeps_b12 N (fun v0 v1 v2 v3 v4 => loopM E.Θ (calls_waits_v2_cal N) (newellaw07_CallsKeeps_lp N) (noJn) 0 newellaw07_CallsKeeps_L12 (bodyAt E 9 12) n (newellaw07_CallsKeeps_h12 v0 v1 v2 v3 v4) k) v0 v1 v2 v3 v4 (fun q0 => k .ret (newellaw07_CallsKeeps_x12_r q0)) (fun (_ : Unit) => k (.exit 2) (newellaw07_CallsKeeps_x12_2 v0 v2 v3 v4))) (by kernel_rfl) ?_
    have h : (fun (v0 : Int) (v1 : Int) (v2 : api_Car) (v3 : Bool) (v4 : Arr api_Ride) => loopM E.Θ (calls_waits_v2_cal N) (newellaw07_CallsKeeps_lp N) (noJn) 0 newellaw07_CallsKeeps_L12 (bodyAt E 9 12) n (newellaw07_CallsKeeps_h12 v0 v1 v2 v3 v4) k) = (fun (v0 : Int) (v1 : Int) (v2 : api_Car) (v3 : Bool) (v4 : Arr api_Ride) => newellaw07_CallsKeeps_l12 N n v0 v1 v2 v3 v4 (fun q0 => k .ret (newellaw07_CallsKeeps_x12_r q0)) (fun (_ : Unit) => k (.exit 2) (newellaw07_CallsKeeps_x12_2 v0 v2 v3 v4))) := funext fun v0 => funext fun v1 => funext fun v2 => funext fun v3 => funext fun v4 => ih v0 v1 v2 v3 v4
    rw [h]
    rfl
theorem newellaw07_CallsKeeps_l17_eq {R : Type} (N : Nat) (k : Exit → St → Option R) (n : Nat) : ∀ (v0 : Int) (v1 : Int) (v2 : api_Car) (v3 : Bool) (v4 : Arr api_Ride), loopM E.Θ (calls_waits_v2_cal N) (newellaw07_CallsKeeps_lp N) (noJn) 0 newellaw07_CallsKeeps_L17 (bodyAt E 9 17) n (newellaw07_CallsKeeps_h17 v0 v1 v2 v3 v4) k = newellaw07_CallsKeeps_l17 N n v0 v1 v2 v3 v4 (fun q0 => k .ret (newellaw07_CallsKeeps_x17_r q0)) (fun (_ : Unit) => k (.exit 4) (newellaw07_CallsKeeps_x17_4 )) := by
  induction n with
  | zero => intro v0 v1 v2 v3 v4; rfl
  | succ n ih =>
    intro v0 v1 v2 v3 v4
    refine Eq.trans (b := newellaw07_CallsKeeps_b17 N (fun v0 v1 v2 v3 v4 => loopM E.Θ (calls_waits_v2_cal N) (newellaw07_CallsKeeps_lp N) (noJn) 0 newellaw07_CallsKeeps_L17 (bodyAt E 9 17) n (newellaw07_CallsKeeps_h17 v0 v1 v2 v3 v4) k) v0 v1 v2 v3 v4 (fun q0 => k .ret (newellaw07_CallsKeeps_x17_r q0)) (fun (_ : Unit) => k (.exit 4) (newellaw07_CallsKeeps_x17_4 ))) (by kernel_rfl) ?_
    have h : (fun (v0 : Int) (v1 : Int) (v2 : api_Car) (v3 : Bool) (v4 : Arr api_Ride) => loopM E.Θ (calls_waits_v2_cal N) (newellaw07_CallsKeeps_lp N) (noJn) 0 newellaw07_CallsKeeps_L17 (bodyAt E 9 17) n (newellaw07_CallsKeeps_h17 v0 v1 v2 v3 v4) k) = (fun (v0 : Int) (v1 : Int) (v2 : api_Car) (v3 : Bool) (v4 : Arr api_Ride) => newellaw07_CallsKeeps_l17 N n v0 v1 v2 v3 v4 (fun q0 => k .ret (newellaw07_CallsKeeps_x17_r q0)) (fun (_ : Unit) => k (.exit 4) (newellaw07_CallsKeeps_x17_4 ))) := funext fun v0 => funext fun v1 => funext fun v2 => funext fun v3 => funext fun v4 => ih v0 v1 v2 v3 v4
    rw [h]
    rfl
theorem newellaw07_CallsKeeps_l25_eq {R : Type} (N : Nat) (k : Exit → St → Option R) (n : Nat) : ∀ (v0 : Int) (v1 : Int) (v2 : Int) (v3 : Bool) (v4 : Int) (v5 : api_Car) (v6 : Bool) (v7 : Arr api_Ride), loopM E.Θ (calls_waits_v2_cal N) (newellaw07_CallsKeeps_lp N) (noJn) 0 newellaw07_CallsKeeps_L25 (bodyAt E 9 25) n (newellaw07_CallsKeeps_h25 v0 v1 v2 v3 v4 v5 v6 v7) k = newellaw07_CallsKeeps_l25 N n v0 v1 v2 v3 v4 v5 v6 v7 (fun q2 => k (.exit 6) (newellaw07_CallsKeeps_x25_6 v0 v1 v5 v6 v7 q2)) := by
  induction n with
  | zero => intro v0 v1 v2 v3 v4 v5 v6 v7; rfl
  | succ n ih =>
    intro v0 v1 v2 v3 v4 v5 v6 v7
    refine Eq.trans (b := newellaw07_CallsKeeps_b25 N (fun v0 v1 v2 v3 v4 v5 v6 v7 => loopM E.Θ (calls_waits_v2_cal N) (newellaw07_CallsKeeps_lp N) (noJn) 0 newellaw07_CallsKeeps_L25 (bodyAt E 9 25) n (newellaw07_CallsKeeps_h25 v0 v1 v2 v3 v4 v5 v6 v7) k) v0 v1 v2 v3 v4 v5 v6 v7 (fun q2 => k (.exit 6) (newellaw07_CallsKeeps_x25_6 v0 v1 v5 v6 v7 q2))) (by kernel_rfl) ?_
    have h : (fun (v0 : Int) (v1 : Int) (v2 : Int) (v3 : Bool) (v4 : Int) (v5 : api_Car) (v6 : Bool) (v7 : Arr api_Ride) => loopM E.Θ (calls_waits_v2_cal N) (newellaw07_CallsKeeps_lp N) (noJn) 0 newellaw07_CallsKeeps_L25 (bodyAt E 9 25) n (newellaw07_CallsKeeps_h25 v0 v1 v2 v3 v4 v5 v6 v7) k) = (fun (v0 : Int) (v1 : Int) (v2 : Int) (v3 : Bool) (v4 : Int) (v5 : api_Car) (v6 : Bool) (v7 : Arr api_Ride) => newellaw07_CallsKeeps_l25 N n v0 v1 v2 v3 v4 v5 v6 v7 (fun q2 => k (.exit 6) (newellaw07_CallsKeeps_x25_6 v0 v1 v5 v6 v7 q2))) := funext fun v0 => funext fun v1 => funext fun v2 => funext fun v3 => funext fun v4 => funext fun v5 => funext fun v6 => funext fun v7 => ih v0 v1 v2 v3 v4 v5 v6 v7
    rw [h]
    rfl
theorem newellaw07_CallsKeeps_k25 {R : Type} (N : Nat) : LpKey (R := R) E 9 0 (newellaw07_CallsKeeps_lp N) 25 :=
  lpKey_of hE (calls_waits_v2_cal_ok N) (lp := newellaw07_CallsKeeps_lp N) (jn := noJn) newellaw07_CallsKeeps_L25_ok [] kNil (by kernel_rfl) [] jNil (by kernel_rfl) N fun S k =>
    Eq.trans (b := newellaw07_CallsKeeps_L25.head.raw 0 S (fun S0 => newellaw07_CallsKeeps_d25 N S0 k)) (by kernel_rfl) (congrArg (newellaw07_CallsKeeps_L25.head.raw 0 S) (funext fun S0 => Eq.trans (newellaw07_CallsKeeps_l25_eq N k N (toI (lget S0.tmps 2)) (toI (lget S0.tmps 11)) (toI (lget S0.tmps 12)) (toB (lget S0.tmps 14)) (toI (lget S0.tmps 15)) (Cod.dec api_CarC (lget (entCs (entAt S0.tab 0)))) (entNl (entAt S0.tab 1)) (lst api_RideC (entN (entAt S0.tab 1)) (entC (entAt S0.tab 1)))).symm (by kernel_rfl)))
theorem newellaw07_CallsKeeps_k4 {R : Type} (N : Nat) : LpKey (R := R) E 9 0 (newellaw07_CallsKeeps_lp N) 4 :=
  lpKey_of hE (calls_waits_v2_cal_ok N) (lp := newellaw07_CallsKeeps_lp N) (jn := noJn) newellaw07_CallsKeeps_L4_ok [] kNil (by kernel_rfl) [] jNil (by kernel_rfl) N fun S k =>
    Eq.trans (b := newellaw07_CallsKeeps_L4.head.raw 0 S (fun S0 => newellaw07_CallsKeeps_d4 N S0 k)) (by kernel_rfl) (congrArg (newellaw07_CallsKeeps_L4.head.raw 0 S) (funext fun S0 => Eq.trans (newellaw07_CallsKeeps_l4_eq N k N (lstC api_PressC (lget S0.tmps 1)) (toI (lget S0.tmps 2)) (toI (lget S0.tmps 7)) (Cod.dec api_CarC (lget (entCs (entAt S0.tab 0))))).symm (by kernel_rfl)))
theorem newellaw07_CallsKeeps_k12 {R : Type} (N : Nat) : LpKey (R := R) E 9 0 (newellaw07_CallsKeeps_lp N) 12 :=
  lpKey_of hE (calls_waits_v2_cal_ok N) (lp := newellaw07_CallsKeeps_lp N) (jn := noJn) newellaw07_CallsKeeps_L12_ok [] kNil (by kernel_rfl) [] jNil (by kernel_rfl) N fun S k =>
    Eq.trans (b := newellaw07_CallsKeeps_L12.head.raw 0 S (fun S0 => newellaw07_CallsKeeps_d12 N S0 k)) (by kernel_rfl) (congrArg (newellaw07_CallsKeeps_L12.head.raw 0 S) (funext fun S0 => Eq.trans (newellaw07_CallsKeeps_l12_eq N k N (toI (lget S0.tmps 2)) (toI (lget S0.tmps 10)) (Cod.dec api_CarC (lget (entCs (entAt S0.tab 0)))) (entNl (entAt S0.tab 1)) (lst api_RideC (entN (entAt S0.tab 1)) (entC (entAt S0.tab 1)))).symm (by kernel_rfl)))
theorem newellaw07_CallsKeeps_k17 {R : Type} (N : Nat) : LpKey (R := R) E 9 0 (newellaw07_CallsKeeps_lp N) 17 :=
  lpKey_of hE (calls_waits_v2_cal_ok N) (lp := newellaw07_CallsKeeps_lp N) (jn := noJn) newellaw07_CallsKeeps_L17_ok [25] (kCons (newellaw07_CallsKeeps_k25 N) kNil) (by kernel_rfl) [] jNil (by kernel_rfl) N fun S k =>
    Eq.trans (b := newellaw07_CallsKeeps_L17.head.raw 0 S (fun S0 => newellaw07_CallsKeeps_d17 N S0 k)) (by kernel_rfl) (congrArg (newellaw07_CallsKeeps_L17.head.raw 0 S) (funext fun S0 => Eq.trans (newellaw07_CallsKeeps_l17_eq N k N (toI (lget S0.tmps 2)) (toI (lget S0.tmps 11)) (Cod.dec api_CarC (lget (entCs (entAt S0.tab 0)))) (entNl (entAt S0.tab 1)) (lst api_RideC (entN (entAt S0.tab 1)) (entC (entAt S0.tab 1)))).symm (by kernel_rfl)))
noncomputable def newellaw07_CallsKeeps_go {R : Type} (N : Nat) (args : List SV) (T : Tab) (kf : SV × Tab → Option R) : Option R :=
  newellaw07_CallsKeeps N (Cod.dec api_CarC (lget (toCs (lget args 0)))) (lstC api_PressC (lget args 1)) (toI (lget args 2)) (fun q0 => kf (lget [.bool q0] 0, []))
noncomputable def newellaw07_CallsKeeps_cal {R : Type} (N : Nat) : Cal R := callM (calls_waits_v2_cal N) 9 0 newellaw07_CallsKeeps_sp (newellaw07_CallsKeeps_go N)
theorem newellaw07_CallsKeeps_cal_ok {R : Type} (N : Nat) : CalOk E.P (newellaw07_CallsKeeps_cal (R := R) N) :=
  callM_ok hE (calls_waits_v2_cal_ok N) (lp := newellaw07_CallsKeeps_lp N) (jn := noJn) (keys := [4, 12, 17, 25]) (kCons (newellaw07_CallsKeeps_k4 N) (kCons (newellaw07_CallsKeeps_k12 N) (kCons (newellaw07_CallsKeeps_k17 N) (kCons (newellaw07_CallsKeeps_k25 N) kNil)))) (by kernel_rfl) (js := []) jNil (by kernel_rfl) newellaw07_CallsKeeps_sp_ok newellaw07_CallsKeeps_rs_ok (fun args T kf => Eq.trans (newellaw07_CallsKeeps_def N (Cod.dec api_CarC (lget (toCs (lget args 0)))) (lstC api_PressC (lget args 1)) (toI (lget args 2)) (fun q0 => kf (lget [.bool q0] 0, []))) (by kernel_rfl : newellaw07_CallsKeeps_run N args T kf = fnM E (calls_waits_v2_cal N) (newellaw07_CallsKeeps_lp N) (noJn) 9 (newellaw07_CallsKeeps_sp.vs args) (newellaw07_CallsKeeps_sp.tab T) 0 (resK newellaw07_CallsKeeps_rs kf)))
theorem keeps_l4 {N : Nat} (hN : 2000 < N) (c : api_Car) {l : Arr api_Press} (hln : l.n ≤ 100) (at_ : Int) {R : Type} (k : Bool → Option R) (k0 : Unit → Option R) (h0 : (∀ i, i < l.n → (l.f i).At ≤ 60) → k0 () = k true) : ∀ (q i n : Nat), i + q = l.n → q < n → (∀ j, j < i → (l.f j).At ≤ 60) →
    newellaw07_CallsKeeps_l4 N n l at_ (i : Int) c k k0 = k true := by
  intro q
  induction q with
  | zero =>
    intro i n h1 h2 h3
    obtain ⟨n, rfl⟩ : ∃ m, n = m + 1 := ⟨n - 1, by omega⟩
    unfold newellaw07_CallsKeeps_l4 newellaw07_CallsKeeps_b4
    rw [ltF (show l.n ≤ i by omega), cond_false]
    exact h0 fun j hj => h3 j (by omega)
  | succ q ih =>
    intro i n h1 h2 h3
    obtain ⟨n, rfl⟩ : ∃ m, n = m + 1 := ⟨n - 1, by omega⟩
    have e0 : decide ((i : Int) < (l.n : Int)) = true := ltT (by omega)
    unfold newellaw07_CallsKeeps_l4 newellaw07_CallsKeeps_b4
    rw [e0, cond_true, nat_nonneg, Bool.true_and, cond_true]
    by_cases hA : api_Press.At (Arr.f l (Int.toNat (i : Int))) > 60
    · rw [decide_eq_true hA, cond_true]
      exact works_eq hN k
    · rw [decide_eq_false hA, cond_false, w64_succ (show i < 1000000000000 by omega)]
      refine ih (i + 1) n (by omega) (by omega) fun j hj => ?_
      by_cases e : j = i
      · subst e
        rw [Int.toNat_natCast] at hA
        omega
      · exact h3 j (by omega)
open Classical in
theorem keeps_l12 {N : Nat} (hN : 2000 < N) {c : Cn} (hc : c.Ok) {l : Arr api_Press} (hl : VL c l) (at_ : Int) (b : Bool) {a : Arr api_Ride} (ha : a.Is 200 (rideAt c l)) {R : Type} (k : Bool → Option R) (k2 : Unit → Option R) : ∀ (q i n : Nat), i + q = 200 → q < n →
    newellaw07_CallsKeeps_l12 N n at_ (i : Int) c.car b a k k2 = k2 () := by
  intro q
  induction q with
  | zero =>
    intro i n h1 h2
    obtain ⟨n, rfl⟩ : ∃ m, n = m + 1 := ⟨n - 1, by omega⟩
    unfold newellaw07_CallsKeeps_l12 newellaw07_CallsKeeps_b12
    rw [ha.1, ltF (show 200 ≤ i by omega), cond_false]
  | succ q ih =>
    intro i n h1 h2
    obtain ⟨n, rfl⟩ : ∃ m, n = m + 1 := ⟨n - 1, by omega⟩
    have e0 : decide ((i : Int) < (a.n : Int)) = true := by rw [ha.1]; exact ltT (by omega)
    unfold newellaw07_CallsKeeps_l12 newellaw07_CallsKeeps_b12
    rw [e0, cond_true, nat_nonneg, Bool.true_and, cond_true, Int.toNat_natCast, ha.2 i (by omega), refRight (by omega) hc, decide_eq_true (show RightI c (rideAt c l i) from (st_ok hc hl allP (i + 1)).right), Bool.not_true, cond_false, w64_succ (show i < 1000000000000 by omega)]
    exact ih (i + 1) n (by omega) (by omega)
theorem keeps_l25 (N : Nat) {c : Cn} {l : Arr api_Press} {at_ : Nat} (hat : at_ ≤ 60) {f : Nat} {m : Nat} (hm : m ≤ 100) (b1 : Bool) {a : Arr api_Ride} (ha : a.Is 200 (rideAt c l)) {t0 : Nat} (ht : at_ < t0 ∧ t0 ≤ at_ + m) (h1 : (st c l allP (t0 + 1)).doing = 2) (h2 : (st c l allP (t0 + 1)).F = f) (h3 : (st c l allP (t0 + 1)).left = c.S) {R : Type} (k : Bool → Option R) : ∀ (q t n : Nat) (b : Bool), t + q = at_ + m + 1 → q < n → (t0 < t → b = true) →
    newellaw07_CallsKeeps_l25 N n (at_ : Int) (f : Int) (m : Int) b (t : Int) c.car b1 a k = k true := by
  have ew : w64 ((at_ : Int) + (m : Int)) = ((at_ + m : Nat) : Int) := by rw [w64_eq (by omega) (by omega)]; omega
  intro q
  induction q with
  | zero =>
    intro t n b e1 e2 e3
    obtain ⟨n, rfl⟩ : ∃ m, n = m + 1 := ⟨n - 1, by omega⟩
    unfold newellaw07_CallsKeeps_l25 newellaw07_CallsKeeps_b25
    rw [ew, leN, decide_eq_false (show ¬ t ≤ at_ + m by omega), cond_false, e3 (by omega)]
  | succ q ih =>
    intro t n b e1 e2 e3
    obtain ⟨n, rfl⟩ : ∃ m, n = m + 1 := ⟨n - 1, by omega⟩
    have e0 : decide ((t : Int) < (a.n : Int)) = true := by rw [ha.1]; exact ltT (by omega)
    unfold newellaw07_CallsKeeps_l25 newellaw07_CallsKeeps_b25
    rw [ew, leN, decide_eq_true (show t ≤ at_ + m by omega), cond_true, e0, nat_nonneg, Bool.true_and, w64_succ (show t < 1000000000000 by omega)]
    cases b with
    | true =>
      rw [cond_true]
      exact ih (t + 1) n true (by omega) (by omega) fun _ => rfl
    | false =>
      have hle : t ≤ t0 := Classical.byContradiction fun hn => by have := e3 (by omega); cases this
      have hr : a.f t = (st c l allP (t + 1)).ride := ha.2 t (by omega)
      rw [cond_false, cond_true, cond_true, Int.toNat_natCast, hr]
      by_cases e : t = t0
      · subst e
        have g1 : (api_Ride.Doing (st c l allP (t + 1)).ride == (2 : Int)) = true := by
          show (((st c l allP (t + 1)).doing : Int) == 2) = true
          rw [h1]; rfl
        have g2 : (api_Ride.Floor (st c l allP (t + 1)).ride == (f : Int)) = true := by
          show (((st c l allP (t + 1)).F : Int) == _) = true
          rw [h2, BEq.rfl]
        have g3 : (api_Ride.Left (st c l allP (t + 1)).ride == api_Car.Stop c.car) = true := by
          show (((st c l allP (t + 1)).left : Int) == (c.S : Int)) = true
          rw [h3, BEq.rfl]
        rw [g1, cond_true, g2, cond_true, g3]
        exact ih (t + 1) n true (by omega) (by omega) fun _ => rfl
      · cases (api_Ride.Doing (st c l allP (t + 1)).ride == (2 : Int))
        · exact ih (t + 1) n false (by omega) (by omega) fun h => by omega
        · cases (api_Ride.Floor (st c l allP (t + 1)).ride == (f : Int))
          · exact ih (t + 1) n false (by omega) (by omega) fun h => by omega
          · exact ih (t + 1) n _ (by omega) (by omega) fun h => by omega
theorem keeps_l17 {N : Nat} (hN : 2000 < N) {c : Cn} (hc : c.Ok) {l : Arr api_Press} (hl : VL c l) {at_ : Nat} (hat : at_ ≤ 60) (b : Bool) {a : Arr api_Ride} (ha : a.Is 200 (rideAt c l)) {R : Type} (k : Bool → Option R) (k2 : Unit → Option R) : ∀ (q i n : Nat), i + q = c.H + 1 → q < n →
    newellaw07_CallsKeeps_l17 N n (at_ : Int) (i : Int) c.car b a k k2 = k2 () := by
  have h5 := hc.h5
  intro q
  induction q with
  | zero =>
    intro i n h1 h2
    obtain ⟨n, rfl⟩ : ∃ m, n = m + 1 := ⟨n - 1, by omega⟩
    unfold newellaw07_CallsKeeps_l17 newellaw07_CallsKeeps_b17
    have e : decide ((i : Int) ≤ api_Car.High c.car) = false := decide_eq_false (by show ¬ _ ≤ ((c.H : Nat) : Int); omega)
    rw [e, cond_false]
  | succ q ih =>
    intro i n h1 h2
    obtain ⟨n, rfl⟩ : ∃ m, n = m + 1 := ⟨n - 1, by omega⟩
    have e : decide ((i : Int) ≤ api_Car.High c.car) = true := decide_eq_true (by show _ ≤ ((c.H : Nat) : Int); omega)
    have e0 : decide ((at_ : Int) < (a.n : Int)) = true := by rw [ha.1]; exact ltT (by omega)
    have hok := st_ok hc hl allP (at_ + 1)
    have hr : a.f at_ = (st c l allP (at_ + 1)).ride := ha.2 at_ (by omega)
    have next := ih (i + 1) n (by omega) (by omega)
    unfold newellaw07_CallsKeeps_l17 newellaw07_CallsKeeps_b17
    rw [e, cond_true, nat_nonneg, Bool.true_and, e0, cond_true, Int.toNat_natCast, hr, wrapU _ (show i < 64 by omega), natF, cond_false, w64_succ (show i < 1000000000000 by omega)]
    have hb := bit0 i (by omega) _ hok.w6
    have hb' : (w64 (↑(BitVec.toNat (BitVec.ofInt (IntKind.bits IntKind.i64) (Int.fdiv (api_Ride.Wants (st c l allP (at_ + 1)).ride) ((2 : Int) ^ min (Int.toNat (i : Int)) (IntKind.bits IntKind.i64))) &&& BitVec.ofInt (IntKind.bits IntKind.i64) (1 : Int))) : Int) == (0 : Int)) = !(st c l allP (at_ + 1)).W.testBit i := hb
    rw [hb']
    cases hw : (st c l allP (at_ + 1)).W.testBit i with
    | false =>
      rw [Bool.not_false, cond_true]
      exact next
    | true =>
      rw [Bool.not_true, cond_false, cond_true, bound_eq hN hc hok hw]
      have hf := hok.w i hw
      have hp := pot_le hc hok hf.2
      obtain ⟨d, d1, d2, d3, d4⟩ := served hc _ (fun j => pP l allP (at_ + 1 + j)) (fun t => pP_fl hc hl allP _) _ hok hw (Nat.le_refl _)
      have hone : 1 ≤ pot c (st c l allP (at_ + 1)) i := by omega
      have e0 : ((0 : Int) != 0) = false := rfl
      rw [e0, cond_false, decide_eq_false (show ¬ ((pot c (st c l allP (at_ + 1)) i : Nat) : Int) < 1 by omega), cond_false, decide_eq_false (show ¬ ((pot c (st c l allP (at_ + 1)) i : Nat) : Int) > 100 by omega), cond_false, w64_succ (show at_ < 1000000000000 by omega)]
      have hwd := (d4 d (Nat.le_refl _)).1
      rw [← st_run] at d2 hwd
      have stand := serve_stand hc (st_ok hc hl allP (at_ + 1 + d)) hwd d2
      have l25 := keeps_l25 N (c := c) (l := l) hat (f := i) (m := pot c (st c l allP (at_ + 1)) i) (by omega) b ha (t0 := at_ + 1 + d) (by omega) stand.1 stand.2.1 stand.2.2 (fun r943 => bif !r943 then k false else newellaw07_CallsKeeps_l17 N n (at_ : Int) ((i + 1 : Nat) : Int) c.car b a k k2) (pot c (st c l allP (at_ + 1)) i) (at_ + 1) N false (by omega) (by omega) (fun h => by omega)
      refine l25.trans ?_
      exact next
theorem callsKeeps_true (c : api_Car) (l : Arr api_Press) (at_ : Int) (hc : c.wf) (hl : l.n ≤ maxLen) (hl2 : ∀ i, i < l.n → (l.f i).wf) (hf : i64 at_) : ∃ N, newellaw07_CallsKeeps N c l at_ (fun q0 => okK (lget [.bool q0] 0, [])) = some () := by
  refine ⟨3000, ?_⟩
  have hN : 2000 < 3000 := by decide
  have wk : newellaw07_works 3000 (fun r => okK (lget [.bool r] 0, [])) = some () := works_eq hN _
  rw [newellaw07_CallsKeeps_def]
  unfold newellaw07_CallsKeeps_m
  by_cases hv : VC c
  rotate_left
  · rw [tall_no 3000 hv, cond_false]
    by_cases h1 : l.n ≤ 10
    · rw [decide_eq_false (show ¬ (l.n : Int) > 10 by omega), cond_false, refCheck (by decide) _ (by omega)]
      have e1 : (errC c l != 0) = true := by
        have : errC c l ≠ 0 := fun h => by
          obtain ⟨n, hn, rfl, _⟩ := err_zero h
          exact hv hn.vc
        simpa using this
      rw [e1, cond_true]
      exact wk
    · rw [decide_eq_true (show (l.n : Int) > 10 by omega), cond_true]
      exact wk
  obtain ⟨n, hn, rfl⟩ := hv.cn
  rw [tall_eq 3000 hn]
  cases decide (Sm n)
  · exact wk
  rw [Bool.not_true, cond_false]
  by_cases h1 : l.n ≤ 10
  rotate_left
  · rw [decide_eq_true (show (l.n : Int) > 10 by omega), cond_true]
    exact wk
  rw [decide_eq_false (show ¬ (l.n : Int) > 10 by omega), cond_false, refCheck (by decide) _ (by omega)]
  by_cases he : errC n.car l = 0
  rotate_left
  · have e1 : (errC n.car l != 0) = true := by simpa using he
    rw [e1, cond_true]
    exact wk
  have hvl : VL n l := by
    obtain ⟨n', hn', hcn', hvl⟩ := err_zero he
    have : n = n' := by
      unfold Cn.car at hcn'
      obtain ⟨a1, a2, a3, a4, a5⟩ := n
      obtain ⟨b1, b2, b3, b4, b5⟩ := n'
      simp only [api_Car.mk.injEq] at hcn'
      obtain ⟨k1, k2, k3, k4, k5⟩ := hcn'
      congr 1 <;> omega
    rw [this]; exact hvl
  have e0 : ((0 : Int) != 0) = false := rfl
  rw [he, e0, cond_false]
  by_cases q1 : at_ < 0
  · rw [decide_eq_true q1, cond_true]; exact wk
  rw [decide_eq_false q1, cond_false]
  by_cases q2 : at_ > 60
  · rw [decide_eq_true q2, cond_true]; exact wk
  rw [decide_eq_false q2, cond_false]
  obtain ⟨t, rfl⟩ : ∃ t : Nat, at_ = (t : Int) := ⟨at_.toNat, by omega⟩
  have h5 := hn.h5
  have hLH : n.L ≤ n.H := Nat.le_trans hn.ls hn.sh
  refine (keeps_l4 hN n.car (by omega) (t : Int) (fun r917 => okK (lget [.bool r917] 0, [])) _ (fun h60 => ?_) l.n 0 3000 (by omega) (by omega) (fun j hj => by omega)).trans rfl
  obtain ⟨b, a, g1, g2⟩ := play_eq hN hn hvl (T := 200) (by omega)
  refine (g2 _).trans ?_
  rw [e0, cond_false, g1.1]
  show (bif ((200 : Int) != 200) then _ else _) = _
  rw [bne_self_eq_false, cond_false]
  refine (keeps_l12 hN hn hvl (t : Int) b g1 _ _ 200 0 3000 (by omega) (by omega)).trans ?_
  refine (keeps_l17 hN hn hvl (show t ≤ 60 by omega) b g1 _ _ (n.H + 1 - n.L) n.L 3000 (by omega) (by omega)).trans ?_
  exact wk
end
end Go.Proofs.Ytlphgonhenegoaa
