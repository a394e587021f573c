import Derived.Test.YtpillmoddoccfabDoorHaP4
import Derived.Test.YtpillmoddoccfabDoorCiP3
import Derived.Test.YtpillmoddoccfabDoorSxRun
set_option maxRecDepth 100000
set_option maxHeartbeats 0
set_option linter.unusedSectionVars false
set_option linter.unusedVariables false
set_option linter.unusedSimpArgs false
namespace Go.Proofs.YtpillmoddoccfabDoor
open Go.Sx
noncomputable section
theorem neweltop_measures_closed {R : Type} (kf : SV × Tab → Option R) : (runG E 400 60).run 8 [] [] 0 kf = kf (.bool true, []) := by kernel_rfl
def neweltop_measures_m {R : Type} (N : Nat) (k : Bool → Option R) : Option R :=
  k true
noncomputable def neweltop_measures {R : Type} : Nat → (Bool → Option R) → Option R := lock (@neweltop_measures_m R)
theorem neweltop_measures_def {R : Type} (N : Nat) (k : Bool → Option R) : neweltop_measures N k = neweltop_measures_m N k := by unfold neweltop_measures; rw [lock_eq]
theorem neweltop_measures_eq {R : Type} (N : Nat) (k : Bool → Option R) : neweltop_measures N k = k true := by rw [neweltop_measures_def]; rfl
def neweltop_measures_sp : Sp := ⟨[], []⟩
noncomputable def neweltop_measures_go {R : Type} (N : Nat) (args : List SV) (T : Tab) (kf : SV × Tab → Option R) : Option R :=
  neweltop_measures N (fun q0 => kf (lget [.bool q0] 0, []))
noncomputable def neweltop_measures_cal {R : Type} (N : Nat) : Cal R := callM (circuit_Runs_cal N) 8 0 neweltop_measures_sp (neweltop_measures_go N)
theorem neweltop_measures_cal_ok {R : Type} (N : Nat) : CalOk E.P (neweltop_measures_cal (R := R) N) :=
  callM_eq (m' := fun args T kf => kf (.bool true, [])) (fun args T kf => neweltop_measures_def N (fun q0 => kf (lget [.bool q0] 0, []))) (closed_ok hE (circuit_Runs_cal_ok N) neweltop_measures_closed)
def neweltop_TopHalted_L13 : LoopSp := ⟨⟨[3, 4, 5, 9, 11, 12, 13, 14], ⟨(dr 3 ((rPtr 0 0) :: (rPtr 1 0) :: (rPtr 2 0) :: (dr 3 ((rRow 3) :: (dr 1 ((rInt .i64) :: (rBool) :: (rInt .i64) :: (rInt .i64) :: (dr 255 []))))))), [(0, eBlkC api_CircuitC), (1, eBlkC api_MachineC), (2, eBlkC neweltop_InterlockC), (3, eRow api_PlaceC)]⟩, 4⟩, [(Option.none, ⟨[6], ⟨(dr 6 ((rBool) :: (dr 263 []))), []⟩, 0⟩), (some 2, ⟨[3, 4, 5, 9, 11, 12, 13], ⟨(dr 3 ((rPtr 0 0) :: (rPtr 1 0) :: (rPtr 2 0) :: (dr 3 ((rRow 3) :: (dr 1 ((rInt .i64) :: (rBool) :: (rInt .i64) :: (dr 256 []))))))), [(0, eBlkC api_CircuitC), (1, eBlkC api_MachineC), (2, eBlkC neweltop_InterlockC), (3, eRow api_PlaceC)]⟩, 4⟩)]⟩
theorem neweltop_TopHalted_L13_ok : neweltop_TopHalted_L13.Ok := ⟨⟨(drCons 3 (allCons (rPtr_ok 0 0) (allCons (rPtr_ok 1 0) (allCons (rPtr_ok 2 0) (drCons 3 (allCons (rRow_ok 3) (drCons 1 (allCons (rInt_ok .i64) (allCons rBool_ok (allCons (rInt_ok .i64) (allCons (rInt_ok .i64) (drCons 255 allNil)))))))))))), (eCons (eBlkC_ok api_CircuitC_ok api_CircuitC_len) (eCons (eBlkC_ok api_MachineC_ok api_MachineC_len) (eCons (eBlkC_ok neweltop_InterlockC_ok neweltop_InterlockC_len) (eCons (eRow_ok api_PlaceC_ok) eNil))))⟩, (xCons ⟨(drCons 6 (allCons rBool_ok (drCons 263 allNil))), eNil⟩ (xCons ⟨(drCons 3 (allCons (rPtr_ok 0 0) (allCons (rPtr_ok 1 0) (allCons (rPtr_ok 2 0) (drCons 3 (allCons (rRow_ok 3) (drCons 1 (allCons (rInt_ok .i64) (allCons rBool_ok (allCons (rInt_ok .i64) (drCons 256 allNil))))))))))), (eCons (eBlkC_ok api_CircuitC_ok api_CircuitC_len) (eCons (eBlkC_ok api_MachineC_ok api_MachineC_len) (eCons (eBlkC_ok neweltop_InterlockC_ok neweltop_InterlockC_len) (eCons (eRow_ok api_PlaceC_ok) eNil))))⟩ xNil))⟩
def neweltop_TopHalted_h13 (v829 : Int) (v830 : Bool) (v831 : Int) (v832 : Int) (v833 : api_Circuit) (v834 : api_Machine) (v835 : neweltop_Interlock) (v836 : Bool) (v837 : Arr api_Place) : St := ⟨(un 3 ((.ptr 0 0) :: (.ptr 1 0) :: (.ptr 2 0) :: (un 3 ((.row 3) :: (un 1 ((.int .i64 v829) :: (.bool v830) :: (.int .i64 v831) :: (.int .i64 v832) :: (un 255 []))))))), [(0, .blk (Cod.enc api_CircuitC v833)), (1, .blk (Cod.enc api_MachineC v834)), (2, .blk (Cod.enc neweltop_InterlockC v835)), (3, rowE api_PlaceC v836 v837)], 4⟩
def neweltop_TopHalted_x13_r (q0 : Bool) : St := ⟨(un 6 ((.bool q0) :: (un 263 []))), [], 0⟩
def neweltop_TopHalted_x13_2 (v829 : Int) (v831 : Int) (v833 : api_Circuit) (v834 : api_Machine) (v835 : neweltop_Interlock) (v836 : Bool) (v837 : Arr api_Place) (q1 : Bool) : St := ⟨(un 3 ((.ptr 0 0) :: (.ptr 1 0) :: (.ptr 2 0) :: (un 3 ((.row 3) :: (un 1 ((.int .i64 v829) :: (.bool q1) :: (.int .i64 v831) :: (un 256 []))))))), [(0, .blk (Cod.enc api_CircuitC v833)), (1, .blk (Cod.enc api_MachineC v834)), (2, .blk (Cod.enc neweltop_InterlockC v835)), (3, rowE api_PlaceC v836 v837)], 4⟩
def neweltop_TopHalted_b13 {R : Type} (N : Nat) (rc : Int → Bool → Int → Int → api_Circuit → api_Machine → neweltop_Interlock → Bool → Arr api_Place → Option R) (v829 : Int) (v830 : Bool) (v831 : Int) (v832 : Int) (v833 : api_Circuit) (v834 : api_Machine) (v835 : neweltop_Interlock) (v836 : Bool) (v837 : Arr api_Place) (kr : Bool → Option R) (k2 : Bool → Option R) : Option R :=
  bif decide (v832 < w64 ((1 : Int) * (2 : Int) ^ min (Int.toNat (IntKind.wrap IntKind.u64 (↑(Arr.n (api_Machine.Inputs v834)) : Int))) (IntKind.bits IntKind.i64))) then
   bif w64 (↑(BitVec.toNat (BitVec.ofInt (IntKind.bits IntKind.i64) v832 &&& BitVec.ofInt (IntKind.bits IntKind.i64) v829)) : Int) != (0 : Int) then
    rc v829 v830 v831 (w64 (v832 + (1 : Int))) v833 v834 v835 v836 v837
   else
    bif decide ((0 : Int) ≤ v831) && decide (v831 < (↑(Arr.n v837) : Int)) then
     control_Step N v834 (Arr.f v837 (Int.toNat v831)) v832 (fun r838 r839 =>
     bif r839 != (0 : Int) then
      kr false
     else
      r4_IsPlace N v834 r838 (fun r840 =>
      bif !r840 then
       kr false
      else
       bif v830 then
        bif decide ((0 : Int) ≤ api_Place.State r838) && decide (api_Place.State r838 < (↑(Arr.n (api_Machine.States v834)) : Int)) then
         bif decide (IntKind.wrap IntKind.u64 (neweltop_Interlock.Output v835) < (0 : Int)) then
          Option.none
         else
          rc v829 (w64 (↑(BitVec.toNat (BitVec.ofInt (IntKind.bits IntKind.i64) (Int.fdiv (api_State.Shows (Arr.f (api_Machine.States v834) (Int.toNat (api_Place.State r838)))) ((2 : Int) ^ min (Int.toNat (IntKind.wrap IntKind.u64 (neweltop_Interlock.Output v835))) (IntKind.bits IntKind.i64))) &&& BitVec.ofInt (IntKind.bits IntKind.i64) (1 : Int))) : Int) == (0 : Int)) v831 (w64 (v832 + (1 : Int))) v833 v834 v835 v836 v837
        else
         Option.none
       else
        rc v829 false v831 (w64 (v832 + (1 : Int))) v833 v834 v835 v836 v837))
    else
     Option.none
  else
   k2 v830
def neweltop_TopHalted_l13 {R : Type} (N : Nat) : Nat → Int → Bool → Int → Int → api_Circuit → api_Machine → neweltop_Interlock → Bool → Arr api_Place → (Bool → Option R) → (Bool → Option R) → Option R
  | 0, _, _, _, _, _, _, _, _, _, _, _ => Option.none
  | n + 1, v829, v830, v831, v832, v833, v834, v835, v836, v837, kr, k2 => neweltop_TopHalted_b13 N (fun v829 v830 v831 v832 v833 v834 v835 v836 v837 => neweltop_TopHalted_l13 N n v829 v830 v831 v832 v833 v834 v835 v836 v837 kr k2) v829 v830 v831 v832 v833 v834 v835 v836 v837 kr k2
def neweltop_TopHalted_L10 : LoopSp := ⟨⟨[3, 4, 5, 9, 11, 12, 13], ⟨(dr 3 ((rPtr 0 0) :: (rPtr 1 0) :: (rPtr 2 0) :: (dr 3 ((rRow 3) :: (dr 1 ((rInt .i64) :: (rBool) :: (rInt .i64) :: (dr 256 []))))))), [(0, eBlkC api_CircuitC), (1, eBlkC api_MachineC), (2, eBlkC neweltop_InterlockC), (3, eRow api_PlaceC)]⟩, 4⟩, [(Option.none, ⟨[6], ⟨(dr 6 ((rBool) :: (dr 263 []))), []⟩, 0⟩), (some 0, ⟨[3, 4, 5, 11, 12], ⟨(dr 3 ((rPtr 0 0) :: (rPtr 1 0) :: (rPtr 2 0) :: (dr 5 ((rInt .i64) :: (rBool) :: (dr 257 []))))), [(0, eBlkC api_CircuitC), (1, eBlkC api_MachineC), (2, eBlkC neweltop_InterlockC)]⟩, 3⟩)]⟩
theorem neweltop_TopHalted_L10_ok : neweltop_TopHalted_L10.Ok := ⟨⟨(drCons 3 (allCons (rPtr_ok 0 0) (allCons (rPtr_ok 1 0) (allCons (rPtr_ok 2 0) (drCons 3 (allCons (rRow_ok 3) (drCons 1 (allCons (rInt_ok .i64) (allCons rBool_ok (allCons (rInt_ok .i64) (drCons 256 allNil))))))))))), (eCons (eBlkC_ok api_CircuitC_ok api_CircuitC_len) (eCons (eBlkC_ok api_MachineC_ok api_MachineC_len) (eCons (eBlkC_ok neweltop_InterlockC_ok neweltop_InterlockC_len) (eCons (eRow_ok api_PlaceC_ok) eNil))))⟩, (xCons ⟨(drCons 6 (allCons rBool_ok (drCons 263 allNil))), eNil⟩ (xCons ⟨(drCons 3 (allCons (rPtr_ok 0 0) (allCons (rPtr_ok 1 0) (allCons (rPtr_ok 2 0) (drCons 5 (allCons (rInt_ok .i64) (allCons rBool_ok (drCons 257 allNil)))))))), (eCons (eBlkC_ok api_CircuitC_ok api_CircuitC_len) (eCons (eBlkC_ok api_MachineC_ok api_MachineC_len) (eCons (eBlkC_ok neweltop_InterlockC_ok neweltop_InterlockC_len) eNil)))⟩ xNil))⟩
def neweltop_TopHalted_h10 (v821 : Int) (v822 : Bool) (v823 : Int) (v824 : api_Circuit) (v825 : api_Machine) (v826 : neweltop_Interlock) (v827 : Bool) (v828 : Arr api_Place) : St := ⟨(un 3 ((.ptr 0 0) :: (.ptr 1 0) :: (.ptr 2 0) :: (un 3 ((.row 3) :: (un 1 ((.int .i64 v821) :: (.bool v822) :: (.int .i64 v823) :: (un 256 []))))))), [(0, .blk (Cod.enc api_CircuitC v824)), (1, .blk (Cod.enc api_MachineC v825)), (2, .blk (Cod.enc neweltop_InterlockC v826)), (3, rowE api_PlaceC v827 v828)], 4⟩
def neweltop_TopHalted_x10_r (q0 : Bool) : St := ⟨(un 6 ((.bool q0) :: (un 263 []))), [], 0⟩
def neweltop_TopHalted_x10_0 (v821 : Int) (v824 : api_Circuit) (v825 : api_Machine) (v826 : neweltop_Interlock) (q1 : Bool) : St := ⟨(un 3 ((.ptr 0 0) :: (.ptr 1 0) :: (.ptr 2 0) :: (un 5 ((.int .i64 v821) :: (.bool q1) :: (un 257 []))))), [(0, .blk (Cod.enc api_CircuitC v824)), (1, .blk (Cod.enc api_MachineC v825)), (2, .blk (Cod.enc neweltop_InterlockC v826))], 3⟩
def neweltop_TopHalted_b10 {R : Type} (N : Nat) (rc : Int → Bool → Int → api_Circuit → api_Machine → neweltop_Interlock → Bool → Arr api_Place → Option R) (v821 : Int) (v822 : Bool) (v823 : Int) (v824 : api_Circuit) (v825 : api_Machine) (v826 : neweltop_Interlock) (v827 : Bool) (v828 : Arr api_Place) (kr : Bool → Option R) (k0 : Bool → Option R) : Option R :=
  bif decide (v823 < (↑(Arr.n v828) : Int)) then
   neweltop_TopHalted_l13 N N v821 v822 v823 (0 : Int) v824 v825 v826 v827 v828 (fun r841 =>
    kr r841) (fun r842 =>
    rc v821 r842 (w64 (v823 + (1 : Int))) v824 v825 v826 v827 v828)
  else
   k0 v822
def neweltop_TopHalted_l10 {R : Type} (N : Nat) : Nat → Int → Bool → Int → api_Circuit → api_Machine → neweltop_Interlock → Bool → Arr api_Place → (Bool → Option R) → (Bool → Option R) → Option R
  | 0, _, _, _, _, _, _, _, _, _, _ => Option.none
  | n + 1, v821, v822, v823, v824, v825, v826, v827, v828, kr, k0 => neweltop_TopHalted_b10 N (fun v821 v822 v823 v824 v825 v826 v827 v828 => neweltop_TopHalted_l10 N n v821 v822 v823 v824 v825 v826 v827 v828 kr k0) v821 v822 v823 v824 v825 v826 v827 v828 kr k0
def neweltop_TopHalted_L100001 : LoopSp := ⟨⟨[3, 4, 5, 11, 17, 18, 19, 20, 22], ⟨(dr 3 ((rPtr 0 0) :: (rPtr 1 0) :: (rPtr 2 0) :: (dr 5 ((rInt .i64) :: (dr 5 ((rInt .i64) :: (rPtr 3 0) :: (rInt .i64) :: (rInt .i64) :: (dr 1 ((rInt .i64) :: (dr 247 []))))))))), [(0, eBlkC api_CircuitC), (1, eBlkC api_MachineC), (2, eBlkC neweltop_InterlockC), (3, eBlkC api_PlaceC)]⟩, 4⟩, [(Option.none, ⟨[6], ⟨(dr 6 ((rBool) :: (dr 263 []))), []⟩, 0⟩), (some 1000000, ⟨[3, 4, 5, 11, 17, 18, 19], ⟨(dr 3 ((rPtr 0 0) :: (rPtr 1 0) :: (rPtr 2 0) :: (dr 5 ((rInt .i64) :: (dr 5 ((rInt .i64) :: (rPtr 3 0) :: (rInt .i64) :: (dr 250 []))))))), [(0, eBlkC api_CircuitC), (1, eBlkC api_MachineC), (2, eBlkC neweltop_InterlockC), (3, eBlkC api_PlaceC)]⟩, 4⟩)]⟩
theorem neweltop_TopHalted_L100001_ok : neweltop_TopHalted_L100001.Ok := ⟨⟨(drCons 3 (allCons (rPtr_ok 0 0) (allCons (rPtr_ok 1 0) (allCons (rPtr_ok 2 0) (drCons 5 (allCons (rInt_ok .i64) (drCons 5 (allCons (rInt_ok .i64) (allCons (rPtr_ok 3 0) (allCons (rInt_ok .i64) (allCons (rInt_ok .i64) (drCons 1 (allCons (rInt_ok .i64) (drCons 247 allNil)))))))))))))), (eCons (eBlkC_ok api_CircuitC_ok api_CircuitC_len) (eCons (eBlkC_ok api_MachineC_ok api_MachineC_len) (eCons (eBlkC_ok neweltop_InterlockC_ok neweltop_InterlockC_len) (eCons (eBlkC_ok api_PlaceC_ok api_PlaceC_len) eNil))))⟩, (xCons ⟨(drCons 6 (allCons rBool_ok (drCons 263 allNil))), eNil⟩ (xCons ⟨(drCons 3 (allCons (rPtr_ok 0 0) (allCons (rPtr_ok 1 0) (allCons (rPtr_ok 2 0) (drCons 5 (allCons (rInt_ok .i64) (drCons 5 (allCons (rInt_ok .i64) (allCons (rPtr_ok 3 0) (allCons (rInt_ok .i64) (drCons 250 allNil))))))))))), (eCons (eBlkC_ok api_CircuitC_ok api_CircuitC_len) (eCons (eBlkC_ok api_MachineC_ok api_MachineC_len) (eCons (eBlkC_ok neweltop_InterlockC_ok neweltop_InterlockC_len) (eCons (eBlkC_ok api_PlaceC_ok api_PlaceC_len) eNil))))⟩ xNil))⟩
def neweltop_TopHalted_h100001 (v864 : Int) (v865 : Int) (v866 : Int) (v867 : Int) (v868 : Int) (v869 : api_Circuit) (v870 : api_Machine) (v871 : neweltop_Interlock) (v872 : api_Place) : St := ⟨(un 3 ((.ptr 0 0) :: (.ptr 1 0) :: (.ptr 2 0) :: (un 5 ((.int .i64 v864) :: (un 5 ((.int .i64 v865) :: (.ptr 3 0) :: (.int .i64 v866) :: (.int .i64 v867) :: (un 1 ((.int .i64 v868) :: (un 247 []))))))))), [(0, .blk (Cod.enc api_CircuitC v869)), (1, .blk (Cod.enc api_MachineC v870)), (2, .blk (Cod.enc neweltop_InterlockC v871)), (3, .blk (Cod.enc api_PlaceC v872))], 4⟩
def neweltop_TopHalted_x100001_r (q0 : Bool) : St := ⟨(un 6 ((.bool q0) :: (un 263 []))), [], 0⟩
def neweltop_TopHalted_x100001_n (v864 : Int) (v865 : Int) (v866 : Int) (v869 : api_Circuit) (v870 : api_Machine) (v871 : neweltop_Interlock) (q6 : api_Place) : St := ⟨(un 3 ((.ptr 0 0) :: (.ptr 1 0) :: (.ptr 2 0) :: (un 5 ((.int .i64 v864) :: (un 5 ((.int .i64 v865) :: (.ptr 3 0) :: (.int .i64 v866) :: (un 250 []))))))), [(0, .blk (Cod.enc api_CircuitC v869)), (1, .blk (Cod.enc api_MachineC v870)), (2, .blk (Cod.enc neweltop_InterlockC v871)), (3, .blk (Cod.enc api_PlaceC q6))], 4⟩
def neweltop_TopHalted_j1_m {R : Type} (N : Nat) (v864 : Int) (v865 : Int) (v866 : Int) (v867 : Int) (v868 : Int) (v869 : api_Circuit) (v870 : api_Machine) (v871 : neweltop_Interlock) (v872 : api_Place) (kr : Bool → Option R) (kn : api_Place → Option R) : Option R :=
  control_Step N v870 v872 v867 (fun r873 r874 =>
  bif v868 != (0 : Int) then
   kr false
  else
   bif r874 != (0 : Int) then
    kr false
   else
    r4_IsPlace N v870 r873 (fun r875 =>
    bif !r875 then
     kr false
    else
     bif decide ((0 : Int) ≤ v866) && decide (v866 < (↑(Arr.n (neweltop_Interlock.Run v871)) : Int)) then
      bif neweltop_Moment.Hazards (Arr.f (neweltop_Interlock.Run v871) (Int.toNat v866)) != (0 : Int) then
       bif decide ((0 : Int) ≤ api_Place.State r873) && decide (api_Place.State r873 < (↑(Arr.n (api_Machine.States v870)) : Int)) then
        bif decide (IntKind.wrap IntKind.u64 (neweltop_Interlock.Output v871) < (0 : Int)) then
         Option.none
        else
         bif w64 (↑(BitVec.toNat (BitVec.ofInt (IntKind.bits IntKind.i64) (Int.fdiv (api_State.Shows (Arr.f (api_Machine.States v870) (Int.toNat (api_Place.State r873)))) ((2 : Int) ^ min (Int.toNat (IntKind.wrap IntKind.u64 (neweltop_Interlock.Output v871))) (IntKind.bits IntKind.i64))) &&& BitVec.ofInt (IntKind.bits IntKind.i64) (1 : Int))) : Int) == (1 : Int) then
          kr false
         else
          kn r873
       else
        Option.none
      else
       kn r873
     else
      Option.none))
noncomputable def neweltop_TopHalted_j1 {R : Type} : Nat → Int → Int → Int → Int → Int → api_Circuit → api_Machine → neweltop_Interlock → api_Place → (Bool → Option R) → (api_Place → Option R) → Option R := lock (@neweltop_TopHalted_j1_m R)
theorem neweltop_TopHalted_j1_def {R : Type} (N : Nat) (v864 : Int) (v865 : Int) (v866 : Int) (v867 : Int) (v868 : Int) (v869 : api_Circuit) (v870 : api_Machine) (v871 : neweltop_Interlock) (v872 : api_Place) (kr : Bool → Option R) (kn : api_Place → Option R) : neweltop_TopHalted_j1 N v864 v865 v866 v867 v868 v869 v870 v871 v872 kr kn = neweltop_TopHalted_j1_m N v864 v865 v866 v867 v868 v869 v870 v871 v872 kr kn := by unfold neweltop_TopHalted_j1; rw [lock_eq]
def neweltop_TopHalted_L27 : LoopSp := ⟨⟨[3, 4, 5, 11, 17, 18, 19], ⟨(dr 3 ((rPtr 0 0) :: (rPtr 1 0) :: (rPtr 2 0) :: (dr 5 ((rInt .i64) :: (dr 5 ((rInt .i64) :: (rPtr 3 0) :: (rInt .i64) :: (dr 250 []))))))), [(0, eBlkC api_CircuitC), (1, eBlkC api_MachineC), (2, eBlkC neweltop_InterlockC), (3, eBlkC api_PlaceC)]⟩, 4⟩, [(Option.none, ⟨[6], ⟨(dr 6 ((rBool) :: (dr 263 []))), []⟩, 0⟩), (some 4, ⟨[], ⟨(dr 270 []), []⟩, 0⟩)]⟩
theorem neweltop_TopHalted_L27_ok : neweltop_TopHalted_L27.Ok := ⟨⟨(drCons 3 (allCons (rPtr_ok 0 0) (allCons (rPtr_ok 1 0) (allCons (rPtr_ok 2 0) (drCons 5 (allCons (rInt_ok .i64) (drCons 5 (allCons (rInt_ok .i64) (allCons (rPtr_ok 3 0) (allCons (rInt_ok .i64) (drCons 250 allNil))))))))))), (eCons (eBlkC_ok api_CircuitC_ok api_CircuitC_len) (eCons (eBlkC_ok api_MachineC_ok api_MachineC_len) (eCons (eBlkC_ok neweltop_InterlockC_ok neweltop_InterlockC_len) (eCons (eBlkC_ok api_PlaceC_ok api_PlaceC_len) eNil))))⟩, (xCons ⟨(drCons 6 (allCons rBool_ok (drCons 263 allNil))), eNil⟩ (xCons ⟨(drCons 270 allNil), eNil⟩ xNil))⟩
def neweltop_TopHalted_h27 (v851 : Int) (v852 : Int) (v853 : Int) (v854 : api_Circuit) (v855 : api_Machine) (v856 : neweltop_Interlock) (v857 : api_Place) : St := ⟨(un 3 ((.ptr 0 0) :: (.ptr 1 0) :: (.ptr 2 0) :: (un 5 ((.int .i64 v851) :: (un 5 ((.int .i64 v852) :: (.ptr 3 0) :: (.int .i64 v853) :: (un 250 []))))))), [(0, .blk (Cod.enc api_CircuitC v854)), (1, .blk (Cod.enc api_MachineC v855)), (2, .blk (Cod.enc neweltop_InterlockC v856)), (3, .blk (Cod.enc api_PlaceC v857))], 4⟩
def neweltop_TopHalted_x27_r (q0 : Bool) : St := ⟨(un 6 ((.bool q0) :: (un 263 []))), [], 0⟩
def neweltop_TopHalted_x27_4  : St := ⟨(un 270 []), [], 0⟩
def neweltop_TopHalted_b27 {R : Type} (N : Nat) (rc : Int → Int → Int → api_Circuit → api_Machine → neweltop_Interlock → api_Place → Option R) (v851 : Int) (v852 : Int) (v853 : Int) (v854 : api_Circuit) (v855 : api_Machine) (v856 : neweltop_Interlock) (v857 : api_Place) (kr : Bool → Option R) (k4 : Unit → Option R) : Option R :=
  bif decide (v853 < (↑(Arr.n (neweltop_Interlock.Run v856)) : Int)) then
   bif decide ((0 : Int) ≤ v853) && decide (v853 < (↑(Arr.n (neweltop_Interlock.Run v856)) : Int)) then
    bif decide (w64 (↑(BitVec.toNat (BitVec.ofInt (IntKind.bits IntKind.i64) (neweltop_Moment.Inputs (Arr.f (neweltop_Interlock.Run v856) (Int.toNat v853))) &&& ~~~BitVec.ofInt (IntKind.bits IntKind.i64) v851)) : Int) < (0 : Int)) then
     neweltop_measures N  (fun r858 =>
     kr r858)
    else
     bif decide (w64 (↑(BitVec.toNat (BitVec.ofInt (IntKind.bits IntKind.i64) (neweltop_Moment.Inputs (Arr.f (neweltop_Interlock.Run v856) (Int.toNat v853))) &&& ~~~BitVec.ofInt (IntKind.bits IntKind.i64) v851)) : Int) ≥ w64 ((1 : Int) * (2 : Int) ^ min (Int.toNat (IntKind.wrap IntKind.u64 (↑(Arr.n (api_Machine.Inputs v855)) : Int))) (IntKind.bits IntKind.i64))) then
      neweltop_measures N  (fun r859 =>
      kr r859)
     else
      bif decide ((0 : Int) ≤ v853) && decide (v853 < (↑(Arr.n (neweltop_Interlock.Run v856)) : Int)) then
       r3_Hazards N v854 (neweltop_Moment.Hazards (Arr.f (neweltop_Interlock.Run v856) (Int.toNat v853))) (fun r860 =>
       bif !r860 then
        neweltop_measures N  (fun r861 =>
        kr r861)
       else
        bif decide ((0 : Int) ≤ v853) && decide (v853 < (↑(Arr.n (neweltop_Interlock.Run v856)) : Int)) then
         circuit_Runs N v854 (neweltop_Moment.Hazards (Arr.f (neweltop_Interlock.Run v856) (Int.toNat v853))) v852 (0 : Int) (fun r862 r863 =>
         bif r862 then
          neweltop_TopHalted_j1 N v851 v852 v853 (w64 (↑(BitVec.toNat (BitVec.ofInt (IntKind.bits IntKind.i64) (w64 (↑(BitVec.toNat (BitVec.ofInt (IntKind.bits IntKind.i64) (neweltop_Moment.Inputs (Arr.f (neweltop_Interlock.Run v856) (Int.toNat v853))) &&& ~~~BitVec.ofInt (IntKind.bits IntKind.i64) v851)) : Int)) ||| BitVec.ofInt (IntKind.bits IntKind.i64) v851)) : Int)) r863 v854 v855 v856 v857 (fun r876 =>
           kr r876) (fun r877 =>
           rc v851 v852 (w64 (v853 + (1 : Int))) v854 v855 v856 r877)
         else
          neweltop_TopHalted_j1 N v851 v852 v853 (w64 (↑(BitVec.toNat (BitVec.ofInt (IntKind.bits IntKind.i64) (neweltop_Moment.Inputs (Arr.f (neweltop_Interlock.Run v856) (Int.toNat v853))) &&& ~~~BitVec.ofInt (IntKind.bits IntKind.i64) v851)) : Int)) r863 v854 v855 v856 v857 (fun r878 =>
           kr r878) (fun r879 =>
           rc v851 v852 (w64 (v853 + (1 : Int))) v854 v855 v856 r879))
        else
         Option.none)
      else
       Option.none
   else
    Option.none
  else
   k4 ()
def neweltop_TopHalted_l27 {R : Type} (N : Nat) : Nat → Int → Int → Int → api_Circuit → api_Machine → neweltop_Interlock → api_Place → (Bool → Option R) → (Unit → Option R) → Option R
  | 0, _, _, _, _, _, _, _, _, _ => Option.none
  | n + 1, v851, v852, v853, v854, v855, v856, v857, kr, k4 => neweltop_TopHalted_b27 N (fun v851 v852 v853 v854 v855 v856 v857 => neweltop_TopHalted_l27 N n v851 v852 v853 v854 v855 v856 v857 kr k4) v851 v852 v853 v854 v855 v856 v857 kr k4
def neweltop_TopHalted_L100000 : LoopSp := ⟨⟨[3, 4, 5, 11, 17], ⟨(dr 3 ((rPtr 0 0) :: (rPtr 1 0) :: (rPtr 2 0) :: (dr 5 ((rInt .i64) :: (dr 5 ((rInt .i64) :: (dr 252 []))))))), [(0, eBlkC api_CircuitC), (1, eBlkC api_MachineC), (2, eBlkC neweltop_InterlockC)]⟩, 3⟩, [(Option.none, ⟨[6], ⟨(dr 6 ((rBool) :: (dr 263 []))), []⟩, 0⟩)]⟩
theorem neweltop_TopHalted_L100000_ok : neweltop_TopHalted_L100000.Ok := ⟨⟨(drCons 3 (allCons (rPtr_ok 0 0) (allCons (rPtr_ok 1 0) (allCons (rPtr_ok 2 0) (drCons 5 (allCons (rInt_ok .i64) (drCons 5 (allCons (rInt_ok .i64) (drCons 252 allNil))))))))), (eCons (eBlkC_ok api_CircuitC_ok api_CircuitC_len) (eCons (eBlkC_ok api_MachineC_ok api_MachineC_len) (eCons (eBlkC_ok neweltop_InterlockC_ok neweltop_InterlockC_len) eNil)))⟩, (xCons ⟨(drCons 6 (allCons rBool_ok (drCons 263 allNil))), eNil⟩ xNil)⟩
def neweltop_TopHalted_h100000 (v846 : Int) (v847 : Int) (v848 : api_Circuit) (v849 : api_Machine) (v850 : neweltop_Interlock) : St := ⟨(un 3 ((.ptr 0 0) :: (.ptr 1 0) :: (.ptr 2 0) :: (un 5 ((.int .i64 v846) :: (un 5 ((.int .i64 v847) :: (un 252 []))))))), [(0, .blk (Cod.enc api_CircuitC v848)), (1, .blk (Cod.enc api_MachineC v849)), (2, .blk (Cod.enc neweltop_InterlockC v850))], 3⟩
def neweltop_TopHalted_x100000_r (q0 : Bool) : St := ⟨(un 6 ((.bool q0) :: (un 263 []))), [], 0⟩
def neweltop_TopHalted_j0_m {R : Type} (N : Nat) (v846 : Int) (v847 : Int) (v848 : api_Circuit) (v849 : api_Machine) (v850 : neweltop_Interlock) (kr : Bool → Option R) : Option R :=
  neweltop_TopHalted_l27 N N v846 v847 (0 : Int) v848 v849 v850 (api_Place.mk (0 : Int) (Arr2_int.mk (0 : Int) (0 : Int))) (fun r880 =>
   kr r880) (fun (_ : Unit) =>
   neweltop_measures N  (fun r881 =>
   kr r881))
noncomputable def neweltop_TopHalted_j0 {R : Type} : Nat → Int → Int → api_Circuit → api_Machine → neweltop_Interlock → (Bool → Option R) → Option R := lock (@neweltop_TopHalted_j0_m R)
theorem neweltop_TopHalted_j0_def {R : Type} (N : Nat) (v846 : Int) (v847 : Int) (v848 : api_Circuit) (v849 : api_Machine) (v850 : neweltop_Interlock) (kr : Bool → Option R) : neweltop_TopHalted_j0 N v846 v847 v848 v849 v850 kr = neweltop_TopHalted_j0_m N v846 v847 v848 v849 v850 kr := by unfold neweltop_TopHalted_j0; rw [lock_eq]
def neweltop_TopHalted_m {R : Type} (N : Nat) (a798 : api_Circuit) (a799 : api_Machine) (a800 : neweltop_Interlock) (k : Bool → Option R) : Option R :=
  newellaw03_Far N a798 (fun r801 =>
  bif r801 then
   neweltop_measures N  (fun r802 =>
   k r802)
  else
   newellaw04_Wide N a799 (fun r803 =>
   bif r803 then
    neweltop_measures N  (fun r804 =>
    k r804)
   else
    bif decide ((↑(Arr.n (neweltop_Interlock.Run a800)) : Int) > (60 : Int)) then
     neweltop_measures N  (fun r805 =>
     k r805)
    else
     r3_Check N a798 (fun r806 =>
     bif r806 != (0 : Int) then
      neweltop_measures N  (fun r807 =>
      k r807)
     else
      r4_Check N a799 (fun r808 =>
      bif r808 != (0 : Int) then
       neweltop_measures N  (fun r809 =>
       k r809)
      else
       bif decide (neweltop_Interlock.Input a800 < (0 : Int)) then
        neweltop_measures N  (fun r810 =>
        k r810)
       else
        bif decide (neweltop_Interlock.Input a800 ≥ (↑(Arr.n (api_Machine.Inputs a799)) : Int)) then
         neweltop_measures N  (fun r811 =>
         k r811)
        else
         bif decide (neweltop_Interlock.Output a800 < (0 : Int)) then
          neweltop_measures N  (fun r812 =>
          k r812)
         else
          bif decide (neweltop_Interlock.Output a800 ≥ (↑(Arr.n (api_Machine.Outputs a799)) : Int)) then
           neweltop_measures N  (fun r813 =>
           k r813)
          else
           bif decide (neweltop_Interlock.Switch a800 ≥ (↑(Arr.n (api_Circuit.Switches a798)) : Int)) then
            neweltop_measures N  (fun r814 =>
            k r814)
           else
            circuit_Critical N a798 (fun r815 r816 r817 =>
            control_Reach N a799 (lst (lsC api_LiteralC) (0 : Nat) (zeroC [SV.sl SK.nil (CK.cons (CK.int IntKind.i64) (CK.cons (CK.int IntKind.i64) (CK.cons (CK.int IntKind.i64) (CK.cons CK.bool CK.nil)))) (4 : Nat) (0 : Nat) (zeroC [SV.int IntKind.i64 (0 : Int), SV.int IntKind.i64 (0 : Int), SV.int IntKind.i64 (0 : Int), SV.bool false])])) (fun r818 r819 r820 =>
            bif r815 != (0 : Int) then
             k false
            else
             bif r818 != (0 : Int) then
              k false
             else
              bif (↑(Arr.n r820) : Int) == (0 : Int) then
               k false
              else
               bif decide (IntKind.wrap IntKind.u64 (neweltop_Interlock.Input a800) < (0 : Int)) then
                Option.none
               else
                neweltop_TopHalted_l10 N N (w64 ((1 : Int) * (2 : Int) ^ min (Int.toNat (IntKind.wrap IntKind.u64 (neweltop_Interlock.Input a800))) (IntKind.bits IntKind.i64))) ((↑(Arr.n r817) : Int) == (0 : Int)) (0 : Int) a798 a799 a800 r819 r820 (fun r843 =>
                 k r843) (fun r844 =>
                 bif !r844 then
                  neweltop_measures N  (fun r845 =>
                  k r845)
                 else
                  bif decide (neweltop_Interlock.Switch a800 ≥ (0 : Int)) then
                   bif decide (IntKind.wrap IntKind.u64 (neweltop_Interlock.Switch a800) < (0 : Int)) then
                    Option.none
                   else
                    neweltop_TopHalted_j0 N (w64 ((1 : Int) * (2 : Int) ^ min (Int.toNat (IntKind.wrap IntKind.u64 (neweltop_Interlock.Input a800))) (IntKind.bits IntKind.i64))) (w64 ((1 : Int) * (2 : Int) ^ min (Int.toNat (IntKind.wrap IntKind.u64 (neweltop_Interlock.Switch a800))) (IntKind.bits IntKind.i64))) a798 a799 a800 (fun r882 =>
                     k r882)
                  else
                   neweltop_TopHalted_j0 N (w64 ((1 : Int) * (2 : Int) ^ min (Int.toNat (IntKind.wrap IntKind.u64 (neweltop_Interlock.Input a800))) (IntKind.bits IntKind.i64))) (0 : Int) a798 a799 a800 (fun r883 =>
                    k r883))))))))
noncomputable def neweltop_TopHalted {R : Type} : Nat → api_Circuit → api_Machine → neweltop_Interlock → (Bool → Option R) → Option R := lock (@neweltop_TopHalted_m R)
theorem neweltop_TopHalted_def {R : Type} (N : Nat) (a798 : api_Circuit) (a799 : api_Machine) (a800 : neweltop_Interlock) (k : Bool → Option R) : neweltop_TopHalted N a798 a799 a800 k = neweltop_TopHalted_m N a798 a799 a800 k := by unfold neweltop_TopHalted; rw [lock_eq]
def neweltop_TopHalted_sp : Sp := ⟨[rAgg api_CircuitC, rAgg api_MachineC, rAgg neweltop_InterlockC], []⟩
theorem neweltop_TopHalted_sp_ok : neweltop_TopHalted_sp.Ok := ⟨(allCons (rAgg_ok api_CircuitC_ok api_CircuitC_len) (allCons (rAgg_ok api_MachineC_ok api_MachineC_len) (allCons (rAgg_ok neweltop_InterlockC_ok neweltop_InterlockC_len) allNil))), eNil⟩
def neweltop_TopHalted_rs : Sp := ⟨[rBool], []⟩
theorem neweltop_TopHalted_rs_ok : neweltop_TopHalted_rs.Ok := ⟨(allCons rBool_ok allNil), eNil⟩
def neweltop_TopHalted_run {R : Type} (N : Nat) (args : List SV) (T : Tab) (kf : SV × Tab → Option R) : Option R :=
  neweltop_TopHalted_m N (Cod.dec api_CircuitC (lget (toCs (lget args 0)))) (Cod.dec api_MachineC (lget (toCs (lget args 1)))) (Cod.dec neweltop_InterlockC (lget (toCs (lget args 2)))) (fun q0 => kf (lget [.bool q0] 0, []))
def neweltop_TopHalted_d100001 {R : Type} (N : Nat) (S0 : St) (k : Exit → St → Option R) : Option R :=
  neweltop_TopHalted_j1 N (toI (lget S0.tmps 11)) (toI (lget S0.tmps 17)) (toI (lget S0.tmps 19)) (toI (lget S0.tmps 20)) (toI (lget S0.tmps 22)) (Cod.dec api_CircuitC (lget (entCs (entAt S0.tab 0)))) (Cod.dec api_MachineC (lget (entCs (entAt S0.tab 1)))) (Cod.dec neweltop_InterlockC (lget (entCs (entAt S0.tab 2)))) (Cod.dec api_PlaceC (lget (entCs (entAt S0.tab 3)))) (fun q0 => k .ret (neweltop_TopHalted_x100001_r q0)) (fun q6 => k .normal (neweltop_TopHalted_x100001_n (toI (lget S0.tmps 11)) (toI (lget S0.tmps 17)) (toI (lget S0.tmps 19)) (Cod.dec api_CircuitC (lget (entCs (entAt S0.tab 0)))) (Cod.dec api_MachineC (lget (entCs (entAt S0.tab 1)))) (Cod.dec neweltop_InterlockC (lget (entCs (entAt S0.tab 2)))) q6))
def neweltop_TopHalted_d100000 {R : Type} (N : Nat) (S0 : St) (k : Exit → St → Option R) : Option R :=
  neweltop_TopHalted_j0 N (toI (lget S0.tmps 11)) (toI (lget S0.tmps 17)) (Cod.dec api_CircuitC (lget (entCs (entAt S0.tab 0)))) (Cod.dec api_MachineC (lget (entCs (entAt S0.tab 1)))) (Cod.dec neweltop_InterlockC (lget (entCs (entAt S0.tab 2)))) (fun q0 => k .ret (neweltop_TopHalted_x100000_r q0))
def neweltop_TopHalted_d27 {R : Type} (N : Nat) (S0 : St) (k : Exit → St → Option R) : Option R :=
  neweltop_TopHalted_l27 N N (toI (lget S0.tmps 11)) (toI (lget S0.tmps 17)) (toI (lget S0.tmps 19)) (Cod.dec api_CircuitC (lget (entCs (entAt S0.tab 0)))) (Cod.dec api_MachineC (lget (entCs (entAt S0.tab 1)))) (Cod.dec neweltop_InterlockC (lget (entCs (entAt S0.tab 2)))) (Cod.dec api_PlaceC (lget (entCs (entAt S0.tab 3)))) (fun q0 => k .ret (neweltop_TopHalted_x27_r q0)) (fun (_ : Unit) => k (.exit 4) (neweltop_TopHalted_x27_4 ))
def neweltop_TopHalted_d13 {R : Type} (N : Nat) (S0 : St) (k : Exit → St → Option R) : Option R :=
  neweltop_TopHalted_l13 N N (toI (lget S0.tmps 11)) (toB (lget S0.tmps 12)) (toI (lget S0.tmps 13)) (toI (lget S0.tmps 14)) (Cod.dec api_CircuitC (lget (entCs (entAt S0.tab 0)))) (Cod.dec api_MachineC (lget (entCs (entAt S0.tab 1)))) (Cod.dec neweltop_InterlockC (lget (entCs (entAt S0.tab 2)))) (entNl (entAt S0.tab 3)) (lst api_PlaceC (entN (entAt S0.tab 3)) (entC (entAt S0.tab 3))) (fun q0 => k .ret (neweltop_TopHalted_x13_r q0)) (fun q1 => k (.exit 2) (neweltop_TopHalted_x13_2 (toI (lget S0.tmps 11)) (toI (lget S0.tmps 13)) (Cod.dec api_CircuitC (lget (entCs (entAt S0.tab 0)))) (Cod.dec api_MachineC (lget (entCs (entAt S0.tab 1)))) (Cod.dec neweltop_InterlockC (lget (entCs (entAt S0.tab 2)))) (entNl (entAt S0.tab 3)) (lst api_PlaceC (entN (entAt S0.tab 3)) (entC (entAt S0.tab 3))) q1))
def neweltop_TopHalted_d10 {R : Type} (N : Nat) (S0 : St) (k : Exit → St → Option R) : Option R :=
  neweltop_TopHalted_l10 N N (toI (lget S0.tmps 11)) (toB (lget S0.tmps 12)) (toI (lget S0.tmps 13)) (Cod.dec api_CircuitC (lget (entCs (entAt S0.tab 0)))) (Cod.dec api_MachineC (lget (entCs (entAt S0.tab 1)))) (Cod.dec neweltop_InterlockC (lget (entCs (entAt S0.tab 2)))) (entNl (entAt S0.tab 3)) (lst api_PlaceC (entN (entAt S0.tab 3)) (entC (entAt S0.tab 3))) (fun q0 => k .ret (neweltop_TopHalted_x10_r q0)) (fun q1 => k (.exit 0) (neweltop_TopHalted_x10_0 (toI (lget S0.tmps 11)) (Cod.dec api_CircuitC (lget (entCs (entAt S0.tab 0)))) (Cod.dec api_MachineC (lget (entCs (entAt S0.tab 1)))) (Cod.dec neweltop_InterlockC (lget (entCs (entAt S0.tab 2)))) q1))
def neweltop_TopHalted_lp {R : Type} (N : Nat) : Lp R := fun body S k => bif (Go.Sx.keyOf body).getD 0 == 10 then (neweltop_TopHalted_L10.head.raw 0 S (fun S0 => neweltop_TopHalted_d10 N S0 k)) else bif (Go.Sx.keyOf body).getD 0 == 13 then (neweltop_TopHalted_L13.head.raw 0 S (fun S0 => neweltop_TopHalted_d13 N S0 k)) else bif (Go.Sx.keyOf body).getD 0 == 27 then (neweltop_TopHalted_L27.head.raw 0 S (fun S0 => neweltop_TopHalted_d27 N S0 k)) else Option.none
def neweltop_TopHalted_jn {R : Type} (N : Nat) : Jn R := fun b => bif isJ 25 56 b then some (fun S k => neweltop_TopHalted_L100000.head.raw 0 S (fun S0 => neweltop_TopHalted_d100000 N S0 k)) else bif isJ 35 19 b then some (fun S k => neweltop_TopHalted_L100001.head.raw 0 S (fun S0 => neweltop_TopHalted_d100001 N S0 k)) else Option.none
theorem neweltop_TopHalted_l10_eq {R : Type} (N : Nat) (k : Exit → St → Option R) (n : Nat) : ∀ (v0 : Int) (v1 : Bool) (v2 : Int) (v3 : api_Circuit) (v4 : api_Machine) (v5 : neweltop_Interlock) (v6 : Bool) (v7 : Arr api_Place), loopM E.Θ (neweltop_measures_cal N) (neweltop_TopHalted_lp N) (neweltop_TopHalted_jn N) 0 neweltop_TopHalted_L10 (bodyAt E 4 10) n (neweltop_TopHalted_h10 v0 v1 v2 v3 v4 v5 v6 v7) k = neweltop_TopHalted_l10 N n v0 v1 v2 v3 v4 v5 v6 v7 (fun q0 => k .ret (neweltop_TopHalted_x10_r q0)) (fun q1 => k (.exit 0) (neweltop_TopHalted_x10_0 v0 v3 v4 v5 q1)) := by
  induction n with
  | zero => intro v0 v1 v2 v3 v4 v5 v6 v7; rfl
  | succ n ih =>
    intro v0 v1 v2 v3 v4 v5 v6 v7
    refine Eq.trans (b := neweltop_TopHalted_b10 N (fun v0 v1 v2 v3 v4 v5 v6 v7 => loopM E.Θ (neweltop_measures_cal N) (neweltop_TopHalted_lp N) (neweltop_TopHalted_jn N) 0 neweltop_TopHalted_L10 (bodyAt E 4 10) n (neweltop_TopHalted_h10 v0 v1 v2 v3 v4 v5 v6 v7) k) v0 v1 v2 v3 v4 v5 v6 v7 (fun q0 => k .ret (neweltop_TopHalted_x10_r q0)) (fun q1 => k (.exit 0) (neweltop_TopHalted_x10_0 v0 v3 v4 v5 q1))) (by kernel_rfl) ?_
    have h : (fun (v0 : Int) (v1 : Bool) (v2 : Int) (v3 : api_Circuit) (v4 : api_Machine) (v5 : neweltop_Interlock) (v6 : Bool) (v7 : Arr api_Place) => loopM E.Θ (neweltop_measures_cal N) (neweltop_TopHalted_lp N) (neweltop_TopHalted_jn N) 0 neweltop_TopHalted_L10 (bodyAt E 4 10) n (neweltop_TopHalted_h10 v0 v1 v2 v3 v4 v5 v6 v7) k) = (fun (v0 : Int) (v1 : Bool) (v2 : Int) (v3 : api_Circuit) (v4 : api_Machine) (v5 : neweltop_Interlock) (v6 : Bool) (v7 : Arr api_Place) => neweltop_TopHalted_l10 N n v0 v1 v2 v3 v4 v5 v6 v7 (fun q0 => k .ret (neweltop_TopHalted_x10_r q0)) (fun q1 => k (.exit 0) (neweltop_TopHalted_x10_0 v0 v3 v4 v5 q1))) := funext fun v0 => funext fun v1 => funext fun v2 => funext fun v3 => funext fun v4 => funext fun v5 => funext fun v6 => funext fun v7 => ih v0 v1 v2 v3 v4 v5 v6 v7
    rw [h]
    rfl
theorem neweltop_TopHalted_l13_eq {R : Type} (N : Nat) (k : Exit → St → Option R) (n : Nat) : ∀ (v0 : Int) (v1 : Bool) (v2 : Int) (v3 : Int) (v4 : api_Circuit) (v5 : api_Machine) (v6 : neweltop_Interlock) (v7 : Bool) (v8 : Arr api_Place), loopM E.Θ (neweltop_measures_cal N) (neweltop_TopHalted_lp N) (neweltop_TopHalted_jn N) 0 neweltop_TopHalted_L13 (bodyAt E 4 13) n (neweltop_TopHalted_h13 v0 v1 v2 v3 v4 v5 v6 v7 v8) k = neweltop_TopHalted_l13 N n v0 v1 v2 v3 v4 v5 v6 v7 v8 (fun q0 => k .ret (neweltop_TopHalted_x13_r q0)) (fun q1 => k (.exit 2) (neweltop_TopHalted_x13_2 v0 v2 v4 v5 v6 v7 v8 q1)) := by
  induction n with
  | zero => intro v0 v1 v2 v3 v4 v5 v6 v7 v8; rfl
  | succ n ih =>
    intro v0 v1 v2 v3 v4 v5 v6 v7 v8
    refine Eq.trans (b := neweltop_TopHalted_b13 N (fun v0 v1 v2 v3 v4 v5 v6 v7 v8 => loopM E.Θ (neweltop_measures_cal N) (neweltop_TopHalted_lp N) (neweltop_TopHalted_jn N) 0 neweltop_TopHalted_L13 (bodyAt E 4 13) n (neweltop_TopHalted_h13 v0 v1 v2 v3 v4 v5 v6 v7 v8) k) v0 v1 v2 v3 v4 v5 v6 v7 v8 (fun q0 => k .ret (neweltop_TopHalted_x13_r q0)) (fun q1 => k (.exit 2) (neweltop_TopHalted_x13_2 v0 v2 v4 v5 v6 v7 v8 q1))) (by kernel_rfl) ?_
    have h : (fun (v0 : Int) (v1 : Bool) (v2 : Int) (v3 : Int) (v4 : api_Circuit) (v5 : api_Machine) (v6 : neweltop_Interlock) (v7 : Bool) (v8 : Arr api_Place) => loopM E.Θ (neweltop_measures_cal N) (neweltop_TopHalted_lp N) (neweltop_TopHalted_jn N) 0 neweltop_TopHalted_L13 (bodyAt E 4 13) n (neweltop_TopHalted_h13 v0 v1 v2 v3 v4 v5 v6 v7 v8) k) = (fun (v0 : Int) (v1 : Bool) (v2 : Int) (v3 : Int) (v4 : api_Circuit) (v5 : api_Machine) (v6 : neweltop_Interlock) (v7 : Bool) (v8 : Arr api_Place) => neweltop_TopHalted_l13 N n v0 v1 v2 v3 v4 v5 v6 v7 v8 (fun q0 => k .ret (neweltop_TopHalted_x13_r q0)) (fun q1 => k (.exit 2) (neweltop_TopHalted_x13_2 v0 v2 v4 v5 v6 v7 v8 q1))) := funext fun v0 => funext fun v1 => funext fun v2 => funext fun v3 => funext fun v4 => funext fun v5 => funext fun v6 => funext fun v7 => funext fun v8 => ih v0 v1 v2 v3 v4 v5 v6 v7 v8
    rw [h]
    rfl
theorem neweltop_TopHalted_l27_eq {R : Type} (N : Nat) (k : Exit → St → Option R) (n : Nat) : ∀ (v0 : Int) (v1 : Int) (v2 : Int) (v3 : api_Circuit) (v4 : api_Machine) (v5 : neweltop_Interlock) (v6 : api_Place), loopM E.Θ (neweltop_measures_cal N) (neweltop_TopHalted_lp N) (neweltop_TopHalted_jn N) 0 neweltop_TopHalted_L27 (bodyAt E 4 27) n (neweltop_TopHalted_h27 v0 v1 v2 v3 v4 v5 v6) k = neweltop_TopHalted_l27 N n v0 v1 v2 v3 v4 v5 v6 (fun q0 => k .ret (neweltop_TopHalted_x27_r q0)) (fun (_ : Unit) => k (.exit 4) (neweltop_TopHalted_x27_4 )) := by
  induction n with
  | zero => intro v0 v1 v2 v3 v4 v5 v6; rfl
  | succ n ih =>
    intro v0 v1 v2 v3 v4 v5 v6
    refine Eq.trans (b := neweltop_TopHalted_b27 N (fun v0 v1 v2 v3 v4 v5 v6 => loopM E.Θ (neweltop_measures_cal N) (neweltop_TopHalted_lp N) (neweltop_TopHalted_jn N) 0 neweltop_TopHalted_L27 (bodyAt E 4 27) n (neweltop_TopHalted_h27 v0 v1 v2 v3 v4 v5 v6) k) v0 v1 v2 v3 v4 v5 v6 (fun q0 => k .ret (neweltop_TopHalted_x27_r q0)) (fun (_ : Unit) => k (.exit 4) (neweltop_TopHalted_x27_4 ))) (by kernel_rfl) ?_
    have h : (fun (v0 : Int) (v1 : Int) (v2 : Int) (v3 : api_Circuit) (v4 : api_Machine) (v5 : neweltop_Interlock) (v6 : api_Place) => loopM E.Θ (neweltop_measures_cal N) (neweltop_TopHalted_lp N) (neweltop_TopHalted_jn N) 0 neweltop_TopHalted_L27 (bodyAt E 4 27) n (neweltop_TopHalted_h27 v0 v1 v2 v3 v4 v5 v6) k) = (fun (v0 : Int) (v1 : Int) (v2 : Int) (v3 : api_Circuit) (v4 : api_Machine) (v5 : neweltop_Interlock) (v6 : api_Place) => neweltop_TopHalted_l27 N n v0 v1 v2 v3 v4 v5 v6 (fun q0 => k .ret (neweltop_TopHalted_x27_r q0)) (fun (_ : Unit) => k (.exit 4) (neweltop_TopHalted_x27_4 ))) := funext fun v0 => funext fun v1 => funext fun v2 => funext fun v3 => funext fun v4 => funext fun v5 => funext fun v6 => ih v0 v1 v2 v3 v4 v5 v6
    rw [h]
    rfl
theorem neweltop_TopHalted_j0_eq {R : Type} (N : Nat) (k : Exit → St → Option R) : ∀ (v0 : Int) (v1 : Int) (v2 : api_Circuit) (v3 : api_Machine) (v4 : neweltop_Interlock), joinM E.Θ (neweltop_measures_cal N) (neweltop_TopHalted_lp N) (neweltop_TopHalted_jn N) 0 neweltop_TopHalted_L100000 (joinAt E 4 (25, 56)) (neweltop_TopHalted_h100000 v0 v1 v2 v3 v4) k = neweltop_TopHalted_j0 N v0 v1 v2 v3 v4 (fun q0 => k .ret (neweltop_TopHalted_x100000_r q0)) := by
  intro v0 v1 v2 v3 v4; exact Eq.trans (b := neweltop_TopHalted_j0_m N v0 v1 v2 v3 v4 (fun q0 => k .ret (neweltop_TopHalted_x100000_r q0))) (by kernel_rfl) (neweltop_TopHalted_j0_def N v0 v1 v2 v3 v4 (fun q0 => k .ret (neweltop_TopHalted_x100000_r q0))).symm
theorem neweltop_TopHalted_j1_eq {R : Type} (N : Nat) (k : Exit → St → Option R) : ∀ (v0 : Int) (v1 : Int) (v2 : Int) (v3 : Int) (v4 : Int) (v5 : api_Circuit) (v6 : api_Machine) (v7 : neweltop_Interlock) (v8 : api_Place), joinM E.Θ (neweltop_measures_cal N) (neweltop_TopHalted_lp N) (neweltop_TopHalted_jn N) 0 neweltop_TopHalted_L100001 (joinAt E 4 (35, 19)) (neweltop_TopHalted_h100001 v0 v1 v2 v3 v4 v5 v6 v7 v8) k = neweltop_TopHalted_j1 N v0 v1 v2 v3 v4 v5 v6 v7 v8 (fun q0 => k .ret (neweltop_TopHalted_x100001_r q0)) (fun q6 => k .normal (neweltop_TopHalted_x100001_n v0 v1 v2 v5 v6 v7 q6)) := by
  intro v0 v1 v2 v3 v4 v5 v6 v7 v8; exact Eq.trans (b := neweltop_TopHalted_j1_m N v0 v1 v2 v3 v4 v5 v6 v7 v8 (fun q0 => k .ret (neweltop_TopHalted_x100001_r q0)) (fun q6 => k .normal (neweltop_TopHalted_x100001_n v0 v1 v2 v5 v6 v7 q6))) (by kernel_rfl) (neweltop_TopHalted_j1_def N v0 v1 v2 v3 v4 v5 v6 v7 v8 (fun q0 => k .ret (neweltop_TopHalted_x100001_r q0)) (fun q6 => k .normal (neweltop_TopHalted_x100001_n v0 v1 v2 v5 v6 v7 q6))).symm
theorem neweltop_TopHalted_q1 {R : Type} (N : Nat) : JnKey (R := R) E 4 0 (neweltop_TopHalted_jn N) (35, 19) :=
  jnKey_of hE (neweltop_measures_cal_ok N) (lp := neweltop_TopHalted_lp N) (jn := neweltop_TopHalted_jn N) neweltop_TopHalted_L100001_ok [] kNil (by kernel_rfl) [] jNil (by kernel_rfl) (fun S k => neweltop_TopHalted_L100001.head.raw 0 S (fun S0 => neweltop_TopHalted_d100001 N S0 k)) (by kernel_rfl) fun S k =>
    congrArg (neweltop_TopHalted_L100001.head.raw 0 S) (funext fun S0 => Eq.trans (neweltop_TopHalted_j1_eq N k (toI (lget S0.tmps 11)) (toI (lget S0.tmps 17)) (toI (lget S0.tmps 19)) (toI (lget S0.tmps 20)) (toI (lget S0.tmps 22)) (Cod.dec api_CircuitC (lget (entCs (entAt S0.tab 0)))) (Cod.dec api_MachineC (lget (entCs (entAt S0.tab 1)))) (Cod.dec neweltop_InterlockC (lget (entCs (entAt S0.tab 2)))) (Cod.dec api_PlaceC (lget (entCs (entAt S0.tab 3))))).symm (by kernel_rfl))
theorem neweltop_TopHalted_k13 {R : Type} (N : Nat) : LpKey (R := R) E 4 0 (neweltop_TopHalted_lp N) 13 :=
  lpKey_of hE (neweltop_measures_cal_ok N) (lp := neweltop_TopHalted_lp N) (jn := neweltop_TopHalted_jn N) neweltop_TopHalted_L13_ok [] kNil (by kernel_rfl) [] jNil (by kernel_rfl) N fun S k =>
    Eq.trans (b := neweltop_TopHalted_L13.head.raw 0 S (fun S0 => neweltop_TopHalted_d13 N S0 k)) (by kernel_rfl) (congrArg (neweltop_TopHalted_L13.head.raw 0 S) (funext fun S0 => Eq.trans (neweltop_TopHalted_l13_eq N k N (toI (lget S0.tmps 11)) (toB (lget S0.tmps 12)) (toI (lget S0.tmps 13)) (toI (lget S0.tmps 14)) (Cod.dec api_CircuitC (lget (entCs (entAt S0.tab 0)))) (Cod.dec api_MachineC (lget (entCs (entAt S0.tab 1)))) (Cod.dec neweltop_InterlockC (lget (entCs (entAt S0.tab 2)))) (entNl (entAt S0.tab 3)) (lst api_PlaceC (entN (entAt S0.tab 3)) (entC (entAt S0.tab 3)))).symm (by kernel_rfl)))
theorem neweltop_TopHalted_k10 {R : Type} (N : Nat) : LpKey (R := R) E 4 0 (neweltop_TopHalted_lp N) 10 :=
  lpKey_of hE (neweltop_measures_cal_ok N) (lp := neweltop_TopHalted_lp N) (jn := neweltop_TopHalted_jn N) neweltop_TopHalted_L10_ok [13] (kCons (neweltop_TopHalted_k13 N) kNil) (by kernel_rfl) [] jNil (by kernel_rfl) N fun S k =>
    Eq.trans (b := neweltop_TopHalted_L10.head.raw 0 S (fun S0 => neweltop_TopHalted_d10 N S0 k)) (by kernel_rfl) (congrArg (neweltop_TopHalted_L10.head.raw 0 S) (funext fun S0 => Eq.trans (neweltop_TopHalted_l10_eq N k N (toI (lget S0.tmps 11)) (toB (lget S0.tmps 12)) (toI (lget S0.tmps 13)) (Cod.dec api_CircuitC (lget (entCs (entAt S0.tab 0)))) (Cod.dec api_MachineC (lget (entCs (entAt S0.tab 1)))) (Cod.dec neweltop_InterlockC (lget (entCs (entAt S0.tab 2)))) (entNl (entAt S0.tab 3)) (lst api_PlaceC (entN (entAt S0.tab 3)) (entC (entAt S0.tab 3)))).symm (by kernel_rfl)))
theorem neweltop_TopHalted_k27 {R : Type} (N : Nat) : LpKey (R := R) E 4 0 (neweltop_TopHalted_lp N) 27 :=
  lpKey_of hE (neweltop_measures_cal_ok N) (lp := neweltop_TopHalted_lp N) (jn := neweltop_TopHalted_jn N) neweltop_TopHalted_L27_ok [] kNil (by kernel_rfl) [(35, 19)] (jCons (neweltop_TopHalted_q1 N) jNil) (by kernel_rfl) N fun S k =>
    Eq.trans (b := neweltop_TopHalted_L27.head.raw 0 S (fun S0 => neweltop_TopHalted_d27 N S0 k)) (by kernel_rfl) (congrArg (neweltop_TopHalted_L27.head.raw 0 S) (funext fun S0 => Eq.trans (neweltop_TopHalted_l27_eq N k N (toI (lget S0.tmps 11)) (toI (lget S0.tmps 17)) (toI (lget S0.tmps 19)) (Cod.dec api_CircuitC (lget (entCs (entAt S0.tab 0)))) (Cod.dec api_MachineC (lget (entCs (entAt S0.tab 1)))) (Cod.dec neweltop_InterlockC (lget (entCs (entAt S0.tab 2)))) (Cod.dec api_PlaceC (lget (entCs (entAt S0.tab 3))))).symm (by kernel_rfl)))
theorem neweltop_TopHalted_q0 {R : Type} (N : Nat) : JnKey (R := R) E 4 0 (neweltop_TopHalted_jn N) (25, 56) :=
  jnKey_of hE (neweltop_measures_cal_ok N) (lp := neweltop_TopHalted_lp N) (jn := neweltop_TopHalted_jn N) neweltop_TopHalted_L100000_ok [27] (kCons (neweltop_TopHalted_k27 N) kNil) (by kernel_rfl) [(35, 19)] (jCons (neweltop_TopHalted_q1 N) jNil) (by kernel_rfl) (fun S k => neweltop_TopHalted_L100000.head.raw 0 S (fun S0 => neweltop_TopHalted_d100000 N S0 k)) (by kernel_rfl) fun S k =>
    congrArg (neweltop_TopHalted_L100000.head.raw 0 S) (funext fun S0 => Eq.trans (neweltop_TopHalted_j0_eq N k (toI (lget S0.tmps 11)) (toI (lget S0.tmps 17)) (Cod.dec api_CircuitC (lget (entCs (entAt S0.tab 0)))) (Cod.dec api_MachineC (lget (entCs (entAt S0.tab 1)))) (Cod.dec neweltop_InterlockC (lget (entCs (entAt S0.tab 2))))).symm (by kernel_rfl))
noncomputable def neweltop_TopHalted_go {R : Type} (N : Nat) (args : List SV) (T : Tab) (kf : SV × Tab → Option R) : Option R :=
  neweltop_TopHalted N (Cod.dec api_CircuitC (lget (toCs (lget args 0)))) (Cod.dec api_MachineC (lget (toCs (lget args 1)))) (Cod.dec neweltop_InterlockC (lget (toCs (lget args 2)))) (fun q0 => kf (lget [.bool q0] 0, []))
noncomputable def neweltop_TopHalted_cal {R : Type} (N : Nat) : Cal R := callM (neweltop_measures_cal N) 4 0 neweltop_TopHalted_sp (neweltop_TopHalted_go N)
theorem neweltop_TopHalted_cal_ok {R : Type} (N : Nat) : CalOk E.P (neweltop_TopHalted_cal (R := R) N) :=
  callM_ok hE (neweltop_measures_cal_ok N) (lp := neweltop_TopHalted_lp N) (jn := neweltop_TopHalted_jn N) (keys := [10, 13, 27]) (kCons (neweltop_TopHalted_k10 N) (kCons (neweltop_TopHalted_k13 N) (kCons (neweltop_TopHalted_k27 N) kNil))) (by kernel_rfl) (js := [(25, 56), (35, 19)]) (jCons (neweltop_TopHalted_q0 N) (jCons (neweltop_TopHalted_q1 N) jNil)) (by kernel_rfl) neweltop_TopHalted_sp_ok neweltop_TopHalted_rs_ok (fun args T kf => Eq.trans (neweltop_TopHalted_def N (Cod.dec api_CircuitC (lget (toCs (lget args 0)))) (Cod.dec api_MachineC (lget (toCs (lget args 1)))) (Cod.dec neweltop_InterlockC (lget (toCs (lget args 2)))) (fun q0 => kf (lget [.bool q0] 0, []))) (by kernel_rfl : neweltop_TopHalted_run N args T kf = fnM E (neweltop_measures_cal N) (neweltop_TopHalted_lp N) (neweltop_TopHalted_jn N) 4 (neweltop_TopHalted_sp.vs args) (neweltop_TopHalted_sp.tab T) 0 (resK neweltop_TopHalted_rs kf)))
section
open Classical
open Si Ha
variable {R : Type}
theorem th_far {N : Nat} (hN : 100 ≤ N) (c : api_Circuit) : ∃ b : Bool, ∀ (k : Bool → Option R), newellaw03_Far N c k = k b := by
  classical
  have key : ∀ (q i n : Nat), i + q = c.Wires.n → q < n → c.Wires.n ≤ 40 → ∃ b : Bool, ∀ (k : Bool → Option R), newellaw03_Far_l4 N n (i : Int) c (fun r => k r) (fun _ => k false) = k b := by
    intro q
    induction q with
    | zero =>
      intro i n h1 h2 h3
      obtain ⟨n, rfl⟩ : ∃ m, n = m + 1 := ⟨n - 1, by omega⟩
      refine ⟨false, fun k => ?_⟩
      unfold newellaw03_Far_l4 newellaw03_Far_b4
      simp only [ltF (show c.Wires.n ≤ i by omega), cond_false]
    | succ q ih =>
      intro i n h1 h2 h3
      obtain ⟨n, rfl⟩ : ∃ m, n = m + 1 := ⟨n - 1, by omega⟩
      by_cases h4 : ((c.Wires.f i).Of.n : Int) > 40
      · refine ⟨true, fun k => ?_⟩
        unfold newellaw03_Far_l4 newellaw03_Far_b4
        simp only [ltT (show i < c.Wires.n by omega), nat_nonneg, Bool.and_self, cond_true, Int.toNat_natCast, h4, decide_true]
      · obtain ⟨b, hb⟩ := ih (i + 1) n (by omega) (by omega) h3
        refine ⟨b, fun k => ?_⟩
        unfold newellaw03_Far_l4 newellaw03_Far_b4
        simp only [ltT (show i < c.Wires.n by omega), nat_nonneg, Bool.and_self, cond_true, Int.toNat_natCast, h4, decide_false, cond_false, w64_succ (show i < 1000000000000 by omega)]
        exact hb k
  by_cases h1 : (c.Switches.n : Int) > 20
  · refine ⟨true, fun k => ?_⟩
    rw [newellaw03_Far_def]
    unfold newellaw03_Far_m
    simp only [h1, decide_true, cond_true]
  by_cases h2 : (c.Wires.n : Int) > 40
  · refine ⟨true, fun k => ?_⟩
    rw [newellaw03_Far_def]
    unfold newellaw03_Far_m
    simp only [h1, h2, decide_true, decide_false, cond_true, cond_false]
  obtain ⟨b, hb⟩ := key c.Wires.n 0 N (by omega) (by omega) (by omega)
  refine ⟨b, fun k => ?_⟩
  rw [newellaw03_Far_def]
  unfold newellaw03_Far_m
  simp only [h1, h2, decide_false, cond_false]
  exact hb k
theorem th_wide {N : Nat} (hN : 2000 ≤ N) (m : api_Machine) (k : Bool → Option R) : ∃ b : Bool, newellaw04_Wide N m k = k b := by
  rw [newellaw04_Wide_def]
  unfold newellaw04_Wide_m
  rcases ref_check hN m (fun r84 => bif r84 != (0 : Int) then k false else
   newellaw04_Wide_l5 N N ((m.States.n : Int)) (0 : Int) m (fun r88 =>
    bif decide ((m.Inputs.n : Int) > (3 : Int)) then k true else k (decide (r88 > (80 : Int))))) with h | ⟨v, h⟩
  · exact ⟨false, h.trans rfl⟩
  · have hc := v.c
    have key : ∀ (q i n : Nat) (a : Int), i + q = m.Counters.n → q < n → ∃ a' : Int, newellaw04_Wide_l5 N n a (i : Int) m (fun r88 =>
      bif decide ((m.Inputs.n : Int) > (3 : Int)) then k true else k (decide (r88 > (80 : Int)))) = (bif decide ((m.Inputs.n : Int) > (3 : Int)) then k true else k (decide (a' > (80 : Int)))) := by
      intro q
      induction q with
      | zero =>
        intro i n a h1 h2
        obtain ⟨n, rfl⟩ : ∃ m, n = m + 1 := ⟨n - 1, by omega⟩
        refine ⟨a, ?_⟩
        unfold newellaw04_Wide_l5 newellaw04_Wide_b5
        simp only [ltF (show m.Counters.n ≤ i by omega), cond_false]
      | succ q ih =>
        intro i n a h1 h2
        obtain ⟨n, rfl⟩ : ∃ m, n = m + 1 := ⟨n - 1, by omega⟩
        obtain ⟨a', ha⟩ := ih (i + 1) n (w64 (a * w64 (api_Counter.Max (Arr.f (api_Machine.Counters m) i) + (1 : Int)))) (by omega) (by omega)
        refine ⟨a', ?_⟩
        unfold newellaw04_Wide_l5 newellaw04_Wide_b5
        simp only [ltT (show i < m.Counters.n by omega), nat_nonneg, Bool.and_self, cond_true, Int.toNat_natCast, w64_succ (show i < 1000000000000 by omega)]
        exact ha
    obtain ⟨a', ha⟩ := key m.Counters.n 0 N (m.States.n : Int) (by omega) (by omega)
    have h2 : r4_Check N m (fun r84 => bif r84 != (0 : Int) then k false else
   newellaw04_Wide_l5 N N ((m.States.n : Int)) (0 : Int) m (fun r88 =>
    bif decide ((m.Inputs.n : Int) > (3 : Int)) then k true else k (decide (r88 > (80 : Int))))) = _ := h.trans ha
    by_cases h3 : (m.Inputs.n : Int) > 3
    · exact ⟨true, h2.trans (by simp only [h3, decide_true, cond_true])⟩
    · exact ⟨decide (a' > 80), h2.trans (by simp only [h3, decide_false, cond_false])⟩
def shw (m : api_Machine) (x : neweltop_Interlock) (p : api_Place) : Int :=
  w64 (↑(BitVec.toNat (BitVec.ofInt (IntKind.bits IntKind.i64) (Int.fdiv (api_State.Shows (Arr.f (api_Machine.States m) (Int.toNat (api_Place.State p)))) ((2 : Int) ^ min (Int.toNat (IntKind.wrap IntKind.u64 (neweltop_Interlock.Output x))) (IntKind.bits IntKind.i64))) &&& BitVec.ofInt (IntKind.bits IntKind.i64) (1 : Int))) : Int)
theorem shl4 {n : Nat} (h : n ≤ 4) : w64 ((1 : Int) * (2 : Int) ^ min (Int.toNat (IntKind.wrap IntKind.u64 (n : Int))) (IntKind.bits IntKind.i64)) = ((2 ^ n : Nat) : Int) := by
  rw [u64_nat (show n < 1000000000 by omega)]; exact pow4 h
theorem bit_on {n i : Nat} (hn : n < 16) (hi : i < 4) : (w64 (↑(BitVec.toNat (BitVec.ofInt (IntKind.bits IntKind.i64) (n : Int) &&& BitVec.ofInt (IntKind.bits IntKind.i64) ((2 ^ i : Nat) : Int))) : Int) != 0) = n.testBit i := by
  have h : ∀ a : Fin 16, ∀ b : Fin 4, (w64 (↑(BitVec.toNat (BitVec.ofInt (IntKind.bits IntKind.i64) (a.val : Int) &&& BitVec.ofInt (IntKind.bits IntKind.i64) ((2 ^ b.val : Nat) : Int))) : Int) != 0) = a.val.testBit b.val := by decide +kernel
  exact h ⟨n, hn⟩ ⟨i, hi⟩
theorem bit_or {n i : Nat} (hn : n < 16) (hi : i < 4) : w64 (↑(BitVec.toNat (BitVec.ofInt (IntKind.bits IntKind.i64) (n : Int) ||| BitVec.ofInt (IntKind.bits IntKind.i64) ((2 ^ i : Nat) : Int))) : Int) = ((n ||| 2 ^ i : Nat) : Int) := by
  have : 2 ^ i ≤ 2 ^ 4 := Nat.pow_le_pow_right (by omega) (by omega)
  exact or64 (by omega) (by omega)
theorem bit_off {a : Int} {i : Nat} (hi : i < 4) {K : Nat} (hK : K ≤ 16) (h0 : 0 ≤ w64 (↑(BitVec.toNat (BitVec.ofInt (IntKind.bits IntKind.i64) a &&& ~~~BitVec.ofInt (IntKind.bits IntKind.i64) ((2 ^ i : Nat) : Int))) : Int)) :
    ∃ n : Nat, w64 (↑(BitVec.toNat (BitVec.ofInt (IntKind.bits IntKind.i64) a &&& ~~~BitVec.ofInt (IntKind.bits IntKind.i64) ((2 ^ i : Nat) : Int))) : Int) = (n : Int) ∧ n.testBit i = false := by
  have hB : (BitVec.ofInt (IntKind.bits IntKind.i64) ((2 ^ i : Nat) : Int)).getLsbD i = true := by
    have h : ∀ b : Fin 4, (BitVec.ofInt (IntKind.bits IntKind.i64) ((2 ^ b.val : Nat) : Int)).getLsbD b.val = true := by decide +kernel
    exact h ⟨i, hi⟩
  have hT : (BitVec.ofInt (IntKind.bits IntKind.i64) a &&& ~~~BitVec.ofInt (IntKind.bits IntKind.i64) ((2 ^ i : Nat) : Int)).getLsbD i = false := by
    rw [BitVec.getLsbD_and, BitVec.getLsbD_not, hB]; simp
  have hlt := (BitVec.ofInt (IntKind.bits IntKind.i64) a &&& ~~~BitVec.ofInt (IntKind.bits IntKind.i64) ((2 ^ i : Nat) : Int)).isLt
  rw [BitVec.getLsbD] at hT
  generalize hG : BitVec.toNat (BitVec.ofInt (IntKind.bits IntKind.i64) a &&& ~~~BitVec.ofInt (IntKind.bits IntKind.i64) ((2 ^ i : Nat) : Int)) = T at *
  have hlt : T < 18446744073709551616 := hlt
  refine ⟨T, ?_, hT⟩
  have e : w64 (T : Int) = if (T : Int) ≥ 9223372036854775808 then (T : Int) - 18446744073709551616 else T := by
    show IntKind.i64.wrap (T : Int) = _
    rw [IntKind.wrap_i64]; split <;> omega
  rw [e] at h0 ⊢
  split at h0
  · omega
  · rename_i h; rw [if_neg h]
section
variable {m : api_Machine} (v : VM m)
include v
theorem th_l13 (N : Nat) (hN : 2000 ≤ N) {I : Nat} (hI : I < m.Inputs.n) (c : api_Circuit) (x : neweltop_Interlock) (hO : 0 ≤ neweltop_Interlock.Output x ∧ neweltop_Interlock.Output x < (m.Outputs.n : Int)) (b : Bool) {l : Arr api_Place} {i : Nat} (hi : i < l.n) (hl : l.n ≤ 768) (hp : PlP m (l.f i)) (kr : Bool → Option R) (k2 : Bool → Option R) : ∀ (q j n : Nat) (h : Bool), j + q = 2 ^ m.Inputs.n → q < n →
    ∃ h' : Bool, (h' = true → h = true ∧ ∀ y, j ≤ y → y < 2 ^ m.Inputs.n → y.testBit I = false → shw m x (stepE m (l.f i) y) = 0) ∧ neweltop_TopHalted_l13 N n ((2 ^ I : Nat) : Int) h (i : Int) (j : Int) c m x b l kr k2 = k2 h' := by
  have hp16 : 2 ^ m.Inputs.n ≤ 16 := Nat.pow_le_pow_right (show 0 < 2 by omega) v.i
  have hi4 := v.i
  have ho6 := v.o
  intro q
  induction q with
  | zero =>
    intro j n h h1 h2
    obtain ⟨n, rfl⟩ : ∃ m, n = m + 1 := ⟨n - 1, by omega⟩
    refine ⟨h, fun hh => ⟨hh, fun y y1 y2 => by omega⟩, ?_⟩
    unfold neweltop_TopHalted_l13 neweltop_TopHalted_b13
    rw [shl4 v.i]
    simp only [ltF (show 2 ^ m.Inputs.n ≤ j by omega), cond_false]
  | succ q ih =>
    intro j n h h1 h2
    obtain ⟨n, rfl⟩ : ∃ m, n = m + 1 := ⟨n - 1, by omega⟩
    have hj : j < 2 ^ m.Inputs.n := by omega
    by_cases hb : j.testBit I = true
    · obtain ⟨h', g1, g2⟩ := ih (j + 1) n h (by omega) (by omega)
      refine ⟨h', fun hh => ⟨(g1 hh).1, fun y y1 y2 y3 => ?_⟩, ?_⟩
      · by_cases e : y = j
        · subst e; rw [hb] at y3; cases y3
        · exact (g1 hh).2 y (by omega) y2 y3
      · unfold neweltop_TopHalted_l13 neweltop_TopHalted_b13
        rw [shl4 v.i]
        simp only [ltT hj, cond_true, bit_on (show j < 16 by omega) (show I < 4 by omega), hb, w64_succ (show j < 1000000000000 by omega)]
        exact g2
    · have hb : j.testBit I = false := by simpa using hb
      have hst := step_pl v hp j
      have hss := hst.s
      obtain ⟨o, ho⟩ : ∃ o : Nat, neweltop_Interlock.Output x = (o : Int) := ⟨(neweltop_Interlock.Output x).toNat, by omega⟩
      have hw : decide (IntKind.wrap IntKind.u64 (neweltop_Interlock.Output x) < 0) = false := by
        rw [ho, u64_nat (by omega)]; simp
      have e1 : decide ((0 : Int) ≤ (stepE m (l.f i) j).State) = true := by simp; omega
      have e2 : decide ((stepE m (l.f i) j).State < (m.States.n : Int)) = true := by simp; omega
      obtain ⟨h', g1, g2⟩ := ih (j + 1) n (h && (shw m x (stepE m (l.f i) j) == 0)) (by omega) (by omega)
      refine ⟨h', fun hh => ?_, ?_⟩
      · obtain ⟨g3, g4⟩ := g1 hh
        rw [Bool.and_eq_true] at g3
        refine ⟨g3.1, fun y y1 y2 y3 => ?_⟩
        by_cases e : y = j
        · subst e; simpa using g3.2
        · exact g4 y (by omega) y2 y3
      · unfold neweltop_TopHalted_l13 neweltop_TopHalted_b13
        rw [shl4 v.i]
        simp only [ltT hj, ltT hi, nat_nonneg, Bool.and_self, cond_true, bit_on (show j < 16 by omega) (show I < 4 by omega), hb, cond_false, Int.toNat_natCast, w64_succ (show j < 1000000000000 by omega), cstep_eq v hN hp hj, bne_self_eq_false, isplace_ok v N (show 10 ≤ N by omega) hst, Bool.not_true, e1, e2, hw]
        cases h with
        | true => exact g2
        | false => exact g2
theorem th_l10 (N : Nat) (hN : 2000 ≤ N) {I : Nat} (hI : I < m.Inputs.n) (c : api_Circuit) (x : neweltop_Interlock) (hO : 0 ≤ neweltop_Interlock.Output x ∧ neweltop_Interlock.Output x < (m.Outputs.n : Int)) (b : Bool) {l : Arr api_Place} (hl : l.n ≤ 768) (hp : ∀ i, i < l.n → PlP m (l.f i)) (kr : Bool → Option R) (k0 : Bool → Option R) : ∀ (q i n : Nat) (h : Bool), i + q = l.n → q < n →
    ∃ h' : Bool, (h' = true → h = true ∧ ∀ t, i ≤ t → t < l.n → ∀ y, y < 2 ^ m.Inputs.n → y.testBit I = false → shw m x (stepE m (l.f t) y) = 0) ∧ neweltop_TopHalted_l10 N n ((2 ^ I : Nat) : Int) h (i : Int) c m x b l kr k0 = k0 h' := by
  have hp16 : 2 ^ m.Inputs.n ≤ 16 := Nat.pow_le_pow_right (show 0 < 2 by omega) v.i
  intro q
  induction q with
  | zero =>
    intro i n h h1 h2
    obtain ⟨n, rfl⟩ : ∃ m, n = m + 1 := ⟨n - 1, by omega⟩
    refine ⟨h, fun hh => ⟨hh, fun t t1 t2 => by omega⟩, ?_⟩
    unfold neweltop_TopHalted_l10 neweltop_TopHalted_b10
    simp only [ltF (show l.n ≤ i by omega), cond_false]
  | succ q ih =>
    intro i n h h1 h2
    obtain ⟨n, rfl⟩ : ∃ m, n = m + 1 := ⟨n - 1, by omega⟩
    obtain ⟨h1', a1, a2⟩ := th_l13 v N hN hI c x hO b (show i < l.n by omega) hl (hp i (by omega)) (fun r => kr r) (fun r842 => neweltop_TopHalted_l10 N n ((2 ^ I : Nat) : Int) r842 (w64 ((i : Int) + 1)) c m x b l kr k0) (2 ^ m.Inputs.n) 0 N h (by omega) (by omega)
    obtain ⟨h2', g1, g2⟩ := ih (i + 1) n h1' (by omega) (by omega)
    refine ⟨h2', fun hh => ?_, ?_⟩
    · obtain ⟨g3, g4⟩ := g1 hh
      obtain ⟨g5, g6⟩ := a1 g3
      refine ⟨g5, fun t t1 t2 => ?_⟩
      by_cases e : t = i
      · subst e; exact fun y y1 y2 => g6 y (by omega) y1 y2
      · exact g4 t (by omega) t2
    · unfold neweltop_TopHalted_l10 neweltop_TopHalted_b10
      simp only [ltT (show i < l.n by omega), cond_true]
      refine a2.trans ?_
      rw [w64_succ (show i < 1000000000000 by omega)]
      exact g2
theorem th_j1 (N : Nat) (hN : 2000 ≤ N) (a b : Int) {t : Nat} (c : api_Circuit) (x : neweltop_Interlock) (ht : t < (neweltop_Interlock.Run x).n) (hO : 0 ≤ neweltop_Interlock.Output x ∧ neweltop_Interlock.Output x < (m.Outputs.n : Int)) {p : api_Place} (hp : PlP m p) {y : Nat} (hy : y < 2 ^ m.Inputs.n) (hs : (neweltop_Moment.Hazards ((neweltop_Interlock.Run x).f t)) ≠ 0 → shw m x (stepE m p y) = 0) (kr : Bool → Option R) (kn : api_Place → Option R) :
    neweltop_TopHalted_j1 N a b (t : Int) (y : Int) 0 c m x p kr kn = kn (stepE m p y) := by
  have ho6 := v.o
  have hst := step_pl v hp y
  have hss := hst.s
  obtain ⟨o, ho⟩ : ∃ o : Nat, neweltop_Interlock.Output x = (o : Int) := ⟨(neweltop_Interlock.Output x).toNat, by omega⟩
  have hw : decide (IntKind.wrap IntKind.u64 (neweltop_Interlock.Output x) < 0) = false := by
    rw [ho, u64_nat (by omega)]; simp
  have e1 : decide ((0 : Int) ≤ (stepE m p y).State) = true := by simp; omega
  have e2 : decide ((stepE m p y).State < (m.States.n : Int)) = true := by simp; omega
  rw [neweltop_TopHalted_j1_def]
  unfold neweltop_TopHalted_j1_m
  rw [cstep_eq v hN hp hy]
  simp only [bne_self_eq_false, cond_false, isplace_ok v N (show 10 ≤ N by omega) hst, Bool.not_true, nat_nonneg, Ci.ltT ht, Bool.and_self, cond_true, Int.toNat_natCast, e1, e2, hw]
  by_cases hz : neweltop_Moment.Hazards ((neweltop_Interlock.Run x).f t) = 0
  · have : (neweltop_Moment.Hazards ((neweltop_Interlock.Run x).f t) != 0) = false := by simp [hz]
    rw [this]; rfl
  · have h1 : (neweltop_Moment.Hazards ((neweltop_Interlock.Run x).f t) != 0) = true := by simp [hz]
    have h2 : (shw m x (stepE m p y) == 1) = false := by rw [hs hz]; rfl
    rw [h1, cond_true]
    show (bif (shw m x (stepE m p y) == 1) then kr false else kn (stepE m p y)) = _
    rw [h2]; rfl
theorem th_l27 (N : Nat) (hN : 2000 ≤ N) {I : Nat} (hI : I < m.Inputs.n) {c : api_Circuit} (hc : Ci.VCi c) (x : neweltop_Interlock) (hr60 : (neweltop_Interlock.Run x).n ≤ 60) (hO : 0 ≤ neweltop_Interlock.Output x ∧ neweltop_Interlock.Output x < (m.Outputs.n : Int)) {l : Arr api_Place} (hp : ∀ i, i < l.n → PlP m (l.f i))
    (hcl : ∀ i, i < l.n → ∀ j, j < 2 ^ m.Inputs.n → ∃ s, s < l.n ∧ l.f s = stepE m (l.f i) j) (hsh : ∀ t, t < l.n → ∀ y, y < 2 ^ m.Inputs.n → y.testBit I = false → shw m x (stepE m (l.f t) y) = 0)
    {cl : Nat} (hcl1 : cl < 2 ^ c.Switches.n) (hsafe : ∀ hz, hz ≠ 0 → hz < 2 ^ c.Hazards.toNat → Ci.condS c hz cl N 0 = false) (kr : Bool → Option R) (k4 : Unit → Option R) (hk : k4 () = kr true) : ∀ (q t n : Nat) (p : api_Place), t + q = (neweltop_Interlock.Run x).n → q < n → (∃ s, s < l.n ∧ l.f s = p) →
    neweltop_TopHalted_l27 N n ((2 ^ I : Nat) : Int) (cl : Int) (t : Int) c m x p kr k4 = kr true := by
  have hp16 : 2 ^ m.Inputs.n ≤ 16 := Nat.pow_le_pow_right (show 0 < 2 by omega) v.i
  have hi4 := v.i
  intro q
  induction q with
  | zero =>
    intro t n p h1 h2 h3
    obtain ⟨n, rfl⟩ : ∃ m, n = m + 1 := ⟨n - 1, by omega⟩
    unfold neweltop_TopHalted_l27 neweltop_TopHalted_b27
    simp only [Ci.ltF (show (neweltop_Interlock.Run x).n ≤ t by omega), cond_false]
    exact hk
  | succ q ih =>
    intro t n p h1 h2 h3
    obtain ⟨n, rfl⟩ : ∃ m, n = m + 1 := ⟨n - 1, by omega⟩
    obtain ⟨s, s1, s2⟩ := h3
    subst s2
    have ht : t < (neweltop_Interlock.Run x).n := by omega
    unfold neweltop_TopHalted_l27 neweltop_TopHalted_b27
    rw [shl4 v.i]
    simp only [Ci.ltT ht, nat_nonneg, Bool.and_self, cond_true, Int.toNat_natCast, neweltop_measures_eq, Ci.refHz hc, w64_succ (show t < 1000000000000 by omega)]
    by_cases c1 : w64 (↑(BitVec.toNat (BitVec.ofInt (IntKind.bits IntKind.i64) (neweltop_Moment.Inputs ((neweltop_Interlock.Run x).f t)) &&& ~~~BitVec.ofInt (IntKind.bits IntKind.i64) ((2 ^ I : Nat) : Int))) : Int) < 0
    · simp only [c1, decide_true, cond_true]
    obtain ⟨y, y1, y2⟩ := bit_off (a := neweltop_Moment.Inputs ((neweltop_Interlock.Run x).f t)) (show I < 4 by omega) hp16 (by omega)
    have c1' : ¬ ((y : Int) < 0) := by omega
    simp only [y1, c1', decide_false, cond_false]
    by_cases c2 : (y : Int) ≥ ((2 ^ m.Inputs.n : Nat) : Int)
    · simp only [c2, decide_true, cond_true]
    simp only [c2, decide_false, cond_false]
    have hy : y < 2 ^ m.Inputs.n := by omega
    by_cases c3 : 0 ≤ neweltop_Moment.Hazards ((neweltop_Interlock.Run x).f t) ∧ neweltop_Moment.Hazards ((neweltop_Interlock.Run x).f t) ≤ ((2 ^ c.Hazards.toNat : Nat) : Int) - 1
    rotate_left
    · simp only [c3, decide_false, Bool.not_false, cond_true]
    simp only [c3, and_self, decide_true, Bool.not_true, cond_false]
    obtain ⟨hz, ehz⟩ : ∃ hz : Nat, neweltop_Moment.Hazards ((neweltop_Interlock.Run x).f t) = (hz : Int) := ⟨(neweltop_Moment.Hazards ((neweltop_Interlock.Run x).f t)).toNat, by omega⟩
    have hhz : hz < 2 ^ c.Hazards.toNat := by omega
    simp only [ehz, Ci.runs_eq hN hc hhz hcl1]
    cases hrun : Ci.condS c hz cl N 0 with
    | true =>
      have h0 : hz = 0 := by
        by_cases e : hz = 0
        · exact e
        · have := hsafe hz e hhz
          rw [this] at hrun; cases hrun
      simp only [cond_true]
      rw [bit_or (show y < 16 by omega) (show I < 4 by omega)]
      have hy2 : y ||| 2 ^ I < 2 ^ m.Inputs.n := Nat.or_lt_two_pow hy (Nat.pow_lt_pow_right (by omega) hI)
      rw [th_j1 v N hN _ _ c x ht hO (hp s s1) hy2 (fun h => absurd (by rw [ehz, h0]; rfl) h)]
      exact ih (t + 1) n _ (by omega) (by omega) (hcl s s1 _ hy2)
    | false =>
      simp only [cond_false]
      rw [th_j1 v N hN _ _ c x ht hO (hp s s1) hy (fun h => hsh s s1 y hy y2)]
      exact ih (t + 1) n _ (by omega) (by omega) (hcl s s1 _ hy)
end
theorem topHalted_true (c : api_Circuit) (m : api_Machine) (x : neweltop_Interlock) (h0 : c.wf) (h1 : m.wf) (h2 : x.wf) : ∃ N, neweltop_TopHalted N c m x (fun q0 => okK (lget [.bool q0] 0, [])) = some () := by
  refine ⟨10000, ?_⟩
  have hN : 2000 ≤ 10000 := by omega
  generalize 10000 = N at hN
  have htr : okK (lget [SV.bool true] 0, []) = some () := rfl
  rw [neweltop_TopHalted_def]
  unfold neweltop_TopHalted_m
  obtain ⟨bf, hf⟩ := th_far (R := Unit) (N := N) (by omega) c
  rw [hf]
  cases bf with
  | true => simp only [cond_true, neweltop_measures_eq]; exact htr
  | false =>
  simp only [cond_false]
  obtain ⟨bw, hw⟩ := th_wide (R := Unit) hN m _
  refine hw.trans ?_
  cases bw with
  | true => simp only [cond_true, neweltop_measures_eq]; exact htr
  | false =>
  simp only [cond_false]
  by_cases h60 : ((neweltop_Interlock.Run x).n : Int) > 60
  · simp only [h60, decide_true, cond_true, neweltop_measures_eq]; exact htr
  simp only [h60, decide_false, cond_false]
  refine (Ci.refCi (N := N) (by omega) c _).elim (fun ⟨v, hv, h⟩ => h.trans ?_) (fun ⟨hc, h⟩ => h.trans ?_)
  · have : (v != 0) = true := by simpa using hv
    simp only [this, cond_true, neweltop_measures_eq]; exact htr
  simp only [bne_self_eq_false, cond_false]
  refine (ref_check hN m _).elim (fun h => h.trans ?_) (fun ⟨vm, h⟩ => h.trans ?_)
  · simp only [show ((41 : Int) != 0) = true from rfl, cond_true, neweltop_measures_eq]; exact htr
  simp only [bne_self_eq_false, cond_false]
  by_cases hI0 : neweltop_Interlock.Input x < 0
  · simp only [hI0, decide_true, cond_true, neweltop_measures_eq]; exact htr
  by_cases hI1 : neweltop_Interlock.Input x ≥ (m.Inputs.n : Int)
  · simp only [hI0, hI1, decide_true, decide_false, cond_true, cond_false, neweltop_measures_eq]; exact htr
  by_cases hO0 : neweltop_Interlock.Output x < 0
  · simp only [hI0, hI1, hO0, decide_true, decide_false, cond_true, cond_false, neweltop_measures_eq]; exact htr
  by_cases hO1 : neweltop_Interlock.Output x ≥ (m.Outputs.n : Int)
  · simp only [hI0, hI1, hO0, hO1, decide_true, decide_false, cond_true, cond_false, neweltop_measures_eq]; exact htr
  by_cases hS1 : neweltop_Interlock.Switch x ≥ (c.Switches.n : Int)
  · simp only [hI0, hI1, hO0, hO1, hS1, decide_true, decide_false, cond_true, cond_false, neweltop_measures_eq]; exact htr
  simp only [hI0, hI1, hO0, hO1, hS1, decide_false, cond_false]
  obtain ⟨b', a', hcr, hcrit⟩ := Ci.crit_ok hN hc
  rw [hcrit]
  obtain ⟨b, l, ⟨l1, l2, l3, l4, l5⟩, hre⟩ := reach_eq (R := Unit) vm hN (asm := lst (lsC api_LiteralC) (0 : Nat) (zeroC [SV.sl SK.nil (CK.cons (CK.int IntKind.i64) (CK.cons (CK.int IntKind.i64) (CK.cons (CK.int IntKind.i64) (CK.cons CK.bool CK.nil)))) (4 : Nat) (0 : Nat) (zeroC [SV.int IntKind.i64 (0 : Int), SV.int IntKind.i64 (0 : Int), SV.int IntKind.i64 (0 : Int), SV.bool false])])) rfl
  rw [hre]
  have hln : ((l.n : Int) == 0) = false := by simp; omega
  simp only [bne_self_eq_false, cond_false, hln]
  have hi4 := vm.i
  obtain ⟨I, eI⟩ : ∃ I : Nat, neweltop_Interlock.Input x = (I : Int) := ⟨(neweltop_Interlock.Input x).toNat, by omega⟩
  have hI : I < m.Inputs.n := by omega
  have hO : 0 ≤ neweltop_Interlock.Output x ∧ neweltop_Interlock.Output x < (m.Outputs.n : Int) := by omega
  have hw1 : decide (IntKind.wrap IntKind.u64 (neweltop_Interlock.Input x) < 0) = false := by
    rw [eI, u64_nat (by omega)]; simp
  have hw2 : w64 ((1 : Int) * (2 : Int) ^ min (Int.toNat (IntKind.wrap IntKind.u64 (neweltop_Interlock.Input x))) (IntKind.bits IntKind.i64)) = ((2 ^ I : Nat) : Int) := by rw [eI]; exact shl4 (by omega)
  simp only [hw1, cond_false, hw2]
  have fin : ∀ (cl : Nat), (cl = 0 ∨ ∃ s, s < c.Switches.n ∧ cl = 2 ^ s) → (a'.n = 0) → (∀ t, t < l.n → ∀ y, y < 2 ^ m.Inputs.n → y.testBit I = false → shw m x (stepE m (l.f t) y) = 0) → ∀ (kr : Bool → Option Unit), kr true = some () → neweltop_TopHalted_j0 N ((2 ^ I : Nat) : Int) (cl : Int) c m x kr = some () := by
    intro cl hcl han hsh kr hkr
    rw [neweltop_TopHalted_j0_def]
    unfold neweltop_TopHalted_j0_m
    have hs := hc.s
    have hcl1 : cl < 2 ^ c.Switches.n := by
      rcases hcl with e | ⟨s, s1, s2⟩
      · rw [e]; exact Nat.two_pow_pos _
      · rw [s2]; exact Nat.pow_lt_pow_right (by omega) s1
    refine Eq.trans (th_l27 (R := Unit) vm N hN hI hc x (by omega) hO l4 l5 hsh hcl1 (fun hz z1 z2 => Ci.safe hN hc (hcr han) z1 z2 hcl) (fun r => kr r) (fun _ => neweltop_measures N (fun r881 => kr r881)) (by rw [neweltop_measures_eq]) (neweltop_Interlock.Run x).n 0 N pl0 (by omega) (by omega) ⟨0, by omega, l3⟩) hkr
  obtain ⟨h', g1, g2⟩ := th_l10 (R := Unit) vm N hN hI c x hO b l2 l4 (fun r843 => okK (lget [.bool r843] 0, [])) (fun r844 =>
                 bif !r844 then
                  neweltop_measures N  (fun r845 => okK (lget [.bool r845] 0, []))
                 else
                  bif decide (neweltop_Interlock.Switch x ≥ (0 : Int)) then
                   bif decide (IntKind.wrap IntKind.u64 (neweltop_Interlock.Switch x) < (0 : Int)) then
                    Option.none
                   else
                    neweltop_TopHalted_j0 N ((2 ^ I : Nat) : Int) (w64 ((1 : Int) * (2 : Int) ^ min (Int.toNat (IntKind.wrap IntKind.u64 (neweltop_Interlock.Switch x))) (IntKind.bits IntKind.i64))) c m x (fun r882 => okK (lget [.bool r882] 0, []))
                  else
                   neweltop_TopHalted_j0 N ((2 ^ I : Nat) : Int) (0 : Int) c m x (fun r883 => okK (lget [.bool r883] 0, []))) l.n 0 N ((a'.n : Int) == 0) (by omega) (by omega)
  refine Eq.trans g2 ?_
  cases h' with
  | false => simp only [Bool.not_false, cond_true, neweltop_measures_eq]; exact htr
  | true =>
  obtain ⟨g3, g4⟩ := g1 rfl
  have han : a'.n = 0 := by
    have : (a'.n : Int) = 0 := by simpa using g3
    omega
  simp only [Bool.not_true, cond_false]
  by_cases hS0 : neweltop_Interlock.Switch x ≥ 0
  · obtain ⟨S, eS⟩ : ∃ S : Nat, neweltop_Interlock.Switch x = (S : Int) := ⟨(neweltop_Interlock.Switch x).toNat, by omega⟩
    have hs := hc.s
    have hS : S < c.Switches.n := by omega
    have hw3 : decide (IntKind.wrap IntKind.u64 (neweltop_Interlock.Switch x) < 0) = false := by
      rw [eS, u64_nat (by omega)]; simp
    have hw4 : w64 ((1 : Int) * (2 : Int) ^ min (Int.toNat (IntKind.wrap IntKind.u64 (neweltop_Interlock.Switch x))) (IntKind.bits IntKind.i64)) = ((2 ^ S : Nat) : Int) := by
      rw [eS, u64_nat (by omega)]; exact Ci.shl_eq (by omega)
    simp only [hS0, decide_true, cond_true, hw3, cond_false, hw4]
    exact fin (2 ^ S) (.inr ⟨S, hS, rfl⟩) han (fun t ht => g4 t (by omega) ht) _ htr
  · simp only [hS0, decide_false, cond_false]
    exact fin 0 (.inl rfl) han (fun t ht => g4 t (by omega) ht) _ htr
end
end
end Go.Proofs.YtpillmoddoccfabDoor
