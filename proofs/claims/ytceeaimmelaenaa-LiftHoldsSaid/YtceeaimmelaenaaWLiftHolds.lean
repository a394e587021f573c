/-
  The model of the statement LiftHolds, that it is what the code does (written by a program), and that it answers true.
-/
import Derived.Test.YtceeaimmelaenaaP7
set_option maxRecDepth 100000
set_option maxHeartbeats 0
set_option linter.unusedVariables false
set_option linter.unusedSimpArgs false
namespace Go.Proofs.Ytceeaimmelaenaa
open Go.Sx
noncomputable section

def newellaw05_LiftHolds_L18 : LoopSp := ⟨⟨[3, 4, 12, 13, 14], ⟨(dr 3 ((rPtr 0 0) :: (rPtr 1 0) :: (dr 7 ((rInt .i64) :: (rBool) :: (rInt .i64) :: (dr 145 []))))), [(0, eBlkC api_LiftC), (1, eBlkC newellaw05_SpansC)]⟩, 2⟩, [(Option.none, ⟨[6], ⟨(dr 6 ((rBool) :: (dr 153 []))), []⟩, 0⟩), (some 0, ⟨[13], ⟨(dr 13 ((rBool) :: (dr 146 []))), []⟩, 0⟩)]⟩
theorem newellaw05_LiftHolds_L18_ok : newellaw05_LiftHolds_L18.Ok := ⟨⟨(drCons 3 (allCons (rPtr_ok 0 0) (allCons (rPtr_ok 1 0) (drCons 7 (allCons (rInt_ok .i64) (allCons rBool_ok (allCons (rInt_ok .i64) (drCons 145 allNil)))))))), (eCons (eBlkC_ok api_LiftC_ok api_LiftC_len) (eCons (eBlkC_ok newellaw05_SpansC_ok newellaw05_SpansC_len) eNil))⟩, (xCons ⟨(drCons 6 (allCons rBool_ok (drCons 153 allNil))), eNil⟩ (xCons ⟨(drCons 13 (allCons rBool_ok (drCons 146 allNil))), eNil⟩ xNil))⟩
def newellaw05_LiftHolds_h18 (v822 : Int) (v823 : Bool) (v824 : Int) (v825 : api_Lift) (v826 : newellaw05_Spans) : St := ⟨(un 3 ((.ptr 0 0) :: (.ptr 1 0) :: (un 7 ((.int .i64 v822) :: (.bool v823) :: (.int .i64 v824) :: (un 145 []))))), [(0, .blk (Cod.enc api_LiftC v825)), (1, .blk (Cod.enc newellaw05_SpansC v826))], 2⟩
def newellaw05_LiftHolds_x18_r (q0 : Bool) : St := ⟨(un 6 ((.bool q0) :: (un 153 []))), [], 0⟩
def newellaw05_LiftHolds_x18_0 (q0 : Bool) : St := ⟨(un 13 ((.bool q0) :: (un 146 []))), [], 0⟩
def newellaw05_LiftHolds_b18 {R : Type} (N : Nat) (rc : Int → Bool → Int → api_Lift → newellaw05_Spans → Option R) (v822 : Int) (v823 : Bool) (v824 : Int) (v825 : api_Lift) (v826 : newellaw05_Spans) (kr : Bool → Option R) (k0 : Bool → Option R) : Option R :=
  bif decide (v824 < (4 : Int)) then
   bif Int.tmod v824 (2 : Int) == (1 : Int) then
    bif w64 (Int.tdiv v824 (2 : Int)) == (1 : Int) then
     lift_Slips N v825 (api_Span.High (newellaw05_Spans.Heights v826)) (api_Span.High (newellaw05_Spans.Loads v826)) v822 (fun r827 r828 =>
     bif r828 != (0 : Int) then
      kr false
     else
      bif v823 then
       rc v822 true (w64 (v824 + (1 : Int))) v825 v826
      else
       rc v822 r827 (w64 (v824 + (1 : Int))) v825 v826)
    else
     lift_Slips N v825 (api_Span.High (newellaw05_Spans.Heights v826)) (api_Span.Low (newellaw05_Spans.Loads v826)) v822 (fun r829 r830 =>
     bif r830 != (0 : Int) then
      kr false
     else
      bif v823 then
       rc v822 true (w64 (v824 + (1 : Int))) v825 v826
      else
       rc v822 r829 (w64 (v824 + (1 : Int))) v825 v826)
   else
    bif w64 (Int.tdiv v824 (2 : Int)) == (1 : Int) then
     lift_Slips N v825 (api_Span.Low (newellaw05_Spans.Heights v826)) (api_Span.High (newellaw05_Spans.Loads v826)) v822 (fun r831 r832 =>
     bif r832 != (0 : Int) then
      kr false
     else
      bif v823 then
       rc v822 true (w64 (v824 + (1 : Int))) v825 v826
      else
       rc v822 r831 (w64 (v824 + (1 : Int))) v825 v826)
    else
     lift_Slips N v825 (api_Span.Low (newellaw05_Spans.Heights v826)) (api_Span.Low (newellaw05_Spans.Loads v826)) v822 (fun r833 r834 =>
     bif r834 != (0 : Int) then
      kr false
     else
      bif v823 then
       rc v822 true (w64 (v824 + (1 : Int))) v825 v826
      else
       rc v822 r833 (w64 (v824 + (1 : Int))) v825 v826)
  else
   k0 v823
def newellaw05_LiftHolds_l18 {R : Type} (N : Nat) : Nat → Int → Bool → Int → api_Lift → newellaw05_Spans → (Bool → Option R) → (Bool → Option R) → Option R
  | 0, _, _, _, _, _, _, _ => Option.none
  | n + 1, v822, v823, v824, v825, v826, kr, k0 => newellaw05_LiftHolds_b18 N (fun v822 v823 v824 v825 v826 => newellaw05_LiftHolds_l18 N n v822 v823 v824 v825 v826 kr k0) v822 v823 v824 v825 v826 kr k0


def newellaw05_LiftHolds_m {R : Type} (N : Nat) (a809 : api_Lift) (a810 : newellaw05_Spans) (a811 : newellaw05_Place) (k : Bool → Option R) : Option R :=
  newellaw05_Far N a809 (fun r812 =>
  bif r812 then
   newellaw05_works N  (fun r813 =>
   k r813)
  else
   newelref05_Check N a809 (fun r814 =>
   bif r814 != (0 : Int) then
    newellaw05_works N  (fun r815 =>
    k r815)
   else
    newelref05_Spans N a809 (newellaw05_Spans.Heights a810) (newellaw05_Spans.Loads a810) (fun r816 =>
    bif !r816 then
     newellaw05_works N  (fun r817 =>
     k r817)
    else
     lift_Grip N a809 (newellaw05_Spans.Heights a810) (newellaw05_Spans.Loads a810) (fun r818 r819 =>
     bif r819 != (0 : Int) then
      bif r819 != (3 : Int) then
       k false
      else
       bif decide (newellaw05_Place.Height a811 ≥ api_Span.Low (newellaw05_Spans.Heights a810)) then
        bif decide (newellaw05_Place.Height a811 ≤ api_Span.High (newellaw05_Spans.Heights a810)) then
         bif decide (newellaw05_Place.Load a811 ≥ api_Span.Low (newellaw05_Spans.Loads a810)) then
          bif r819 == (0 : Int) then
           bif decide (newellaw05_Place.Load a811 ≤ api_Span.High (newellaw05_Spans.Loads a810)) then
            bif decide (newellaw05_Place.Accel a811 ≥ (0 : Int)) then
             bif decide (newellaw05_Place.Accel a811 ≤ r818) then
              lift_Slips N a809 (newellaw05_Place.Height a811) (newellaw05_Place.Load a811) (newellaw05_Place.Accel a811) (fun r820 r821 =>
              bif r820 then
               k false
              else
               bif r821 != (0 : Int) then
                k false
               else
                bif r819 == (3 : Int) then
                 newellaw05_LiftHolds_l18 N N (0 : Int) false (0 : Int) a809 a810 (fun r835 =>
                  k r835) (fun r836 =>
                  bif r836 then
                   newellaw05_works N  (fun r837 =>
                   k r837)
                  else
                   k false)
                else
                 bif decide (w64 (r818 + (1 : Int)) ≥ (1000 : Int)) then
                  newellaw05_works N  (fun r838 =>
                  k r838)
                 else
                  newellaw05_LiftHolds_l18 N N (w64 (r818 + (1 : Int))) false (0 : Int) a809 a810 (fun r839 =>
                   k r839) (fun r840 =>
                   bif r840 then
                    newellaw05_works N  (fun r841 =>
                    k r841)
                   else
                    k false))
             else
              bif r819 == (3 : Int) then
               newellaw05_LiftHolds_l18 N N (0 : Int) false (0 : Int) a809 a810 (fun r842 =>
                k r842) (fun r843 =>
                bif r843 then
                 newellaw05_works N  (fun r844 =>
                 k r844)
                else
                 k false)
              else
               bif decide (w64 (r818 + (1 : Int)) ≥ (1000 : Int)) then
                newellaw05_works N  (fun r845 =>
                k r845)
               else
                newellaw05_LiftHolds_l18 N N (w64 (r818 + (1 : Int))) false (0 : Int) a809 a810 (fun r846 =>
                 k r846) (fun r847 =>
                 bif r847 then
                  newellaw05_works N  (fun r848 =>
                  k r848)
                 else
                  k false)
            else
             bif r819 == (3 : Int) then
              newellaw05_LiftHolds_l18 N N (0 : Int) false (0 : Int) a809 a810 (fun r849 =>
               k r849) (fun r850 =>
               bif r850 then
                newellaw05_works N  (fun r851 =>
                k r851)
               else
                k false)
             else
              bif decide (w64 (r818 + (1 : Int)) ≥ (1000 : Int)) then
               newellaw05_works N  (fun r852 =>
               k r852)
              else
               newellaw05_LiftHolds_l18 N N (w64 (r818 + (1 : Int))) false (0 : Int) a809 a810 (fun r853 =>
                k r853) (fun r854 =>
                bif r854 then
                 newellaw05_works N  (fun r855 =>
                 k r855)
                else
                 k false)
           else
            bif r819 == (3 : Int) then
             newellaw05_LiftHolds_l18 N N (0 : Int) false (0 : Int) a809 a810 (fun r856 =>
              k r856) (fun r857 =>
              bif r857 then
               newellaw05_works N  (fun r858 =>
               k r858)
              else
               k false)
            else
             bif decide (w64 (r818 + (1 : Int)) ≥ (1000 : Int)) then
              newellaw05_works N  (fun r859 =>
              k r859)
             else
              newellaw05_LiftHolds_l18 N N (w64 (r818 + (1 : Int))) false (0 : Int) a809 a810 (fun r860 =>
               k r860) (fun r861 =>
               bif r861 then
                newellaw05_works N  (fun r862 =>
                k r862)
               else
                k false)
          else
           bif r819 == (3 : Int) then
            newellaw05_LiftHolds_l18 N N (0 : Int) false (0 : Int) a809 a810 (fun r863 =>
             k r863) (fun r864 =>
             bif r864 then
              newellaw05_works N  (fun r865 =>
              k r865)
             else
              k false)
           else
            bif decide (w64 (r818 + (1 : Int)) ≥ (1000 : Int)) then
             newellaw05_works N  (fun r866 =>
             k r866)
            else
             newellaw05_LiftHolds_l18 N N (w64 (r818 + (1 : Int))) false (0 : Int) a809 a810 (fun r867 =>
              k r867) (fun r868 =>
              bif r868 then
               newellaw05_works N  (fun r869 =>
               k r869)
              else
               k false)
         else
          bif r819 == (0 : Int) then
           bif r819 == (3 : Int) then
            newellaw05_LiftHolds_l18 N N (0 : Int) false (0 : Int) a809 a810 (fun r870 =>
             k r870) (fun r871 =>
             bif r871 then
              newellaw05_works N  (fun r872 =>
              k r872)
             else
              k false)
           else
            bif decide (w64 (r818 + (1 : Int)) ≥ (1000 : Int)) then
             newellaw05_works N  (fun r873 =>
             k r873)
            else
             newellaw05_LiftHolds_l18 N N (w64 (r818 + (1 : Int))) false (0 : Int) a809 a810 (fun r874 =>
              k r874) (fun r875 =>
              bif r875 then
               newellaw05_works N  (fun r876 =>
               k r876)
              else
               k false)
          else
           bif r819 == (3 : Int) then
            newellaw05_LiftHolds_l18 N N (0 : Int) false (0 : Int) a809 a810 (fun r877 =>
             k r877) (fun r878 =>
             bif r878 then
              newellaw05_works N  (fun r879 =>
              k r879)
             else
              k false)
           else
            bif decide (w64 (r818 + (1 : Int)) ≥ (1000 : Int)) then
             newellaw05_works N  (fun r880 =>
             k r880)
            else
             newellaw05_LiftHolds_l18 N N (w64 (r818 + (1 : Int))) false (0 : Int) a809 a810 (fun r881 =>
              k r881) (fun r882 =>
              bif r882 then
               newellaw05_works N  (fun r883 =>
               k r883)
              else
               k false)
        else
         bif r819 == (0 : Int) then
          bif r819 == (3 : Int) then
           newellaw05_LiftHolds_l18 N N (0 : Int) false (0 : Int) a809 a810 (fun r884 =>
            k r884) (fun r885 =>
            bif r885 then
             newellaw05_works N  (fun r886 =>
             k r886)
            else
             k false)
          else
           bif decide (w64 (r818 + (1 : Int)) ≥ (1000 : Int)) then
            newellaw05_works N  (fun r887 =>
            k r887)
           else
            newellaw05_LiftHolds_l18 N N (w64 (r818 + (1 : Int))) false (0 : Int) a809 a810 (fun r888 =>
             k r888) (fun r889 =>
             bif r889 then
              newellaw05_works N  (fun r890 =>
              k r890)
             else
              k false)
         else
          bif r819 == (3 : Int) then
           newellaw05_LiftHolds_l18 N N (0 : Int) false (0 : Int) a809 a810 (fun r891 =>
            k r891) (fun r892 =>
            bif r892 then
             newellaw05_works N  (fun r893 =>
             k r893)
            else
             k false)
          else
           bif decide (w64 (r818 + (1 : Int)) ≥ (1000 : Int)) then
            newellaw05_works N  (fun r894 =>
            k r894)
           else
            newellaw05_LiftHolds_l18 N N (w64 (r818 + (1 : Int))) false (0 : Int) a809 a810 (fun r895 =>
             k r895) (fun r896 =>
             bif r896 then
              newellaw05_works N  (fun r897 =>
              k r897)
             else
              k false)
       else
        bif r819 == (0 : Int) then
         bif r819 == (3 : Int) then
          newellaw05_LiftHolds_l18 N N (0 : Int) false (0 : Int) a809 a810 (fun r898 =>
           k r898) (fun r899 =>
           bif r899 then
            newellaw05_works N  (fun r900 =>
            k r900)
           else
            k false)
         else
          bif decide (w64 (r818 + (1 : Int)) ≥ (1000 : Int)) then
           newellaw05_works N  (fun r901 =>
           k r901)
          else
           newellaw05_LiftHolds_l18 N N (w64 (r818 + (1 : Int))) false (0 : Int) a809 a810 (fun r902 =>
            k r902) (fun r903 =>
            bif r903 then
             newellaw05_works N  (fun r904 =>
             k r904)
            else
             k false)
        else
         bif r819 == (3 : Int) then
          newellaw05_LiftHolds_l18 N N (0 : Int) false (0 : Int) a809 a810 (fun r905 =>
           k r905) (fun r906 =>
           bif r906 then
            newellaw05_works N  (fun r907 =>
            k r907)
           else
            k false)
         else
          bif decide (w64 (r818 + (1 : Int)) ≥ (1000 : Int)) then
           newellaw05_works N  (fun r908 =>
           k r908)
          else
           newellaw05_LiftHolds_l18 N N (w64 (r818 + (1 : Int))) false (0 : Int) a809 a810 (fun r909 =>
            k r909) (fun r910 =>
            bif r910 then
             newellaw05_works N  (fun r911 =>
             k r911)
            else
             k false)
     else
      bif decide (newellaw05_Place.Height a811 ≥ api_Span.Low (newellaw05_Spans.Heights a810)) then
       bif decide (newellaw05_Place.Height a811 ≤ api_Span.High (newellaw05_Spans.Heights a810)) then
        bif decide (newellaw05_Place.Load a811 ≥ api_Span.Low (newellaw05_Spans.Loads a810)) then
         bif r819 == (0 : Int) then
          bif decide (newellaw05_Place.Load a811 ≤ api_Span.High (newellaw05_Spans.Loads a810)) then
           bif decide (newellaw05_Place.Accel a811 ≥ (0 : Int)) then
            bif decide (newellaw05_Place.Accel a811 ≤ r818) then
             lift_Slips N a809 (newellaw05_Place.Height a811) (newellaw05_Place.Load a811) (newellaw05_Place.Accel a811) (fun r912 r913 =>
             bif r912 then
              k false
             else
              bif r913 != (0 : Int) then
               k false
              else
               bif r819 == (3 : Int) then
                newellaw05_LiftHolds_l18 N N (0 : Int) false (0 : Int) a809 a810 (fun r914 =>
                 k r914) (fun r915 =>
                 bif r915 then
                  newellaw05_works N  (fun r916 =>
                  k r916)
                 else
                  k false)
               else
                bif decide (w64 (r818 + (1 : Int)) ≥ (1000 : Int)) then
                 newellaw05_works N  (fun r917 =>
                 k r917)
                else
                 newellaw05_LiftHolds_l18 N N (w64 (r818 + (1 : Int))) false (0 : Int) a809 a810 (fun r918 =>
                  k r918) (fun r919 =>
                  bif r919 then
                   newellaw05_works N  (fun r920 =>
                   k r920)
                  else
                   k false))
            else
             bif r819 == (3 : Int) then
              newellaw05_LiftHolds_l18 N N (0 : Int) false (0 : Int) a809 a810 (fun r921 =>
               k r921) (fun r922 =>
               bif r922 then
                newellaw05_works N  (fun r923 =>
                k r923)
               else
                k false)
             else
              bif decide (w64 (r818 + (1 : Int)) ≥ (1000 : Int)) then
               newellaw05_works N  (fun r924 =>
               k r924)
              else
               newellaw05_LiftHolds_l18 N N (w64 (r818 + (1 : Int))) false (0 : Int) a809 a810 (fun r925 =>
                k r925) (fun r926 =>
                bif r926 then
                 newellaw05_works N  (fun r927 =>
                 k r927)
                else
                 k false)
           else
            bif r819 == (3 : Int) then
             newellaw05_LiftHolds_l18 N N (0 : Int) false (0 : Int) a809 a810 (fun r928 =>
              k r928) (fun r929 =>
              bif r929 then
               newellaw05_works N  (fun r930 =>
               k r930)
              else
               k false)
            else
             bif decide (w64 (r818 + (1 : Int)) ≥ (1000 : Int)) then
              newellaw05_works N  (fun r931 =>
              k r931)
             else
              newellaw05_LiftHolds_l18 N N (w64 (r818 + (1 : Int))) false (0 : Int) a809 a810 (fun r932 =>
               k r932) (fun r933 =>
               bif r933 then
                newellaw05_works N  (fun r934 =>
                k r934)
               else
                k false)
          else
           bif r819 == (3 : Int) then
            newellaw05_LiftHolds_l18 N N (0 : Int) false (0 : Int) a809 a810 (fun r935 =>
             k r935) (fun r936 =>
             bif r936 then
              newellaw05_works N  (fun r937 =>
              k r937)
             else
              k false)
           else
            bif decide (w64 (r818 + (1 : Int)) ≥ (1000 : Int)) then
             newellaw05_works N  (fun r938 =>
             k r938)
            else
             newellaw05_LiftHolds_l18 N N (w64 (r818 + (1 : Int))) false (0 : Int) a809 a810 (fun r939 =>
              k r939) (fun r940 =>
              bif r940 then
               newellaw05_works N  (fun r941 =>
               k r941)
              else
               k false)
         else
          bif r819 == (3 : Int) then
           newellaw05_LiftHolds_l18 N N (0 : Int) false (0 : Int) a809 a810 (fun r942 =>
            k r942) (fun r943 =>
            bif r943 then
             newellaw05_works N  (fun r944 =>
             k r944)
            else
             k false)
          else
           bif decide (w64 (r818 + (1 : Int)) ≥ (1000 : Int)) then
            newellaw05_works N  (fun r945 =>
            k r945)
           else
            newellaw05_LiftHolds_l18 N N (w64 (r818 + (1 : Int))) false (0 : Int) a809 a810 (fun r946 =>
             k r946) (fun r947 =>
             bif r947 then
              newellaw05_works N  (fun r948 =>
              k r948)
             else
              k false)
        else
         bif r819 == (0 : Int) then
          bif r819 == (3 : Int) then
           newellaw05_LiftHolds_l18 N N (0 : Int) false (0 : Int) a809 a810 (fun r949 =>
            k r949) (fun r950 =>
            bif r950 then
             newellaw05_works N  (fun r951 =>
             k r951)
            else
             k false)
          else
           bif decide (w64 (r818 + (1 : Int)) ≥ (1000 : Int)) then
            newellaw05_works N  (fun r952 =>
            k r952)
           else
            newellaw05_LiftHolds_l18 N N (w64 (r818 + (1 : Int))) false (0 : Int) a809 a810 (fun r953 =>
             k r953) (fun r954 =>
             bif r954 then
              newellaw05_works N  (fun r955 =>
              k r955)
             else
              k false)
         else
          bif r819 == (3 : Int) then
           newellaw05_LiftHolds_l18 N N (0 : Int) false (0 : Int) a809 a810 (fun r956 =>
            k r956) (fun r957 =>
            bif r957 then
             newellaw05_works N  (fun r958 =>
             k r958)
            else
             k false)
          else
           bif decide (w64 (r818 + (1 : Int)) ≥ (1000 : Int)) then
            newellaw05_works N  (fun r959 =>
            k r959)
           else
            newellaw05_LiftHolds_l18 N N (w64 (r818 + (1 : Int))) false (0 : Int) a809 a810 (fun r960 =>
             k r960) (fun r961 =>
             bif r961 then
              newellaw05_works N  (fun r962 =>
              k r962)
             else
              k false)
       else
        bif r819 == (0 : Int) then
         bif r819 == (3 : Int) then
          newellaw05_LiftHolds_l18 N N (0 : Int) false (0 : Int) a809 a810 (fun r963 =>
           k r963) (fun r964 =>
           bif r964 then
            newellaw05_works N  (fun r965 =>
            k r965)
           else
            k false)
         else
          bif decide (w64 (r818 + (1 : Int)) ≥ (1000 : Int)) then
           newellaw05_works N  (fun r966 =>
           k r966)
          else
           newellaw05_LiftHolds_l18 N N (w64 (r818 + (1 : Int))) false (0 : Int) a809 a810 (fun r967 =>
            k r967) (fun r968 =>
            bif r968 then
             newellaw05_works N  (fun r969 =>
             k r969)
            else
             k false)
        else
         bif r819 == (3 : Int) then
          newellaw05_LiftHolds_l18 N N (0 : Int) false (0 : Int) a809 a810 (fun r970 =>
           k r970) (fun r971 =>
           bif r971 then
            newellaw05_works N  (fun r972 =>
            k r972)
           else
            k false)
         else
          bif decide (w64 (r818 + (1 : Int)) ≥ (1000 : Int)) then
           newellaw05_works N  (fun r973 =>
           k r973)
          else
           newellaw05_LiftHolds_l18 N N (w64 (r818 + (1 : Int))) false (0 : Int) a809 a810 (fun r974 =>
            k r974) (fun r975 =>
            bif r975 then
             newellaw05_works N  (fun r976 =>
             k r976)
            else
             k false)
      else
       bif r819 == (0 : Int) then
        bif r819 == (3 : Int) then
         newellaw05_LiftHolds_l18 N N (0 : Int) false (0 : Int) a809 a810 (fun r977 =>
          k r977) (fun r978 =>
          bif r978 then
           newellaw05_works N  (fun r979 =>
           k r979)
          else
           k false)
        else
         bif decide (w64 (r818 + (1 : Int)) ≥ (1000 : Int)) then
          newellaw05_works N  (fun r980 =>
          k r980)
         else
          newellaw05_LiftHolds_l18 N N (w64 (r818 + (1 : Int))) false (0 : Int) a809 a810 (fun r981 =>
           k r981) (fun r982 =>
           bif r982 then
            newellaw05_works N  (fun r983 =>
            k r983)
           else
            k false)
       else
        bif r819 == (3 : Int) then
         newellaw05_LiftHolds_l18 N N (0 : Int) false (0 : Int) a809 a810 (fun r984 =>
          k r984) (fun r985 =>
          bif r985 then
           newellaw05_works N  (fun r986 =>
           k r986)
          else
           k false)
        else
         bif decide (w64 (r818 + (1 : Int)) ≥ (1000 : Int)) then
          newellaw05_works N  (fun r987 =>
          k r987)
         else
          newellaw05_LiftHolds_l18 N N (w64 (r818 + (1 : Int))) false (0 : Int) a809 a810 (fun r988 =>
           k r988) (fun r989 =>
           bif r989 then
            newellaw05_works N  (fun r990 =>
            k r990)
           else
            k false)))))
noncomputable def newellaw05_LiftHolds {R : Type} : Nat → api_Lift → newellaw05_Spans → newellaw05_Place → (Bool → Option R) → Option R := lock (@newellaw05_LiftHolds_m R)
theorem newellaw05_LiftHolds_def {R : Type} (N : Nat) (a809 : api_Lift) (a810 : newellaw05_Spans) (a811 : newellaw05_Place) (k : Bool → Option R) : newellaw05_LiftHolds N a809 a810 a811 k = newellaw05_LiftHolds_m N a809 a810 a811 k := by unfold newellaw05_LiftHolds; rw [lock_eq]
def newellaw05_LiftHolds_sp : Sp := ⟨[rAgg api_LiftC, rAgg newellaw05_SpansC, rAgg newellaw05_PlaceC], []⟩
theorem newellaw05_LiftHolds_sp_ok : newellaw05_LiftHolds_sp.Ok := ⟨(allCons (rAgg_ok api_LiftC_ok api_LiftC_len) (allCons (rAgg_ok newellaw05_SpansC_ok newellaw05_SpansC_len) (allCons (rAgg_ok newellaw05_PlaceC_ok newellaw05_PlaceC_len) allNil))), eNil⟩
def newellaw05_LiftHolds_rs : Sp := ⟨[rBool], []⟩
theorem newellaw05_LiftHolds_rs_ok : newellaw05_LiftHolds_rs.Ok := ⟨(allCons rBool_ok allNil), eNil⟩
def newellaw05_LiftHolds_run {R : Type} (N : Nat) (args : List SV) (T : Tab) (kf : SV × Tab → Option R) : Option R :=
  newellaw05_LiftHolds_m N (Cod.dec api_LiftC (lget (toCs (lget args 0)))) (Cod.dec newellaw05_SpansC (lget (toCs (lget args 1)))) (Cod.dec newellaw05_PlaceC (lget (toCs (lget args 2)))) (fun q0 => kf (lget [.bool q0] 0, []))
def newellaw05_LiftHolds_d18 {R : Type} (N : Nat) (S0 : St) (k : Exit → St → Option R) : Option R :=
  newellaw05_LiftHolds_l18 N N (toI (lget S0.tmps 12)) (toB (lget S0.tmps 13)) (toI (lget S0.tmps 14)) (Cod.dec api_LiftC (lget (entCs (entAt S0.tab 0)))) (Cod.dec newellaw05_SpansC (lget (entCs (entAt S0.tab 1)))) (fun q0 => k .ret (newellaw05_LiftHolds_x18_r q0)) (fun q0 => k (.exit 0) (newellaw05_LiftHolds_x18_0 q0))
def newellaw05_LiftHolds_lp {R : Type} (N : Nat) : Lp R := fun body S k => bif (Go.Sx.keyOf body).getD 0 == 18 then newellaw05_LiftHolds_L18.head.raw 0 S (fun S0 => newellaw05_LiftHolds_d18 N S0 k) else Option.none
theorem newellaw05_LiftHolds_l18_eq {R : Type} (N : Nat) (k : Exit → St → Option R) (n : Nat) : ∀ (v0 : Int) (v1 : Bool) (v2 : Int) (v3 : api_Lift) (v4 : newellaw05_Spans), loopM E.Θ (newellaw05_works_cal N) (newellaw05_LiftHolds_lp N) 0 newellaw05_LiftHolds_L18 (bodyAt E 4 18) n (newellaw05_LiftHolds_h18 v0 v1 v2 v3 v4) k = newellaw05_LiftHolds_l18 N n v0 v1 v2 v3 v4 (fun q0 => k .ret (newellaw05_LiftHolds_x18_r q0)) (fun q0 => k (.exit 0) (newellaw05_LiftHolds_x18_0 q0)) := by
  induction n with
  | zero => intro v0 v1 v2 v3 v4; rfl
  | succ n ih =>
    intro v0 v1 v2 v3 v4
    refine Eq.trans (b := newellaw05_LiftHolds_b18 N (fun v0 v1 v2 v3 v4 => loopM E.Θ (newellaw05_works_cal N) (newellaw05_LiftHolds_lp N) 0 newellaw05_LiftHolds_L18 (bodyAt E 4 18) n (newellaw05_LiftHolds_h18 v0 v1 v2 v3 v4) k) v0 v1 v2 v3 v4 (fun q0 => k .ret (newellaw05_LiftHolds_x18_r q0)) (fun q0 => k (.exit 0) (newellaw05_LiftHolds_x18_0 q0))) (by kernel_rfl) ?_
    have h : (fun (v0 : Int) (v1 : Bool) (v2 : Int) (v3 : api_Lift) (v4 : newellaw05_Spans) => loopM E.Θ (newellaw05_works_cal N) (newellaw05_LiftHolds_lp N) 0 newellaw05_LiftHolds_L18 (bodyAt E 4 18) n (newellaw05_LiftHolds_h18 v0 v1 v2 v3 v4) k) = (fun (v0 : Int) (v1 : Bool) (v2 : Int) (v3 : api_Lift) (v4 : newellaw05_Spans) => newellaw05_LiftHolds_l18 N n v0 v1 v2 v3 v4 (fun q0 => k .ret (newellaw05_LiftHolds_x18_r q0)) (fun q0 => k (.exit 0) (newellaw05_LiftHolds_x18_0 q0))) := funext fun v0 => funext fun v1 => funext fun v2 => funext fun v3 => funext fun v4 => ih v0 v1 v2 v3 v4
    rw [h]
    rfl
theorem newellaw05_LiftHolds_k18 {R : Type} (N : Nat) : LpKey (R := R) E 4 0 (newellaw05_LiftHolds_lp N) 18 :=
  lpKey_of hE (newellaw05_works_cal_ok N) newellaw05_LiftHolds_L18_ok [] kNil (by kernel_rfl) N fun S k =>
    Eq.trans (b := newellaw05_LiftHolds_L18.head.raw 0 S (fun S0 => newellaw05_LiftHolds_d18 N S0 k)) (by kernel_rfl) (congrArg (newellaw05_LiftHolds_L18.head.raw 0 S) (funext fun S0 => Eq.trans (newellaw05_LiftHolds_l18_eq N k N (toI (lget S0.tmps 12)) (toB (lget S0.tmps 13)) (toI (lget S0.tmps 14)) (Cod.dec api_LiftC (lget (entCs (entAt S0.tab 0)))) (Cod.dec newellaw05_SpansC (lget (entCs (entAt S0.tab 1))))).symm (by kernel_rfl)))
noncomputable def newellaw05_LiftHolds_go {R : Type} (N : Nat) (args : List SV) (T : Tab) (kf : SV × Tab → Option R) : Option R :=
  newellaw05_LiftHolds N (Cod.dec api_LiftC (lget (toCs (lget args 0)))) (Cod.dec newellaw05_SpansC (lget (toCs (lget args 1)))) (Cod.dec newellaw05_PlaceC (lget (toCs (lget args 2)))) (fun q0 => kf (lget [.bool q0] 0, []))
noncomputable def newellaw05_LiftHolds_cal {R : Type} (N : Nat) : Cal R := callM (newellaw05_works_cal N) 4 0 newellaw05_LiftHolds_sp (newellaw05_LiftHolds_go N)
theorem newellaw05_LiftHolds_cal_ok {R : Type} (N : Nat) : CalOk E.P (newellaw05_LiftHolds_cal (R := R) N) :=
  callM_ok hE (newellaw05_works_cal_ok N) (lp := newellaw05_LiftHolds_lp N) (keys := [18]) (kCons (newellaw05_LiftHolds_k18 N) kNil) (by kernel_rfl) newellaw05_LiftHolds_sp_ok newellaw05_LiftHolds_rs_ok (fun args T kf => Eq.trans (newellaw05_LiftHolds_def N (Cod.dec api_LiftC (lget (toCs (lget args 0)))) (Cod.dec newellaw05_SpansC (lget (toCs (lget args 1)))) (Cod.dec newellaw05_PlaceC (lget (toCs (lget args 2)))) (fun q0 => kf (lget [.bool q0] 0, []))) (by kernel_rfl : newellaw05_LiftHolds_run N args T kf = fnM E (newellaw05_works_cal N) (newellaw05_LiftHolds_lp N) 4 (newellaw05_LiftHolds_sp.vs args) (newellaw05_LiftHolds_sp.tab T) 0 (resK newellaw05_LiftHolds_rs kf)))

theorem gripS_spec (l : api_Lift) (h s : api_Span) : ∀ m : Nat, ((gripS l h s m).2 = 0 ∧ 0 ≤ (gripS l h s m).1 ∧ (gripS l h s m).1 < m ∧ noslip l h s (gripS l h s m).1 ∧ (∀ a : Int, (gripS l h s m).1 < a → a < m → ¬ noslip l h s a)) ∨ (gripS l h s m = (0, 3) ∧ ∀ a : Int, 0 ≤ a → a < m → ¬ noslip l h s a) := by
  intro m
  induction m with
  | zero => right; exact ⟨rfl, fun a h1 h2 => by omega⟩
  | succ m ih =>
    unfold gripS
    by_cases hn : noslip l h s m
    · left
      rw [if_pos hn]
      exact ⟨rfl, by simp, by simp; omega, hn, fun a h1 h2 => by simp at h1; omega⟩
    · rw [if_neg hn]
      rcases ih with ⟨h1, h2, h3, h4, h5⟩ | ⟨h1, h2⟩
      · left
        refine ⟨h1, h2, by omega, h4, fun a ha ha2 => ?_⟩
        rcases Int.lt_or_eq_of_le (show a ≤ m by omega) with h6 | h6
        · exact h5 a ha h6
        · rw [h6]; exact hn
      · right
        refine ⟨h1, fun a ha ha2 => ?_⟩
        rcases Int.lt_or_eq_of_le (show a ≤ m by omega) with h6 | h6
        · exact h2 a ha h6
        · rw [h6]; exact hn

theorem slipsV_pos {l : api_Lift} (hv : VL l) {x y a : Int} (h : inP l x y) (ha : 0 ≤ a) (ha2 : a ≤ 999) : slipsV l x y a = (decide (slipP l x y a), 0) := by
  unfold slipsV
  rw [if_pos hv, if_pos (show inP3 l x y a from ⟨h, ha, ha2⟩)]

theorem holds_l18 {R : Type} {N : Nat} (hN : 20 ≤ N) {l : api_Lift} (hv : VL l) {s : newellaw05_Spans} (hs : spansP l s.Heights s.Loads) {a : Int} (ha : 0 ≤ a) (ha2 : a ≤ 999) (kr k0 : Bool → Option R) (hp : slipP l s.Heights.Low s.Loads.High a ∨ slipP l s.Heights.High s.Loads.Low a) :
    newellaw05_LiftHolds_l18 N N a false 0 l s kr k0 = k0 true := by
  obtain ⟨⟨x1, x2, x3⟩, y1, y2, y3⟩ := id hs
  have c00 := slipsV_pos hv (x := s.Heights.Low) (y := s.Loads.Low) ⟨⟨by omega, by omega⟩, by omega, by omega⟩ ha ha2
  have c10 := slipsV_pos hv (x := s.Heights.High) (y := s.Loads.Low) ⟨⟨by omega, by omega⟩, by omega, by omega⟩ ha ha2
  have c01 := slipsV_pos hv (x := s.Heights.Low) (y := s.Loads.High) ⟨⟨by omega, by omega⟩, by omega, by omega⟩ ha ha2
  have c11 := slipsV_pos hv (x := s.Heights.High) (y := s.Loads.High) ⟨⟨by omega, by omega⟩, by omega, by omega⟩ ha ha2
  have merge : ∀ (b c : Bool) (f : Bool → Option R), (bif b then f true else f c) = f (b || c) := by intro b c f; cases b <;> rfl
  obtain ⟨N', hN'⟩ : ∃ m, N = m + 5 := ⟨N - 5, by omega⟩
  conv => lhs; arg 2; rw [hN']
  unfold newellaw05_LiftHolds_l18 newellaw05_LiftHolds_b18
  have d0 : decide ((0 : Int) < 4) = true := rfl
  have m0 : (Int.tmod 0 2 == (1 : Int)) = false := rfl
  have q0 : (w64 (Int.tdiv 0 2) == (1 : Int)) = false := rfl
  have p1 : w64 (0 + 1) = 1 := rfl
  simp only [d0, m0, q0, cond_true, cond_false, Slips_eq hN, c00, bne_self_eq_false, p1]
  unfold newellaw05_LiftHolds_l18 newellaw05_LiftHolds_b18
  have d1 : decide ((1 : Int) < 4) = true := rfl
  have m1 : (Int.tmod 1 2 == (1 : Int)) = true := rfl
  have q1 : (w64 (Int.tdiv 1 2) == (1 : Int)) = false := rfl
  have p2 : w64 (1 + 1) = 2 := rfl
  simp only [d1, m1, q1, cond_true, cond_false, Slips_eq hN, c10, bne_self_eq_false, p2]
  refine Eq.trans (merge _ _ (fun z => newellaw05_LiftHolds_l18 N (N' + 3) a z 2 l s kr k0)) ?_
  unfold newellaw05_LiftHolds_l18 newellaw05_LiftHolds_b18
  have d2 : decide ((2 : Int) < 4) = true := rfl
  have m2 : (Int.tmod 2 2 == (1 : Int)) = false := rfl
  have q2 : (w64 (Int.tdiv 2 2) == (1 : Int)) = true := rfl
  have p3 : w64 (2 + 1) = 3 := rfl
  simp only [d2, m2, q2, cond_true, cond_false, Slips_eq hN, c01, bne_self_eq_false, p3]
  refine Eq.trans (merge _ _ (fun z => newellaw05_LiftHolds_l18 N (N' + 2) a z 3 l s kr k0)) ?_
  unfold newellaw05_LiftHolds_l18 newellaw05_LiftHolds_b18
  have d3 : decide ((3 : Int) < 4) = true := rfl
  have m3 : (Int.tmod 3 2 == (1 : Int)) = true := rfl
  have q3 : (w64 (Int.tdiv 3 2) == (1 : Int)) = true := rfl
  have p4 : w64 (3 + 1) = 4 := rfl
  simp only [d3, m3, q3, cond_true, cond_false, Slips_eq hN, c11, bne_self_eq_false, p4]
  refine Eq.trans (merge _ _ (fun z => newellaw05_LiftHolds_l18 N (N' + 1) a z 4 l s kr k0)) ?_
  unfold newellaw05_LiftHolds_l18 newellaw05_LiftHolds_b18
  have d4 : decide ((4 : Int) < 4) = false := rfl
  simp only [d4, cond_false]
  congr 1
  rcases hp with hp | hp <;> simp [hp]

theorem liftHolds_true (l : api_Lift) (s : newellaw05_Spans) (p : newellaw05_Place) (hl : l.wf) (hs : s.wf) (hp : p.wf) : ∃ N, newellaw05_LiftHolds N l s p (fun q0 => okK (lget [.bool q0] 0, [])) = some () := by
  refine ⟨NN, ?_⟩
  rw [newellaw05_LiftHolds_def]
  unfold newellaw05_LiftHolds_m
  simp only [Far_eq, works_eq]
  cases decide ((l.Floors.n : Int) > 30)
  rotate_left
  · rfl
  simp only [cond_false, refCheck_eq (show 20 ≤ NN by decide)]
  by_cases hv : VL l
  rotate_left
  · rw [checkV_ne hv]; rfl
  simp only [checkV_pos hv, bne_self_eq_false, cond_false, Spans_eq hv]
  by_cases hsp : spansP l s.Heights s.Loads
  rotate_left
  · simp only [hsp, decide_false, Bool.not_false, cond_true]; rfl
  simp only [hsp, decide_true, Bool.not_true, cond_false, Grip_eq (show 1001 ≤ NN by decide)]
  have hg : gripV l s.Heights s.Loads = gripS l s.Heights s.Loads 1000 := by unfold gripV; rw [if_pos hv, if_pos hsp]
  rw [hg]
  have hor : ∀ a : Int, ¬ noslip l s.Heights s.Loads a → slipP l s.Heights.Low s.Loads.High a ∨ slipP l s.Heights.High s.Loads.Low a := fun a h => by
    unfold noslip at h
    rcases Classical.em (slipP l s.Heights.Low s.Loads.High a) with h1 | h1
    · exact .inl h1
    · right
      rcases Classical.em (slipP l s.Heights.High s.Loads.Low a) with h2 | h2
      · exact h2
      · exact absurd ⟨h1, h2⟩ h
  rcases gripS_spec l s.Heights s.Loads 1000 with ⟨h1, h2, h3, h4, h5⟩ | ⟨h1, h2⟩
  · generalize gripS l s.Heights s.Loads 1000 = g at *
    obtain ⟨a, e⟩ := g
    simp only at h1 h2 h3 h4 h5
    subst h1
    have w1 : w64 (a + 1) = a + 1 := w64_eq (by omega) (by omega)
    have e1 : ((0 : Int) != 0) = false := rfl
    have e2 : ((0 : Int) == 0) = true := rfl
    have e3 : ((0 : Int) == 3) = false := rfl
    have leaf : ∀ kr : Bool → Option Unit, (bif decide (a + 1 ≥ 1000) then okK (lget [SV.bool true] 0, []) else newellaw05_LiftHolds_l18 NN NN (a + 1) false 0 l s kr (fun r => bif r then okK (lget [SV.bool true] 0, []) else okK (lget [SV.bool false] 0, []))) = some () := by
      intro kr
      by_cases hc : a + 1 ≥ 1000
      · simp only [hc, decide_true, cond_true]; rfl
      · simp only [hc, decide_false, cond_false]
        rw [holds_l18 (by decide) hv hsp (by omega) (by omega) _ _ (hor _ (h5 _ (by omega) (by omega)))]
        rfl
    simp only [e1, e2, e3, cond_true, cond_false, w1, leaf]
    by_cases c1 : p.Height ≥ s.Heights.Low
    rotate_left
    · simp only [c1, decide_false, cond_false]
    by_cases c2 : p.Height ≤ s.Heights.High
    rotate_left
    · simp only [c1, c2, decide_false, decide_true, cond_true, cond_false]
    by_cases c3 : p.Load ≥ s.Loads.Low
    rotate_left
    · simp only [c1, c2, c3, decide_false, decide_true, cond_true, cond_false]
    by_cases c4 : p.Load ≤ s.Loads.High
    rotate_left
    · simp only [c1, c2, c3, c4, decide_false, decide_true, cond_true, cond_false]
    by_cases c5 : p.Accel ≥ 0
    rotate_left
    · simp only [c1, c2, c3, c4, c5, decide_false, decide_true, cond_true, cond_false]
    by_cases c6 : p.Accel ≤ a
    rotate_left
    · simp only [c1, c2, c3, c4, c5, c6, decide_false, decide_true, cond_true, cond_false]
    obtain ⟨⟨x1, x2, x3⟩, y1, y2, y3⟩ := id hsp
    have hin : inP l p.Height p.Load := ⟨⟨by omega, by omega⟩, by omega, by omega⟩
    have hr := hv.r2
    have hno : ¬ slipP l p.Height p.Load p.Accel := fun hh => by
      have := slip_mono hv (x := p.Height) (y := p.Load) (a := p.Accel) (a' := a) (by omega) (by omega) (by omega) (by omega) c5 c6 (by omega) hh
      rcases slip_ends hv hsp c1 c2 c3 c4 (a := a) (by omega) (by omega) this with h | h
      · exact h4.1 h
      · exact h4.2 h
    have hsl := slipsV_pos hv hin c5 (show p.Accel ≤ 999 by omega)
    simp only [c1, c2, c3, c4, c5, c6, decide_true, cond_true, Slips_eq (show 20 ≤ NN by decide), hsl, hno, decide_false, cond_false, e1]
  · rw [h1]
    have e1 : ((3 : Int) != 0) = true := rfl
    have e2 : ((3 : Int) == 0) = false := rfl
    have e3 : ((3 : Int) == 3) = true := rfl
    have e4 : ((3 : Int) != 3) = false := rfl
    have leaf : ∀ kr : Bool → Option Unit, (newellaw05_LiftHolds_l18 NN NN 0 false 0 l s kr (fun r => bif r then okK (lget [SV.bool true] 0, []) else okK (lget [SV.bool false] 0, []))) = some () := by
      intro kr
      rw [holds_l18 (by decide) hv hsp (by omega) (by omega) _ _ (hor _ (h2 _ (by omega) (by omega)))]
      rfl
    simp only [e1, e2, e3, e4, cond_true, cond_false, leaf, Bool.cond_self]
end
end Go.Proofs.Ytceeaimmelaenaa
