/-
  Models of the functions, and that they are what the code does. Written by a program.
-/
import Derived.Test.YtpillmoddoccfaaJ1
set_option maxRecDepth 100000
set_option maxHeartbeats 0
set_option linter.unusedVariables false
namespace Go.Proofs.Ytpillmoddoccfaa
open Go.Sx
noncomputable section
def circuit_Check_L18 : LoopSp := ⟨⟨[1, 4, 51, 52, 53, 100, 101, 102], ⟨(dr 1 ((rPtr 0 0) :: (dr 2 ((rRow 1) :: (dr 46 ((rSl api_WireC) :: (rInt .i64) :: (rInt .i64) :: (dr 46 ((rSl intC) :: (rInt .i64) :: (rInt .i64) :: (dr 20 []))))))))), [(0, eBlkC api_CircuitC), (1, eRow intC)]⟩, 2⟩, [(some 3, ⟨[1, 4, 51, 52, 53], ⟨(dr 1 ((rPtr 0 0) :: (dr 2 ((rRow 1) :: (dr 46 ((rSl api_WireC) :: (rInt .i64) :: (rInt .i64) :: (dr 69 []))))))), [(0, eBlkC api_CircuitC), (1, eRow intC)]⟩, 2⟩)]⟩
theorem circuit_Check_L18_ok : circuit_Check_L18.Ok := ⟨⟨(drCons 1 (allCons (rPtr_ok 0 0) (drCons 2 (allCons (rRow_ok 1) (drCons 46 (allCons (rSl_ok api_WireC_ok) (allCons (rInt_ok .i64) (allCons (rInt_ok .i64) (drCons 46 (allCons (rSl_ok intC_ok) (allCons (rInt_ok .i64) (allCons (rInt_ok .i64) (drCons 20 allNil))))))))))))), (eCons (eBlkC_ok api_CircuitC_ok api_CircuitC_len) (eCons (eRow_ok intC_ok) eNil))⟩, (xCons ⟨(drCons 1 (allCons (rPtr_ok 0 0) (drCons 2 (allCons (rRow_ok 1) (drCons 46 (allCons (rSl_ok api_WireC_ok) (allCons (rInt_ok .i64) (allCons (rInt_ok .i64) (drCons 69 allNil))))))))), (eCons (eBlkC_ok api_CircuitC_ok api_CircuitC_len) (eCons (eRow_ok intC_ok) eNil))⟩ xNil)⟩
def circuit_Check_h18 (v310 : Arr api_Wire) (v311 : Int) (v312 : Int) (v313 : Arr Int) (v314 : Int) (v315 : Int) (v316 : api_Circuit) (v317 : Bool) (v318 : Arr Int) : St := ⟨(un 1 ((.ptr 0 0) :: (un 2 ((.row 1) :: (un 46 ((slC api_WireC v310) :: (.int .i64 v311) :: (.int .i64 v312) :: (un 46 ((slC intC v313) :: (.int .i64 v314) :: (.int .i64 v315) :: (un 20 []))))))))), [(0, .blk (Cod.enc api_CircuitC v316)), (1, rowE intC v317 v318)], 2⟩
def circuit_Check_x18_3 (v310 : Arr api_Wire) (v311 : Int) (v312 : Int) (v316 : api_Circuit) (v317 : Bool) (q5 : Arr Int) : St := ⟨(un 1 ((.ptr 0 0) :: (un 2 ((.row 1) :: (un 46 ((slC api_WireC v310) :: (.int .i64 v311) :: (.int .i64 v312) :: (un 69 []))))))), [(0, .blk (Cod.enc api_CircuitC v316)), (1, rowE intC v317 q5)], 2⟩
def circuit_Check_b18 {R : Type} (N : Nat) (rc : Arr api_Wire → Int → Int → Arr Int → Int → Int → api_Circuit → Bool → Arr Int → Option R) (v310 : Arr api_Wire) (v311 : Int) (v312 : Int) (v313 : Arr Int) (v314 : Int) (v315 : Int) (v316 : api_Circuit) (v317 : Bool) (v318 : Arr Int) (k3 : Arr Int → Option R) : Option R :=
  bif decide (v315 < v314) then
   bif decide ((0 : Int) ≤ v315) && decide (v315 < (↑(Arr.n v313) : Int)) then
    bif decide ((0 : Int) ≤ Arr.f v313 (Int.toNat v315)) && decide (Arr.f v313 (Int.toNat v315) < (↑(Arr.n v318) : Int)) then
     bif decide ((0 : Int) ≤ Arr.f v313 (Int.toNat v315)) && decide (Arr.f v313 (Int.toNat v315) < (↑(Arr.n v318) : Int)) then
      rc v310 v311 v312 v313 v314 (w64 (v315 + (1 : Int))) v316 v317 (lst intC (Arr.n v318) (setCs (Int.toNat (Arr.f v313 (Int.toNat v315))) (0 : Nat) (Cod.cell intC (Arr.f v318)) [SV.int IntKind.i64 (w64 (Arr.f v318 (Int.toNat (Arr.f v313 (Int.toNat v315))) + (1 : Int)))]))
     else
      Option.none
    else
     Option.none
   else
    Option.none
  else
   k3 v318
def circuit_Check_l18 {R : Type} (N : Nat) : Nat → Arr api_Wire → Int → Int → Arr Int → Int → Int → api_Circuit → Bool → Arr Int → (Arr Int → Option R) → Option R
  | 0, _, _, _, _, _, _, _, _, _, _ => Option.none
  | n + 1, v310, v311, v312, v313, v314, v315, v316, v317, v318, k3 => circuit_Check_b18 N (fun v310 v311 v312 v313 v314 v315 v316 v317 v318 => circuit_Check_l18 N n v310 v311 v312 v313 v314 v315 v316 v317 v318 k3) v310 v311 v312 v313 v314 v315 v316 v317 v318 k3

def circuit_Check_L6 : LoopSp := ⟨⟨[1, 4, 51, 52, 53], ⟨(dr 1 ((rPtr 0 0) :: (dr 2 ((rRow 1) :: (dr 46 ((rSl api_WireC) :: (rInt .i64) :: (rInt .i64) :: (dr 69 []))))))), [(0, eBlkC api_CircuitC), (1, eRow intC)]⟩, 2⟩, [(Option.none, ⟨[2], ⟨(dr 2 ((rInt .i64) :: (dr 120 []))), []⟩, 0⟩), (some 0, ⟨[4], ⟨(dr 4 ((rRow 0) :: (dr 118 []))), [(0, eRow intC)]⟩, 1⟩)]⟩
theorem circuit_Check_L6_ok : circuit_Check_L6.Ok := ⟨⟨(drCons 1 (allCons (rPtr_ok 0 0) (drCons 2 (allCons (rRow_ok 1) (drCons 46 (allCons (rSl_ok api_WireC_ok) (allCons (rInt_ok .i64) (allCons (rInt_ok .i64) (drCons 69 allNil))))))))), (eCons (eBlkC_ok api_CircuitC_ok api_CircuitC_len) (eCons (eRow_ok intC_ok) eNil))⟩, (xCons ⟨(drCons 2 (allCons (rInt_ok .i64) (drCons 120 allNil))), eNil⟩ (xCons ⟨(drCons 4 (allCons (rRow_ok 0) (drCons 118 allNil))), (eCons (eRow_ok intC_ok) eNil)⟩ xNil))⟩
def circuit_Check_h6 (v293 : Arr api_Wire) (v294 : Int) (v295 : Int) (v296 : api_Circuit) (v297 : Bool) (v298 : Arr Int) : St := ⟨(un 1 ((.ptr 0 0) :: (un 2 ((.row 1) :: (un 46 ((slC api_WireC v293) :: (.int .i64 v294) :: (.int .i64 v295) :: (un 69 []))))))), [(0, .blk (Cod.enc api_CircuitC v296)), (1, rowE intC v297 v298)], 2⟩
def circuit_Check_x6_r (q0 : Int) : St := ⟨(un 2 ((.int .i64 q0) :: (un 120 []))), [], 0⟩
def circuit_Check_x6_0 (v297 : Bool) (q1 : Arr Int) : St := ⟨(un 4 ((.row 0) :: (un 118 []))), [(0, rowE intC v297 q1)], 1⟩
def circuit_Check_b6 {R : Type} (N : Nat) (rc : Arr api_Wire → Int → Int → api_Circuit → Bool → Arr Int → Option R) (v293 : Arr api_Wire) (v294 : Int) (v295 : Int) (v296 : api_Circuit) (v297 : Bool) (v298 : Arr Int) (kr : Int → Option R) (k0 : Arr Int → Option R) : Option R :=
  bif decide (v295 < v294) then
   bif decide ((0 : Int) ≤ v295) && decide (v295 < (↑(Arr.n v293) : Int)) then
    bif api_Wire.Kind (Arr.f v293 (Int.toNat v295)) == (1 : Int) then
     bif (↑(Arr.n (api_Wire.Of (Arr.f v293 (Int.toNat v295)))) : Int) != (1 : Int) then
      kr (30 : Int)
     else
      circuit_ascending N (api_Wire.Of (Arr.f v293 (Int.toNat v295))) (0 : Int) ((↑(Arr.n (api_Circuit.Switches v296)) : Int)) (fun r308 =>
      bif !r308 then
       kr (30 : Int)
      else
       rc v293 v294 (w64 (v295 + (1 : Int))) v296 v297 v298)
    else
     bif api_Wire.Kind (Arr.f v293 (Int.toNat v295)) == (2 : Int) then
      bif decide ((↑(Arr.n (api_Wire.Of (Arr.f v293 (Int.toNat v295)))) : Int) < (1 : Int)) then
       kr (30 : Int)
      else
       bif decide ((↑(Arr.n (api_Wire.Of (Arr.f v293 (Int.toNat v295)))) : Int) > (8 : Int)) then
        kr (30 : Int)
       else
        circuit_ascending N (api_Wire.Of (Arr.f v293 (Int.toNat v295))) (w64 (v295 + (1 : Int))) ((↑(Arr.n (api_Circuit.Wires v296)) : Int)) (fun r309 =>
        bif !r309 then
         kr (30 : Int)
        else
         circuit_Check_l18 N N v293 v294 v295 (api_Wire.Of (Arr.f v293 (Int.toNat v295))) ((↑(Arr.n (api_Wire.Of (Arr.f v293 (Int.toNat v295)))) : Int)) (0 : Int) v296 v297 v298 (fun r319 =>
          rc v293 v294 (w64 (v295 + (1 : Int))) v296 v297 r319))
     else
      bif api_Wire.Kind (Arr.f v293 (Int.toNat v295)) == (3 : Int) then
       bif decide ((↑(Arr.n (api_Wire.Of (Arr.f v293 (Int.toNat v295)))) : Int) < (1 : Int)) then
        kr (30 : Int)
       else
        bif decide ((↑(Arr.n (api_Wire.Of (Arr.f v293 (Int.toNat v295)))) : Int) > (8 : Int)) then
         kr (30 : Int)
        else
         circuit_ascending N (api_Wire.Of (Arr.f v293 (Int.toNat v295))) (w64 (v295 + (1 : Int))) ((↑(Arr.n (api_Circuit.Wires v296)) : Int)) (fun r320 =>
         bif !r320 then
          kr (30 : Int)
         else
          circuit_Check_l18 N N v293 v294 v295 (api_Wire.Of (Arr.f v293 (Int.toNat v295))) ((↑(Arr.n (api_Wire.Of (Arr.f v293 (Int.toNat v295)))) : Int)) (0 : Int) v296 v297 v298 (fun r321 =>
           rc v293 v294 (w64 (v295 + (1 : Int))) v296 v297 r321))
      else
       kr (30 : Int)
   else
    Option.none
  else
   k0 v298
def circuit_Check_l6 {R : Type} (N : Nat) : Nat → Arr api_Wire → Int → Int → api_Circuit → Bool → Arr Int → (Int → Option R) → (Arr Int → Option R) → Option R
  | 0, _, _, _, _, _, _, _, _ => Option.none
  | n + 1, v293, v294, v295, v296, v297, v298, kr, k0 => circuit_Check_b6 N (fun v293 v294 v295 v296 v297 v298 => circuit_Check_l6 N n v293 v294 v295 v296 v297 v298 kr k0) v293 v294 v295 v296 v297 v298 kr k0


def circuit_Check_m {R : Type} (N : Nat) (a256 : api_Circuit) (k : Int → Option R) : Option R :=
  bif decide (api_Circuit.Hazards a256 ≥ (1 : Int)) then
   bif decide ((↑(Arr.n (api_Circuit.Switches a256)) : Int) ≥ (1 : Int)) then
    bif decide ((↑(Arr.n (api_Circuit.Wires a256)) : Int) ≥ (1 : Int)) then
     slices_Contains___bool_bool_ N (lst boolC (3 : Nat) (litC [SV.bool false] [[SV.bool (decide (api_Circuit.Hazards a256 ≤ (8 : Int)))], [SV.bool (decide ((↑(Arr.n (api_Circuit.Switches a256)) : Int) ≤ (12 : Int)))], [SV.bool (decide ((↑(Arr.n (api_Circuit.Wires a256)) : Int) ≤ (24 : Int)))]])) false (fun r267 =>
     bif r267 then
      k (30 : Int)
     else
      slices_ContainsFunc___int_int__v2 N (api_Circuit.Switches a256) (api_Circuit.Hazards a256) (api_Circuit.Switches a256) (api_Circuit.Wires a256) (fun r292 =>
      bif r292 then
       k (30 : Int)
      else
       bif decide ((↑(Arr.n (api_Circuit.Wires a256)) : Int) ≤ (↑(Arr.n (api_Circuit.Wires a256)) : Int)) && decide ((↑(Arr.n (api_Circuit.Wires a256)) : Int) ≤ (1073741824 : Int)) then
        circuit_Check_l6 N N (api_Circuit.Wires a256) ((↑(Arr.n (api_Circuit.Wires a256)) : Int)) (0 : Int) a256 false (lst intC (Int.toNat (↑(Arr.n (api_Circuit.Wires a256)) : Int)) (zeroC [SV.int IntKind.i64 (0 : Int)])) (fun r322 =>
         k r322) (fun r323 =>
         bif decide ((0 : Int) < (↑(Arr.n r323) : Int)) then
          bif Arr.f r323 (Int.toNat (0 : Int)) != (0 : Int) then
           k (30 : Int)
          else
           bif decide ((1 : Int) ≤ (↑(Arr.n r323) : Int)) && decide ((↑(Arr.n r323) : Int) ≤ (↑(Arr.n r323) : Int)) then
            slices_ContainsFunc___int_int__v3 N (lst intC (Int.toNat (↑(Arr.n r323) : Int) - Int.toNat (1 : Int)) fun (i j : Nat) ↦ Cod.cell intC (Arr.f r323) (Int.toNat (1 : Int) + i) j) (fun r333 =>
            bif r333 then
             k (30 : Int)
            else
             k (0 : Int))
           else
            Option.none
         else
          Option.none)
       else
        Option.none))
    else
     slices_Contains___bool_bool_ N (lst boolC (3 : Nat) (litC [SV.bool false] [[SV.bool (decide (api_Circuit.Hazards a256 ≤ (8 : Int)))], [SV.bool (decide ((↑(Arr.n (api_Circuit.Switches a256)) : Int) ≤ (12 : Int)))], [SV.bool false]])) false (fun r334 =>
     bif r334 then
      k (30 : Int)
     else
      slices_ContainsFunc___int_int__v2 N (api_Circuit.Switches a256) (api_Circuit.Hazards a256) (api_Circuit.Switches a256) (api_Circuit.Wires a256) (fun r335 =>
      bif r335 then
       k (30 : Int)
      else
       bif decide ((↑(Arr.n (api_Circuit.Wires a256)) : Int) ≤ (↑(Arr.n (api_Circuit.Wires a256)) : Int)) && decide ((↑(Arr.n (api_Circuit.Wires a256)) : Int) ≤ (1073741824 : Int)) then
        circuit_Check_l6 N N (api_Circuit.Wires a256) ((↑(Arr.n (api_Circuit.Wires a256)) : Int)) (0 : Int) a256 false (lst intC (Int.toNat (↑(Arr.n (api_Circuit.Wires a256)) : Int)) (zeroC [SV.int IntKind.i64 (0 : Int)])) (fun r336 =>
         k r336) (fun r337 =>
         bif decide ((0 : Int) < (↑(Arr.n r337) : Int)) then
          bif Arr.f r337 (Int.toNat (0 : Int)) != (0 : Int) then
           k (30 : Int)
          else
           bif decide ((1 : Int) ≤ (↑(Arr.n r337) : Int)) && decide ((↑(Arr.n r337) : Int) ≤ (↑(Arr.n r337) : Int)) then
            slices_ContainsFunc___int_int__v3 N (lst intC (Int.toNat (↑(Arr.n r337) : Int) - Int.toNat (1 : Int)) fun (i j : Nat) ↦ Cod.cell intC (Arr.f r337) (Int.toNat (1 : Int) + i) j) (fun r338 =>
            bif r338 then
             k (30 : Int)
            else
             k (0 : Int))
           else
            Option.none
         else
          Option.none)
       else
        Option.none))
   else
    bif decide ((↑(Arr.n (api_Circuit.Wires a256)) : Int) ≥ (1 : Int)) then
     slices_Contains___bool_bool_ N (lst boolC (3 : Nat) (litC [SV.bool false] [[SV.bool (decide (api_Circuit.Hazards a256 ≤ (8 : Int)))], [SV.bool false], [SV.bool (decide ((↑(Arr.n (api_Circuit.Wires a256)) : Int) ≤ (24 : Int)))]])) false (fun r339 =>
     bif r339 then
      k (30 : Int)
     else
      slices_ContainsFunc___int_int__v2 N (api_Circuit.Switches a256) (api_Circuit.Hazards a256) (api_Circuit.Switches a256) (api_Circuit.Wires a256) (fun r340 =>
      bif r340 then
       k (30 : Int)
      else
       bif decide ((↑(Arr.n (api_Circuit.Wires a256)) : Int) ≤ (↑(Arr.n (api_Circuit.Wires a256)) : Int)) && decide ((↑(Arr.n (api_Circuit.Wires a256)) : Int) ≤ (1073741824 : Int)) then
        circuit_Check_l6 N N (api_Circuit.Wires a256) ((↑(Arr.n (api_Circuit.Wires a256)) : Int)) (0 : Int) a256 false (lst intC (Int.toNat (↑(Arr.n (api_Circuit.Wires a256)) : Int)) (zeroC [SV.int IntKind.i64 (0 : Int)])) (fun r341 =>
         k r341) (fun r342 =>
         bif decide ((0 : Int) < (↑(Arr.n r342) : Int)) then
          bif Arr.f r342 (Int.toNat (0 : Int)) != (0 : Int) then
           k (30 : Int)
          else
           bif decide ((1 : Int) ≤ (↑(Arr.n r342) : Int)) && decide ((↑(Arr.n r342) : Int) ≤ (↑(Arr.n r342) : Int)) then
            slices_ContainsFunc___int_int__v3 N (lst intC (Int.toNat (↑(Arr.n r342) : Int) - Int.toNat (1 : Int)) fun (i j : Nat) ↦ Cod.cell intC (Arr.f r342) (Int.toNat (1 : Int) + i) j) (fun r343 =>
            bif r343 then
             k (30 : Int)
            else
             k (0 : Int))
           else
            Option.none
         else
          Option.none)
       else
        Option.none))
    else
     slices_Contains___bool_bool_ N (lst boolC (3 : Nat) (litC [SV.bool false] [[SV.bool (decide (api_Circuit.Hazards a256 ≤ (8 : Int)))], [SV.bool false], [SV.bool false]])) false (fun r344 =>
     bif r344 then
      k (30 : Int)
     else
      slices_ContainsFunc___int_int__v2 N (api_Circuit.Switches a256) (api_Circuit.Hazards a256) (api_Circuit.Switches a256) (api_Circuit.Wires a256) (fun r345 =>
      bif r345 then
       k (30 : Int)
      else
       bif decide ((↑(Arr.n (api_Circuit.Wires a256)) : Int) ≤ (↑(Arr.n (api_Circuit.Wires a256)) : Int)) && decide ((↑(Arr.n (api_Circuit.Wires a256)) : Int) ≤ (1073741824 : Int)) then
        circuit_Check_l6 N N (api_Circuit.Wires a256) ((↑(Arr.n (api_Circuit.Wires a256)) : Int)) (0 : Int) a256 false (lst intC (Int.toNat (↑(Arr.n (api_Circuit.Wires a256)) : Int)) (zeroC [SV.int IntKind.i64 (0 : Int)])) (fun r346 =>
         k r346) (fun r347 =>
         bif decide ((0 : Int) < (↑(Arr.n r347) : Int)) then
          bif Arr.f r347 (Int.toNat (0 : Int)) != (0 : Int) then
           k (30 : Int)
          else
           bif decide ((1 : Int) ≤ (↑(Arr.n r347) : Int)) && decide ((↑(Arr.n r347) : Int) ≤ (↑(Arr.n r347) : Int)) then
            slices_ContainsFunc___int_int__v3 N (lst intC (Int.toNat (↑(Arr.n r347) : Int) - Int.toNat (1 : Int)) fun (i j : Nat) ↦ Cod.cell intC (Arr.f r347) (Int.toNat (1 : Int) + i) j) (fun r348 =>
            bif r348 then
             k (30 : Int)
            else
             k (0 : Int))
           else
            Option.none
         else
          Option.none)
       else
        Option.none))
  else
   bif decide ((↑(Arr.n (api_Circuit.Switches a256)) : Int) ≥ (1 : Int)) then
    bif decide ((↑(Arr.n (api_Circuit.Wires a256)) : Int) ≥ (1 : Int)) then
     slices_Contains___bool_bool_ N (lst boolC (3 : Nat) (litC [SV.bool false] [[SV.bool false], [SV.bool (decide ((↑(Arr.n (api_Circuit.Switches a256)) : Int) ≤ (12 : Int)))], [SV.bool (decide ((↑(Arr.n (api_Circuit.Wires a256)) : Int) ≤ (24 : Int)))]])) false (fun r349 =>
     bif r349 then
      k (30 : Int)
     else
      slices_ContainsFunc___int_int__v2 N (api_Circuit.Switches a256) (api_Circuit.Hazards a256) (api_Circuit.Switches a256) (api_Circuit.Wires a256) (fun r350 =>
      bif r350 then
       k (30 : Int)
      else
       bif decide ((↑(Arr.n (api_Circuit.Wires a256)) : Int) ≤ (↑(Arr.n (api_Circuit.Wires a256)) : Int)) && decide ((↑(Arr.n (api_Circuit.Wires a256)) : Int) ≤ (1073741824 : Int)) then
        circuit_Check_l6 N N (api_Circuit.Wires a256) ((↑(Arr.n (api_Circuit.Wires a256)) : Int)) (0 : Int) a256 false (lst intC (Int.toNat (↑(Arr.n (api_Circuit.Wires a256)) : Int)) (zeroC [SV.int IntKind.i64 (0 : Int)])) (fun r351 =>
         k r351) (fun r352 =>
         bif decide ((0 : Int) < (↑(Arr.n r352) : Int)) then
          bif Arr.f r352 (Int.toNat (0 : Int)) != (0 : Int) then
           k (30 : Int)
          else
           bif decide ((1 : Int) ≤ (↑(Arr.n r352) : Int)) && decide ((↑(Arr.n r352) : Int) ≤ (↑(Arr.n r352) : Int)) then
            slices_ContainsFunc___int_int__v3 N (lst intC (Int.toNat (↑(Arr.n r352) : Int) - Int.toNat (1 : Int)) fun (i j : Nat) ↦ Cod.cell intC (Arr.f r352) (Int.toNat (1 : Int) + i) j) (fun r353 =>
            bif r353 then
             k (30 : Int)
            else
             k (0 : Int))
           else
            Option.none
         else
          Option.none)
       else
        Option.none))
    else
     slices_Contains___bool_bool_ N (lst boolC (3 : Nat) (litC [SV.bool false] [[SV.bool false], [SV.bool (decide ((↑(Arr.n (api_Circuit.Switches a256)) : Int) ≤ (12 : Int)))], [SV.bool false]])) false (fun r354 =>
     bif r354 then
      k (30 : Int)
     else
      slices_ContainsFunc___int_int__v2 N (api_Circuit.Switches a256) (api_Circuit.Hazards a256) (api_Circuit.Switches a256) (api_Circuit.Wires a256) (fun r355 =>
      bif r355 then
       k (30 : Int)
      else
       bif decide ((↑(Arr.n (api_Circuit.Wires a256)) : Int) ≤ (↑(Arr.n (api_Circuit.Wires a256)) : Int)) && decide ((↑(Arr.n (api_Circuit.Wires a256)) : Int) ≤ (1073741824 : Int)) then
        circuit_Check_l6 N N (api_Circuit.Wires a256) ((↑(Arr.n (api_Circuit.Wires a256)) : Int)) (0 : Int) a256 false (lst intC (Int.toNat (↑(Arr.n (api_Circuit.Wires a256)) : Int)) (zeroC [SV.int IntKind.i64 (0 : Int)])) (fun r356 =>
         k r356) (fun r357 =>
         bif decide ((0 : Int) < (↑(Arr.n r357) : Int)) then
          bif Arr.f r357 (Int.toNat (0 : Int)) != (0 : Int) then
           k (30 : Int)
          else
           bif decide ((1 : Int) ≤ (↑(Arr.n r357) : Int)) && decide ((↑(Arr.n r357) : Int) ≤ (↑(Arr.n r357) : Int)) then
            slices_ContainsFunc___int_int__v3 N (lst intC (Int.toNat (↑(Arr.n r357) : Int) - Int.toNat (1 : Int)) fun (i j : Nat) ↦ Cod.cell intC (Arr.f r357) (Int.toNat (1 : Int) + i) j) (fun r358 =>
            bif r358 then
             k (30 : Int)
            else
             k (0 : Int))
           else
            Option.none
         else
          Option.none)
       else
        Option.none))
   else
    bif decide ((↑(Arr.n (api_Circuit.Wires a256)) : Int) ≥ (1 : Int)) then
     slices_Contains___bool_bool_ N (lst boolC (3 : Nat) (litC [SV.bool false] [[SV.bool false], [SV.bool false], [SV.bool (decide ((↑(Arr.n (api_Circuit.Wires a256)) : Int) ≤ (24 : Int)))]])) false (fun r359 =>
     bif r359 then
      k (30 : Int)
     else
      slices_ContainsFunc___int_int__v2 N (api_Circuit.Switches a256) (api_Circuit.Hazards a256) (api_Circuit.Switches a256) (api_Circuit.Wires a256) (fun r360 =>
      bif r360 then
       k (30 : Int)
      else
       bif decide ((↑(Arr.n (api_Circuit.Wires a256)) : Int) ≤ (↑(Arr.n (api_Circuit.Wires a256)) : Int)) && decide ((↑(Arr.n (api_Circuit.Wires a256)) : Int) ≤ (1073741824 : Int)) then
        circuit_Check_l6 N N (api_Circuit.Wires a256) ((↑(Arr.n (api_Circuit.Wires a256)) : Int)) (0 : Int) a256 false (lst intC (Int.toNat (↑(Arr.n (api_Circuit.Wires a256)) : Int)) (zeroC [SV.int IntKind.i64 (0 : Int)])) (fun r361 =>
         k r361) (fun r362 =>
         bif decide ((0 : Int) < (↑(Arr.n r362) : Int)) then
          bif Arr.f r362 (Int.toNat (0 : Int)) != (0 : Int) then
           k (30 : Int)
          else
           bif decide ((1 : Int) ≤ (↑(Arr.n r362) : Int)) && decide ((↑(Arr.n r362) : Int) ≤ (↑(Arr.n r362) : Int)) then
            slices_ContainsFunc___int_int__v3 N (lst intC (Int.toNat (↑(Arr.n r362) : Int) - Int.toNat (1 : Int)) fun (i j : Nat) ↦ Cod.cell intC (Arr.f r362) (Int.toNat (1 : Int) + i) j) (fun r363 =>
            bif r363 then
             k (30 : Int)
            else
             k (0 : Int))
           else
            Option.none
         else
          Option.none)
       else
        Option.none))
    else
     slices_Contains___bool_bool_ N (lst boolC (3 : Nat) (litC [SV.bool false] [[SV.bool false], [SV.bool false], [SV.bool false]])) false (fun r364 =>
     bif r364 then
      k (30 : Int)
     else
      slices_ContainsFunc___int_int__v2 N (api_Circuit.Switches a256) (api_Circuit.Hazards a256) (api_Circuit.Switches a256) (api_Circuit.Wires a256) (fun r365 =>
      bif r365 then
       k (30 : Int)
      else
       bif decide ((↑(Arr.n (api_Circuit.Wires a256)) : Int) ≤ (↑(Arr.n (api_Circuit.Wires a256)) : Int)) && decide ((↑(Arr.n (api_Circuit.Wires a256)) : Int) ≤ (1073741824 : Int)) then
        circuit_Check_l6 N N (api_Circuit.Wires a256) ((↑(Arr.n (api_Circuit.Wires a256)) : Int)) (0 : Int) a256 false (lst intC (Int.toNat (↑(Arr.n (api_Circuit.Wires a256)) : Int)) (zeroC [SV.int IntKind.i64 (0 : Int)])) (fun r366 =>
         k r366) (fun r367 =>
         bif decide ((0 : Int) < (↑(Arr.n r367) : Int)) then
          bif Arr.f r367 (Int.toNat (0 : Int)) != (0 : Int) then
           k (30 : Int)
          else
           bif decide ((1 : Int) ≤ (↑(Arr.n r367) : Int)) && decide ((↑(Arr.n r367) : Int) ≤ (↑(Arr.n r367) : Int)) then
            slices_ContainsFunc___int_int__v3 N (lst intC (Int.toNat (↑(Arr.n r367) : Int) - Int.toNat (1 : Int)) fun (i j : Nat) ↦ Cod.cell intC (Arr.f r367) (Int.toNat (1 : Int) + i) j) (fun r368 =>
            bif r368 then
             k (30 : Int)
            else
             k (0 : Int))
           else
            Option.none
         else
          Option.none)
       else
        Option.none))
noncomputable def circuit_Check {R : Type} : Nat → api_Circuit → (Int → Option R) → Option R := lock (@circuit_Check_m R)
theorem circuit_Check_def {R : Type} (N : Nat) (a256 : api_Circuit) (k : Int → Option R) : circuit_Check N a256 k = circuit_Check_m N a256 k := by unfold circuit_Check; rw [lock_eq]
def circuit_Check_sp : Sp := ⟨[rAgg api_CircuitC], []⟩
theorem circuit_Check_sp_ok : circuit_Check_sp.Ok := ⟨(allCons (rAgg_ok api_CircuitC_ok api_CircuitC_len) allNil), eNil⟩
def circuit_Check_rs : Sp := ⟨[rInt .i64], []⟩
theorem circuit_Check_rs_ok : circuit_Check_rs.Ok := ⟨(allCons (rInt_ok .i64) allNil), eNil⟩
def circuit_Check_run {R : Type} (N : Nat) (args : List SV) (T : Tab) (kf : SV × Tab → Option R) : Option R :=
  circuit_Check_m N (Cod.dec api_CircuitC (lget (toCs (lget args 0)))) (fun q0 => kf (lget [.int .i64 q0] 0, []))
def circuit_Check_d18 {R : Type} (N : Nat) (S0 : St) (k : Exit → St → Option R) : Option R :=
  circuit_Check_l18 N N (lstC api_WireC (lget S0.tmps 51)) (toI (lget S0.tmps 52)) (toI (lget S0.tmps 53)) (lstC intC (lget S0.tmps 100)) (toI (lget S0.tmps 101)) (toI (lget S0.tmps 102)) (Cod.dec api_CircuitC (lget (entCs (entAt S0.tab 0)))) (entNl (entAt S0.tab 1)) (lst intC (entN (entAt S0.tab 1)) (entC (entAt S0.tab 1))) (fun q5 => k (.exit 3) (circuit_Check_x18_3 (lstC api_WireC (lget S0.tmps 51)) (toI (lget S0.tmps 52)) (toI (lget S0.tmps 53)) (Cod.dec api_CircuitC (lget (entCs (entAt S0.tab 0)))) (entNl (entAt S0.tab 1)) q5))
def circuit_Check_d6 {R : Type} (N : Nat) (S0 : St) (k : Exit → St → Option R) : Option R :=
  circuit_Check_l6 N N (lstC api_WireC (lget S0.tmps 51)) (toI (lget S0.tmps 52)) (toI (lget S0.tmps 53)) (Cod.dec api_CircuitC (lget (entCs (entAt S0.tab 0)))) (entNl (entAt S0.tab 1)) (lst intC (entN (entAt S0.tab 1)) (entC (entAt S0.tab 1))) (fun q0 => k .ret (circuit_Check_x6_r q0)) (fun q1 => k (.exit 0) (circuit_Check_x6_0 (entNl (entAt S0.tab 1)) q1))
def circuit_Check_lp {R : Type} (N : Nat) : Lp R := fun body S k => bif (Go.Sx.keyOf body).getD 0 == 6 then circuit_Check_L6.head.raw 0 S (fun S0 => circuit_Check_d6 N S0 k) else bif (Go.Sx.keyOf body).getD 0 == 18 then circuit_Check_L18.head.raw 0 S (fun S0 => circuit_Check_d18 N S0 k) else Option.none
theorem circuit_Check_l6_eq {R : Type} (N : Nat) (k : Exit → St → Option R) (n : Nat) : ∀ (v0 : Arr api_Wire) (v1 : Int) (v2 : Int) (v3 : api_Circuit) (v4 : Bool) (v5 : Arr Int), loopM E.Θ (slices_ContainsFunc___int_int__v3_cal N) (circuit_Check_lp N) (noJn) 0 circuit_Check_L6 (bodyAt E 81 6) n (circuit_Check_h6 v0 v1 v2 v3 v4 v5) k = circuit_Check_l6 N n v0 v1 v2 v3 v4 v5 (fun q0 => k .ret (circuit_Check_x6_r q0)) (fun q1 => k (.exit 0) (circuit_Check_x6_0 v4 q1)) := by
  induction n with
  | zero => intro v0 v1 v2 v3 v4 v5; rfl
  | succ n ih =>
    intro v0 v1 v2 v3 v4 v5
    refine Eq.trans (b := circuit_Check_b6 N (fun v0 v1 v2 v3 v4 v5 => loopM E.Θ (slices_ContainsFunc___int_int__v3_cal N) (circuit_Check_lp N) (noJn) 0 circuit_Check_L6 (bodyAt E 81 6) n (circuit_Check_h6 v0 v1 v2 v3 v4 v5) k) v0 v1 v2 v3 v4 v5 (fun q0 => k .ret (circuit_Check_x6_r q0)) (fun q1 => k (.exit 0) (circuit_Check_x6_0 v4 q1))) (by kernel_rfl) ?_
    have h : (fun (v0 : Arr api_Wire) (v1 : Int) (v2 : Int) (v3 : api_Circuit) (v4 : Bool) (v5 : Arr Int) => loopM E.Θ (slices_ContainsFunc___int_int__v3_cal N) (circuit_Check_lp N) (noJn) 0 circuit_Check_L6 (bodyAt E 81 6) n (circuit_Check_h6 v0 v1 v2 v3 v4 v5) k) = (fun (v0 : Arr api_Wire) (v1 : Int) (v2 : Int) (v3 : api_Circuit) (v4 : Bool) (v5 : Arr Int) => circuit_Check_l6 N n v0 v1 v2 v3 v4 v5 (fun q0 => k .ret (circuit_Check_x6_r q0)) (fun q1 => k (.exit 0) (circuit_Check_x6_0 v4 q1))) := funext fun v0 => funext fun v1 => funext fun v2 => funext fun v3 => funext fun v4 => funext fun v5 => ih v0 v1 v2 v3 v4 v5
    rw [h]
    rfl
theorem circuit_Check_l18_eq {R : Type} (N : Nat) (k : Exit → St → Option R) (n : Nat) : ∀ (v0 : Arr api_Wire) (v1 : Int) (v2 : Int) (v3 : Arr Int) (v4 : Int) (v5 : Int) (v6 : api_Circuit) (v7 : Bool) (v8 : Arr Int), loopM E.Θ (slices_ContainsFunc___int_int__v3_cal N) (circuit_Check_lp N) (noJn) 0 circuit_Check_L18 (bodyAt E 81 18) n (circuit_Check_h18 v0 v1 v2 v3 v4 v5 v6 v7 v8) k = circuit_Check_l18 N n v0 v1 v2 v3 v4 v5 v6 v7 v8 (fun q5 => k (.exit 3) (circuit_Check_x18_3 v0 v1 v2 v6 v7 q5)) := by
  induction n with
  | zero => intro v0 v1 v2 v3 v4 v5 v6 v7 v8; rfl
  | succ n ih =>
    intro v0 v1 v2 v3 v4 v5 v6 v7 v8
    refine Eq.trans (b := circuit_Check_b18 N (fun v0 v1 v2 v3 v4 v5 v6 v7 v8 => loopM E.Θ (slices_ContainsFunc___int_int__v3_cal N) (circuit_Check_lp N) (noJn) 0 circuit_Check_L18 (bodyAt E 81 18) n (circuit_Check_h18 v0 v1 v2 v3 v4 v5 v6 v7 v8) k) v0 v1 v2 v3 v4 v5 v6 v7 v8 (fun q5 => k (.exit 3) (circuit_Check_x18_3 v0 v1 v2 v6 v7 q5))) (by kernel_rfl) ?_
    have h : (fun (v0 : Arr api_Wire) (v1 : Int) (v2 : Int) (v3 : Arr Int) (v4 : Int) (v5 : Int) (v6 : api_Circuit) (v7 : Bool) (v8 : Arr Int) => loopM E.Θ (slices_ContainsFunc___int_int__v3_cal N) (circuit_Check_lp N) (noJn) 0 circuit_Check_L18 (bodyAt E 81 18) n (circuit_Check_h18 v0 v1 v2 v3 v4 v5 v6 v7 v8) k) = (fun (v0 : Arr api_Wire) (v1 : Int) (v2 : Int) (v3 : Arr Int) (v4 : Int) (v5 : Int) (v6 : api_Circuit) (v7 : Bool) (v8 : Arr Int) => circuit_Check_l18 N n v0 v1 v2 v3 v4 v5 v6 v7 v8 (fun q5 => k (.exit 3) (circuit_Check_x18_3 v0 v1 v2 v6 v7 q5))) := funext fun v0 => funext fun v1 => funext fun v2 => funext fun v3 => funext fun v4 => funext fun v5 => funext fun v6 => funext fun v7 => funext fun v8 => ih v0 v1 v2 v3 v4 v5 v6 v7 v8
    rw [h]
    rfl
theorem circuit_Check_k18 {R : Type} (N : Nat) : LpKey (R := R) E 81 0 (circuit_Check_lp N) 18 :=
  lpKey_of hE (slices_ContainsFunc___int_int__v3_cal_ok N) (jn := noJn) circuit_Check_L18_ok [] kNil (by kernel_rfl) [] jNil (by kernel_rfl) N fun S k =>
    Eq.trans (b := circuit_Check_L18.head.raw 0 S (fun S0 => circuit_Check_d18 N S0 k)) (by kernel_rfl) (congrArg (circuit_Check_L18.head.raw 0 S) (funext fun S0 => Eq.trans (circuit_Check_l18_eq N k N (lstC api_WireC (lget S0.tmps 51)) (toI (lget S0.tmps 52)) (toI (lget S0.tmps 53)) (lstC intC (lget S0.tmps 100)) (toI (lget S0.tmps 101)) (toI (lget S0.tmps 102)) (Cod.dec api_CircuitC (lget (entCs (entAt S0.tab 0)))) (entNl (entAt S0.tab 1)) (lst intC (entN (entAt S0.tab 1)) (entC (entAt S0.tab 1)))).symm (by kernel_rfl)))
theorem circuit_Check_k6 {R : Type} (N : Nat) : LpKey (R := R) E 81 0 (circuit_Check_lp N) 6 :=
  lpKey_of hE (slices_ContainsFunc___int_int__v3_cal_ok N) (jn := noJn) circuit_Check_L6_ok [18] (kCons (circuit_Check_k18 N) kNil) (by kernel_rfl) [] jNil (by kernel_rfl) N fun S k =>
    Eq.trans (b := circuit_Check_L6.head.raw 0 S (fun S0 => circuit_Check_d6 N S0 k)) (by kernel_rfl) (congrArg (circuit_Check_L6.head.raw 0 S) (funext fun S0 => Eq.trans (circuit_Check_l6_eq N k N (lstC api_WireC (lget S0.tmps 51)) (toI (lget S0.tmps 52)) (toI (lget S0.tmps 53)) (Cod.dec api_CircuitC (lget (entCs (entAt S0.tab 0)))) (entNl (entAt S0.tab 1)) (lst intC (entN (entAt S0.tab 1)) (entC (entAt S0.tab 1)))).symm (by kernel_rfl)))
noncomputable def circuit_Check_go {R : Type} (N : Nat) (args : List SV) (T : Tab) (kf : SV × Tab → Option R) : Option R :=
  circuit_Check N (Cod.dec api_CircuitC (lget (toCs (lget args 0)))) (fun q0 => kf (lget [.int .i64 q0] 0, []))
noncomputable def circuit_Check_cal {R : Type} (N : Nat) : Cal R := callM (slices_ContainsFunc___int_int__v3_cal N) 81 0 circuit_Check_sp (circuit_Check_go N)
theorem circuit_Check_cal_ok {R : Type} (N : Nat) : CalOk E.P (circuit_Check_cal (R := R) N) :=
  callM_ok hE (slices_ContainsFunc___int_int__v3_cal_ok N) (lp := circuit_Check_lp N) (jn := noJn) (keys := [6, 18]) (kCons (circuit_Check_k6 N) (kCons (circuit_Check_k18 N) kNil)) (by kernel_rfl) (js := []) jNil (by kernel_rfl) circuit_Check_sp_ok circuit_Check_rs_ok (fun args T kf => Eq.trans (circuit_Check_def N (Cod.dec api_CircuitC (lget (toCs (lget args 0)))) (fun q0 => kf (lget [.int .i64 q0] 0, []))) (by kernel_rfl : circuit_Check_run N args T kf = fnM E (slices_ContainsFunc___int_int__v3_cal N) (circuit_Check_lp N) (noJn) 81 (circuit_Check_sp.vs args) (circuit_Check_sp.tab T) 0 (resK circuit_Check_rs kf)))


def circuit_state_conducts_m {R : Type} (N : Nat) (a386 : circuit_state) (a387 : Int) (k : Bool → Option R) : Option R :=
  bif decide (a387 < (0 : Int)) then
   Option.none
  else
   bif w64 (↑(BitVec.toNat (BitVec.ofInt (IntKind.bits IntKind.i64) (Int.fdiv (circuit_state.f_open a386) ((2 : Int) ^ min (Int.toNat a387) (IntKind.bits IntKind.i64))) &&& BitVec.ofInt (IntKind.bits IntKind.i64) (1 : Int))) : Int) == (0 : Int) then
    bif decide (a387 < (0 : Int)) then
     Option.none
    else
     bif w64 (↑(BitVec.toNat (BitVec.ofInt (IntKind.bits IntKind.i64) (Int.fdiv (circuit_state.f_closed a386) ((2 : Int) ^ min (Int.toNat a387) (IntKind.bits IntKind.i64))) &&& BitVec.ofInt (IntKind.bits IntKind.i64) (1 : Int))) : Int) == (1 : Int) then
      k true
     else
      bif decide ((0 : Int) ≤ a387) && decide (a387 < (↑(Arr.n (api_Circuit.Switches (circuit_state.f_c a386))) : Int)) then
       k (w64 (↑(BitVec.toNat (BitVec.ofInt (IntKind.bits IntKind.i64) (Arr.f (api_Circuit.Switches (circuit_state.f_c a386)) (Int.toNat a387)) &&& BitVec.ofInt (IntKind.bits IntKind.i64) (circuit_state.f_hazards a386))) : Int) == (0 : Int))
      else
       Option.none
   else
    k false
noncomputable def circuit_state_conducts {R : Type} : Nat → circuit_state → Int → (Bool → Option R) → Option R := lock (@circuit_state_conducts_m R)
theorem circuit_state_conducts_def {R : Type} (N : Nat) (a386 : circuit_state) (a387 : Int) (k : Bool → Option R) : circuit_state_conducts N a386 a387 k = circuit_state_conducts_m N a386 a387 k := by unfold circuit_state_conducts; rw [lock_eq]
def circuit_state_conducts_sp : Sp := ⟨[rAgg circuit_stateC, rInt .i64], []⟩
theorem circuit_state_conducts_sp_ok : circuit_state_conducts_sp.Ok := ⟨(allCons (rAgg_ok circuit_stateC_ok circuit_stateC_len) (allCons (rInt_ok .i64) allNil)), eNil⟩
def circuit_state_conducts_rs : Sp := ⟨[rBool], []⟩
theorem circuit_state_conducts_rs_ok : circuit_state_conducts_rs.Ok := ⟨(allCons rBool_ok allNil), eNil⟩
def circuit_state_conducts_run {R : Type} (N : Nat) (args : List SV) (T : Tab) (kf : SV × Tab → Option R) : Option R :=
  circuit_state_conducts_m N (Cod.dec circuit_stateC (lget (toCs (lget args 0)))) (toI (lget args 1)) (fun q0 => kf (lget [.bool q0] 0, []))
def circuit_state_conducts_lp {R : Type} (N : Nat) : Lp R := fun body S k => Option.none
noncomputable def circuit_state_conducts_go {R : Type} (N : Nat) (args : List SV) (T : Tab) (kf : SV × Tab → Option R) : Option R :=
  circuit_state_conducts N (Cod.dec circuit_stateC (lget (toCs (lget args 0)))) (toI (lget args 1)) (fun q0 => kf (lget [.bool q0] 0, []))
noncomputable def circuit_state_conducts_cal {R : Type} (N : Nat) : Cal R := callM (circuit_Check_cal N) 126 0 circuit_state_conducts_sp (circuit_state_conducts_go N)
theorem circuit_state_conducts_cal_ok {R : Type} (N : Nat) : CalOk E.P (circuit_state_conducts_cal (R := R) N) :=
  callM_ok hE (circuit_Check_cal_ok N) (lp := circuit_state_conducts_lp N) (jn := noJn) (keys := []) kNil (by kernel_rfl) (js := []) jNil (by kernel_rfl) circuit_state_conducts_sp_ok circuit_state_conducts_rs_ok (fun args T kf => Eq.trans (circuit_state_conducts_def N (Cod.dec circuit_stateC (lget (toCs (lget args 0)))) (toI (lget args 1)) (fun q0 => kf (lget [.bool q0] 0, []))) (by kernel_rfl : circuit_state_conducts_run N args T kf = fnM E (circuit_Check_cal N) (circuit_state_conducts_lp N) (noJn) 126 (circuit_state_conducts_sp.vs args) (circuit_state_conducts_sp.tab T) 0 (resK circuit_state_conducts_rs kf)))

def slices_IndexFunc___int_int__v4_L2 : LoopSp := ⟨⟨[0, 1, 7, 8], ⟨((rSl intC) :: (rFunc 88 1 [rAgg circuit_stateC]) :: (dr 5 ((rInt .i64) :: (rInt .i64) :: (dr 10 [])))), []⟩, 0⟩, [(Option.none, ⟨[4], ⟨(dr 4 ((rInt .i64) :: (dr 14 []))), []⟩, 0⟩), (some 0, ⟨[], ⟨(dr 19 []), []⟩, 0⟩)]⟩
theorem slices_IndexFunc___int_int__v4_L2_ok : slices_IndexFunc___int_int__v4_L2.Ok := ⟨⟨(allCons (rSl_ok intC_ok) (allCons (rFunc_ok 88 1 (allCons (rAgg_ok circuit_stateC_ok circuit_stateC_len) allNil)) (drCons 5 (allCons (rInt_ok .i64) (allCons (rInt_ok .i64) (drCons 10 allNil)))))), eNil⟩, (xCons ⟨(drCons 4 (allCons (rInt_ok .i64) (drCons 14 allNil))), eNil⟩ (xCons ⟨(drCons 19 allNil), eNil⟩ xNil))⟩
def slices_IndexFunc___int_int__v4_h2 (v451 : Arr Int) (v452 : circuit_state) (v453 : Int) (v454 : Int) : St := ⟨((slC intC v451) :: (.func 88 1 [.agg (Cod.enc circuit_stateC v452)]) :: (un 5 ((.int .i64 v453) :: (.int .i64 v454) :: (un 10 [])))), [], 0⟩
def slices_IndexFunc___int_int__v4_x2_r (q0 : Int) : St := ⟨(un 4 ((.int .i64 q0) :: (un 14 []))), [], 0⟩
def slices_IndexFunc___int_int__v4_x2_0  : St := ⟨(un 19 []), [], 0⟩
def slices_IndexFunc___int_int__v4_b2 {R : Type} (N : Nat) (rf : circuit_state → Int → (Bool → Option R) → Option R) (rc : Arr Int → circuit_state → Int → Int → Option R) (v451 : Arr Int) (v452 : circuit_state) (v453 : Int) (v454 : Int) (kr : Int → Option R) (k0 : Unit → Option R) : Option R :=
  bif decide (v454 < v453) then
   bif decide ((0 : Int) ≤ v454) && decide (v454 < (↑(Arr.n v451) : Int)) then
    rf v452 (Arr.f v451 (Int.toNat v454)) (fun r455 =>
    bif r455 then
     kr v454
    else
     rc v451 v452 v453 (w64 (v454 + (1 : Int))))
   else
    Option.none
  else
   k0 ()
def slices_IndexFunc___int_int__v4_l2 {R : Type} (N : Nat) (rf : circuit_state → Int → (Bool → Option R) → Option R) : Nat → Arr Int → circuit_state → Int → Int → (Int → Option R) → (Unit → Option R) → Option R
  | 0, _, _, _, _, _, _ => Option.none
  | n + 1, v451, v452, v453, v454, kr, k0 => slices_IndexFunc___int_int__v4_b2 N rf (fun v451 v452 v453 v454 => slices_IndexFunc___int_int__v4_l2 N rf n v451 v452 v453 v454 kr k0) v451 v452 v453 v454 kr k0


def slices_IndexFunc___int_int__v4_m {R : Type} (N : Nat) (rf : circuit_state → Int → (Bool → Option R) → Option R) (a449 : Arr Int) (a450 : circuit_state) (k : Int → Option R) : Option R :=
  slices_IndexFunc___int_int__v4_l2 N rf N a449 a450 ((↑(Arr.n a449) : Int)) (0 : Int) (fun r456 =>
   k r456) (fun (_ : Unit) =>
   k (-1 : Int))
noncomputable def slices_IndexFunc___int_int__v4 {R : Type} : Nat → (circuit_state → Int → (Bool → Option R) → Option R) → Arr Int → circuit_state → (Int → Option R) → Option R := lock (@slices_IndexFunc___int_int__v4_m R)
theorem slices_IndexFunc___int_int__v4_def {R : Type} (N : Nat) (rf : circuit_state → Int → (Bool → Option R) → Option R) (a449 : Arr Int) (a450 : circuit_state) (k : Int → Option R) : slices_IndexFunc___int_int__v4 N rf a449 a450 k = slices_IndexFunc___int_int__v4_m N rf a449 a450 k := by unfold slices_IndexFunc___int_int__v4; rw [lock_eq]
def slices_IndexFunc___int_int__v4_sp : Sp := ⟨[rSl intC, rFunc 88 1 [rAgg circuit_stateC]], []⟩
theorem slices_IndexFunc___int_int__v4_sp_ok : slices_IndexFunc___int_int__v4_sp.Ok := ⟨(allCons (rSl_ok intC_ok) (allCons (rFunc_ok 88 1 (allCons (rAgg_ok circuit_stateC_ok circuit_stateC_len) allNil)) allNil)), eNil⟩
def slices_IndexFunc___int_int__v4_rs : Sp := ⟨[rInt .i64], []⟩
theorem slices_IndexFunc___int_int__v4_rs_ok : slices_IndexFunc___int_int__v4_rs.Ok := ⟨(allCons (rInt_ok .i64) allNil), eNil⟩


def slices_ContainsFunc___int_int__v4_m {R : Type} (N : Nat) (rf : circuit_state → Int → (Bool → Option R) → Option R) (a458 : Arr Int) (a459 : circuit_state) (k : Bool → Option R) : Option R :=
  slices_IndexFunc___int_int__v4 N rf a458 a459 (fun r460 =>
  k (decide (r460 ≥ (0 : Int))))
noncomputable def slices_ContainsFunc___int_int__v4 {R : Type} : Nat → (circuit_state → Int → (Bool → Option R) → Option R) → Arr Int → circuit_state → (Bool → Option R) → Option R := lock (@slices_ContainsFunc___int_int__v4_m R)
theorem slices_ContainsFunc___int_int__v4_def {R : Type} (N : Nat) (rf : circuit_state → Int → (Bool → Option R) → Option R) (a458 : Arr Int) (a459 : circuit_state) (k : Bool → Option R) : slices_ContainsFunc___int_int__v4 N rf a458 a459 k = slices_ContainsFunc___int_int__v4_m N rf a458 a459 k := by unfold slices_ContainsFunc___int_int__v4; rw [lock_eq]
def slices_ContainsFunc___int_int__v4_sp : Sp := ⟨[rSl intC, rFunc 88 1 [rAgg circuit_stateC]], []⟩
theorem slices_ContainsFunc___int_int__v4_sp_ok : slices_ContainsFunc___int_int__v4_sp.Ok := ⟨(allCons (rSl_ok intC_ok) (allCons (rFunc_ok 88 1 (allCons (rAgg_ok circuit_stateC_ok circuit_stateC_len) allNil)) allNil)), eNil⟩
def slices_ContainsFunc___int_int__v4_rs : Sp := ⟨[rBool], []⟩
theorem slices_ContainsFunc___int_int__v4_rs_ok : slices_ContainsFunc___int_int__v4_rs.Ok := ⟨(allCons rBool_ok allNil), eNil⟩


def circuit_state_wire_1_m {R : Type} (N : Nat) (rf : circuit_state → Int → (Bool → Option R) → Option R) (a493 : Int) (a494 : Int) (a495 : Arr Int) (a496 : Arr api_Wire) (a497 : Int) (a498 : Int) (a499 : Int) (k : Bool → Option R) : Option R :=
  rf (circuit_state.mk (api_Circuit.mk a494 a495 a496) a497 a498 a499) a493 (fun r500 =>
  k !r500)
noncomputable def circuit_state_wire_1 {R : Type} : Nat → (circuit_state → Int → (Bool → Option R) → Option R) → Int → Int → Arr Int → Arr api_Wire → Int → Int → Int → (Bool → Option R) → Option R := lock (@circuit_state_wire_1_m R)
theorem circuit_state_wire_1_def {R : Type} (N : Nat) (rf : circuit_state → Int → (Bool → Option R) → Option R) (a493 : Int) (a494 : Int) (a495 : Arr Int) (a496 : Arr api_Wire) (a497 : Int) (a498 : Int) (a499 : Int) (k : Bool → Option R) : circuit_state_wire_1 N rf a493 a494 a495 a496 a497 a498 a499 k = circuit_state_wire_1_m N rf a493 a494 a495 a496 a497 a498 a499 k := by unfold circuit_state_wire_1; rw [lock_eq]
def circuit_state_wire_1_sp : Sp := ⟨[rInt .i64, rPtr 0 0], [(0, eBlk [rInt .i64, rSl intC, rSl api_WireC, rInt .i64, rInt .i64, rInt .i64])]⟩
theorem circuit_state_wire_1_sp_ok : circuit_state_wire_1_sp.Ok := ⟨(allCons (rInt_ok .i64) (allCons (rPtr_ok 0 0) allNil)), (eCons (eBlk_ok (allCons (rInt_ok .i64) (allCons (rSl_ok intC_ok) (allCons (rSl_ok api_WireC_ok) (allCons (rInt_ok .i64) (allCons (rInt_ok .i64) (allCons (rInt_ok .i64) allNil))))))) eNil)⟩
def circuit_state_wire_1_rs : Sp := ⟨[rBool], [(0, eBlk [rInt .i64, rSl intC, rSl api_WireC, rInt .i64, rInt .i64, rInt .i64])]⟩
theorem circuit_state_wire_1_rs_ok : circuit_state_wire_1_rs.Ok := ⟨(allCons rBool_ok allNil), (eCons (eBlk_ok (allCons (rInt_ok .i64) (allCons (rSl_ok intC_ok) (allCons (rSl_ok api_WireC_ok) (allCons (rInt_ok .i64) (allCons (rInt_ok .i64) (allCons (rInt_ok .i64) allNil))))))) eNil)⟩

def slices_IndexFunc___int_int__v5_L2 : LoopSp := ⟨⟨[0, 1, 7, 8], ⟨((rSl intC) :: (rFunc 127 0 [rPtr 0 0]) :: (dr 5 ((rInt .i64) :: (rInt .i64) :: (dr 10 [])))), [(0, eBlk [rInt .i64, rSl intC, rSl api_WireC, rInt .i64, rInt .i64, rInt .i64])]⟩, 1⟩, [(Option.none, ⟨[4], ⟨(dr 4 ((rInt .i64) :: (dr 14 []))), [(0, eBlk [rInt .i64, rSl intC, rSl api_WireC, rInt .i64, rInt .i64, rInt .i64])]⟩, 1⟩), (some 0, ⟨[], ⟨(dr 19 []), [(0, eBlk [rInt .i64, rSl intC, rSl api_WireC, rInt .i64, rInt .i64, rInt .i64])]⟩, 1⟩)]⟩
theorem slices_IndexFunc___int_int__v5_L2_ok : slices_IndexFunc___int_int__v5_L2.Ok := ⟨⟨(allCons (rSl_ok intC_ok) (allCons (rFunc_ok 127 0 (allCons (rPtr_ok 0 0) allNil)) (drCons 5 (allCons (rInt_ok .i64) (allCons (rInt_ok .i64) (drCons 10 allNil)))))), (eCons (eBlk_ok (allCons (rInt_ok .i64) (allCons (rSl_ok intC_ok) (allCons (rSl_ok api_WireC_ok) (allCons (rInt_ok .i64) (allCons (rInt_ok .i64) (allCons (rInt_ok .i64) allNil))))))) eNil)⟩, (xCons ⟨(drCons 4 (allCons (rInt_ok .i64) (drCons 14 allNil))), (eCons (eBlk_ok (allCons (rInt_ok .i64) (allCons (rSl_ok intC_ok) (allCons (rSl_ok api_WireC_ok) (allCons (rInt_ok .i64) (allCons (rInt_ok .i64) (allCons (rInt_ok .i64) allNil))))))) eNil)⟩ (xCons ⟨(drCons 19 allNil), (eCons (eBlk_ok (allCons (rInt_ok .i64) (allCons (rSl_ok intC_ok) (allCons (rSl_ok api_WireC_ok) (allCons (rInt_ok .i64) (allCons (rInt_ok .i64) (allCons (rInt_ok .i64) allNil))))))) eNil)⟩ xNil))⟩
def slices_IndexFunc___int_int__v5_h2 (v510 : Arr Int) (v511 : Int) (v512 : Int) (v513 : Int) (v514 : Arr Int) (v515 : Arr api_Wire) (v516 : Int) (v517 : Int) (v518 : Int) : St := ⟨((slC intC v510) :: (.func 127 0 [.ptr 0 0]) :: (un 5 ((.int .i64 v511) :: (.int .i64 v512) :: (un 10 [])))), [(0, .blk [.int .i64 v513, slC intC v514, slC api_WireC v515, .int .i64 v516, .int .i64 v517, .int .i64 v518])], 1⟩
def slices_IndexFunc___int_int__v5_x2_r (v513 : Int) (v514 : Arr Int) (v515 : Arr api_Wire) (v516 : Int) (v517 : Int) (v518 : Int) (q0 : Int) : St := ⟨(un 4 ((.int .i64 q0) :: (un 14 []))), [(0, .blk [.int .i64 v513, slC intC v514, slC api_WireC v515, .int .i64 v516, .int .i64 v517, .int .i64 v518])], 1⟩
def slices_IndexFunc___int_int__v5_x2_0 (v513 : Int) (v514 : Arr Int) (v515 : Arr api_Wire) (v516 : Int) (v517 : Int) (v518 : Int) : St := ⟨(un 19 []), [(0, .blk [.int .i64 v513, slC intC v514, slC api_WireC v515, .int .i64 v516, .int .i64 v517, .int .i64 v518])], 1⟩
def slices_IndexFunc___int_int__v5_b2 {R : Type} (N : Nat) (rf : circuit_state → Int → (Bool → Option R) → Option R) (rc : Arr Int → Int → Int → Int → Arr Int → Arr api_Wire → Int → Int → Int → Option R) (v510 : Arr Int) (v511 : Int) (v512 : Int) (v513 : Int) (v514 : Arr Int) (v515 : Arr api_Wire) (v516 : Int) (v517 : Int) (v518 : Int) (kr : Int → Option R) (k0 : Unit → Option R) : Option R :=
  bif decide (v512 < v511) then
   bif decide ((0 : Int) ≤ v512) && decide (v512 < (↑(Arr.n v510) : Int)) then
    circuit_state_wire_1 N rf (Arr.f v510 (Int.toNat v512)) v513 v514 v515 v516 v517 v518 (fun r519 =>
    bif r519 then
     kr v512
    else
     rc v510 v511 (w64 (v512 + (1 : Int))) v513 v514 v515 v516 v517 v518)
   else
    Option.none
  else
   k0 ()
def slices_IndexFunc___int_int__v5_l2 {R : Type} (N : Nat) (rf : circuit_state → Int → (Bool → Option R) → Option R) : Nat → Arr Int → Int → Int → Int → Arr Int → Arr api_Wire → Int → Int → Int → (Int → Option R) → (Unit → Option R) → Option R
  | 0, _, _, _, _, _, _, _, _, _, _, _ => Option.none
  | n + 1, v510, v511, v512, v513, v514, v515, v516, v517, v518, kr, k0 => slices_IndexFunc___int_int__v5_b2 N rf (fun v510 v511 v512 v513 v514 v515 v516 v517 v518 => slices_IndexFunc___int_int__v5_l2 N rf n v510 v511 v512 v513 v514 v515 v516 v517 v518 kr k0) v510 v511 v512 v513 v514 v515 v516 v517 v518 kr k0


def slices_IndexFunc___int_int__v5_m {R : Type} (N : Nat) (rf : circuit_state → Int → (Bool → Option R) → Option R) (a503 : Arr Int) (a504 : Int) (a505 : Arr Int) (a506 : Arr api_Wire) (a507 : Int) (a508 : Int) (a509 : Int) (k : Int → Option R) : Option R :=
  slices_IndexFunc___int_int__v5_l2 N rf N a503 ((↑(Arr.n a503) : Int)) (0 : Int) a504 a505 a506 a507 a508 a509 (fun r520 =>
   k r520) (fun (_ : Unit) =>
   k (-1 : Int))
noncomputable def slices_IndexFunc___int_int__v5 {R : Type} : Nat → (circuit_state → Int → (Bool → Option R) → Option R) → Arr Int → Int → Arr Int → Arr api_Wire → Int → Int → Int → (Int → Option R) → Option R := lock (@slices_IndexFunc___int_int__v5_m R)
theorem slices_IndexFunc___int_int__v5_def {R : Type} (N : Nat) (rf : circuit_state → Int → (Bool → Option R) → Option R) (a503 : Arr Int) (a504 : Int) (a505 : Arr Int) (a506 : Arr api_Wire) (a507 : Int) (a508 : Int) (a509 : Int) (k : Int → Option R) : slices_IndexFunc___int_int__v5 N rf a503 a504 a505 a506 a507 a508 a509 k = slices_IndexFunc___int_int__v5_m N rf a503 a504 a505 a506 a507 a508 a509 k := by unfold slices_IndexFunc___int_int__v5; rw [lock_eq]
def slices_IndexFunc___int_int__v5_sp : Sp := ⟨[rSl intC, rFunc 127 0 [rPtr 0 0]], [(0, eBlk [rInt .i64, rSl intC, rSl api_WireC, rInt .i64, rInt .i64, rInt .i64])]⟩
theorem slices_IndexFunc___int_int__v5_sp_ok : slices_IndexFunc___int_int__v5_sp.Ok := ⟨(allCons (rSl_ok intC_ok) (allCons (rFunc_ok 127 0 (allCons (rPtr_ok 0 0) allNil)) allNil)), (eCons (eBlk_ok (allCons (rInt_ok .i64) (allCons (rSl_ok intC_ok) (allCons (rSl_ok api_WireC_ok) (allCons (rInt_ok .i64) (allCons (rInt_ok .i64) (allCons (rInt_ok .i64) allNil))))))) eNil)⟩
def slices_IndexFunc___int_int__v5_rs : Sp := ⟨[rInt .i64], [(0, eBlk [rInt .i64, rSl intC, rSl api_WireC, rInt .i64, rInt .i64, rInt .i64])]⟩
theorem slices_IndexFunc___int_int__v5_rs_ok : slices_IndexFunc___int_int__v5_rs.Ok := ⟨(allCons (rInt_ok .i64) allNil), (eCons (eBlk_ok (allCons (rInt_ok .i64) (allCons (rSl_ok intC_ok) (allCons (rSl_ok api_WireC_ok) (allCons (rInt_ok .i64) (allCons (rInt_ok .i64) (allCons (rInt_ok .i64) allNil))))))) eNil)⟩


def slices_ContainsFunc___int_int__v5_m {R : Type} (N : Nat) (rf : circuit_state → Int → (Bool → Option R) → Option R) (a522 : Arr Int) (a523 : Int) (a524 : Arr Int) (a525 : Arr api_Wire) (a526 : Int) (a527 : Int) (a528 : Int) (k : Bool → Option R) : Option R :=
  slices_IndexFunc___int_int__v5 N rf a522 a523 a524 a525 a526 a527 a528 (fun r529 =>
  k (decide (r529 ≥ (0 : Int))))
noncomputable def slices_ContainsFunc___int_int__v5 {R : Type} : Nat → (circuit_state → Int → (Bool → Option R) → Option R) → Arr Int → Int → Arr Int → Arr api_Wire → Int → Int → Int → (Bool → Option R) → Option R := lock (@slices_ContainsFunc___int_int__v5_m R)
theorem slices_ContainsFunc___int_int__v5_def {R : Type} (N : Nat) (rf : circuit_state → Int → (Bool → Option R) → Option R) (a522 : Arr Int) (a523 : Int) (a524 : Arr Int) (a525 : Arr api_Wire) (a526 : Int) (a527 : Int) (a528 : Int) (k : Bool → Option R) : slices_ContainsFunc___int_int__v5 N rf a522 a523 a524 a525 a526 a527 a528 k = slices_ContainsFunc___int_int__v5_m N rf a522 a523 a524 a525 a526 a527 a528 k := by unfold slices_ContainsFunc___int_int__v5; rw [lock_eq]
def slices_ContainsFunc___int_int__v5_sp : Sp := ⟨[rSl intC, rFunc 127 0 [rPtr 0 0]], [(0, eBlk [rInt .i64, rSl intC, rSl api_WireC, rInt .i64, rInt .i64, rInt .i64])]⟩
theorem slices_ContainsFunc___int_int__v5_sp_ok : slices_ContainsFunc___int_int__v5_sp.Ok := ⟨(allCons (rSl_ok intC_ok) (allCons (rFunc_ok 127 0 (allCons (rPtr_ok 0 0) allNil)) allNil)), (eCons (eBlk_ok (allCons (rInt_ok .i64) (allCons (rSl_ok intC_ok) (allCons (rSl_ok api_WireC_ok) (allCons (rInt_ok .i64) (allCons (rInt_ok .i64) (allCons (rInt_ok .i64) allNil))))))) eNil)⟩
def slices_ContainsFunc___int_int__v5_rs : Sp := ⟨[rBool], [(0, eBlk [rInt .i64, rSl intC, rSl api_WireC, rInt .i64, rInt .i64, rInt .i64])]⟩
theorem slices_ContainsFunc___int_int__v5_rs_ok : slices_ContainsFunc___int_int__v5_rs.Ok := ⟨(allCons rBool_ok allNil), (eCons (eBlk_ok (allCons (rInt_ok .i64) (allCons (rSl_ok intC_ok) (allCons (rSl_ok api_WireC_ok) (allCons (rInt_ok .i64) (allCons (rInt_ok .i64) (allCons (rInt_ok .i64) allNil))))))) eNil)⟩


def circuit_state_wire_t {R : Type} (N : Nat) (rf : circuit_state → Int → (Bool → Option R) → Option R) (a436 : circuit_state) (a437 : Int) (k : Bool → Option R) : Option R :=
  bif decide ((0 : Int) ≤ a437) && decide (a437 < (↑(Arr.n (api_Circuit.Wires (circuit_state.f_c a436))) : Int)) then
   bif api_Wire.Kind (Arr.f (api_Circuit.Wires (circuit_state.f_c a436)) (Int.toNat a437)) == (1 : Int) then
    bif decide ((0 : Int) < (↑(Arr.n (api_Wire.Of (Arr.f (api_Circuit.Wires (circuit_state.f_c a436)) (Int.toNat a437)))) : Int)) then
     circuit_state_conducts N a436 (Arr.f (api_Wire.Of (Arr.f (api_Circuit.Wires (circuit_state.f_c a436)) (Int.toNat a437))) (Int.toNat (0 : Int))) (fun r438 =>
     k r438)
    else
     Option.none
   else
    bif api_Wire.Kind (Arr.f (api_Circuit.Wires (circuit_state.f_c a436)) (Int.toNat a437)) == (3 : Int) then
     slices_ContainsFunc___int_int__v4 N rf (api_Wire.Of (Arr.f (api_Circuit.Wires (circuit_state.f_c a436)) (Int.toNat a437))) a436 (fun r461 =>
     k r461)
    else
     slices_ContainsFunc___int_int__v5 N rf (api_Wire.Of (Arr.f (api_Circuit.Wires (circuit_state.f_c a436)) (Int.toNat a437))) (api_Circuit.Hazards (circuit_state.f_c a436)) (api_Circuit.Switches (circuit_state.f_c a436)) (api_Circuit.Wires (circuit_state.f_c a436)) (circuit_state.f_hazards a436) (circuit_state.f_closed a436) (circuit_state.f_open a436) (fun r530 =>
     k !r530)
  else
   Option.none
def circuit_state_wire_r {R : Type} (N : Nat) : Nat → circuit_state → Int → (Bool → Option R) → Option R
  | 0, _, _, _ => Option.none
  | d + 1, a436, a437, k => circuit_state_wire_t N (circuit_state_wire_r N d) a436 a437 k
def circuit_state_wire_m {R : Type} (N : Nat) (a436 : circuit_state) (a437 : Int) (k : Bool → Option R) : Option R := circuit_state_wire_r N N a436 a437 k
noncomputable def circuit_state_wire {R : Type} : Nat → circuit_state → Int → (Bool → Option R) → Option R := lock (@circuit_state_wire_m R)
theorem circuit_state_wire_def {R : Type} (N : Nat) (a436 : circuit_state) (a437 : Int) (k : Bool → Option R) : circuit_state_wire N a436 a437 k = circuit_state_wire_m N a436 a437 k := by unfold circuit_state_wire; rw [lock_eq]
def circuit_state_wire_sp : Sp := ⟨[rAgg circuit_stateC, rInt .i64], []⟩
theorem circuit_state_wire_sp_ok : circuit_state_wire_sp.Ok := ⟨(allCons (rAgg_ok circuit_stateC_ok circuit_stateC_len) (allCons (rInt_ok .i64) allNil)), eNil⟩
def circuit_state_wire_rs : Sp := ⟨[rBool], []⟩
theorem circuit_state_wire_rs_ok : circuit_state_wire_rs.Ok := ⟨(allCons rBool_ok allNil), eNil⟩
def circuit_state_wire_run {R : Type} (N : Nat) (d : Nat) (args : List SV) (T : Tab) (kf : SV × Tab → Option R) : Option R :=
  circuit_state_wire_r N d (Cod.dec circuit_stateC (lget (toCs (lget args 0)))) (toI (lget args 1)) (fun q0 => kf (lget [.bool q0] 0, []))
noncomputable def circuit_state_wire_cald {R : Type} (N : Nat) (d : Nat) : Cal R := callM (circuit_state_conducts_cal N) 88 0 circuit_state_wire_sp (circuit_state_wire_run N d)
def slices_IndexFunc___int_int__v4_run {R : Type} (N : Nat) (d : Nat) (args : List SV) (T : Tab) (kf : SV × Tab → Option R) : Option R :=
  slices_IndexFunc___int_int__v4_m N (circuit_state_wire_r N d) (lstC intC (lget args 0)) (Cod.dec circuit_stateC (lget (toCs (lget (toCs (lget args 1)) 0)))) (fun q0 => kf (lget [.int .i64 q0] 0, []))
def slices_IndexFunc___int_int__v4_d2 {R : Type} (N : Nat) (rf : circuit_state → Int → (Bool → Option R) → Option R) (S0 : St) (k : Exit → St → Option R) : Option R :=
  slices_IndexFunc___int_int__v4_l2 N rf N (lstC intC (lget S0.tmps 0)) (Cod.dec circuit_stateC (lget (toCs (lget (toCs (lget S0.tmps 1)) 0)))) (toI (lget S0.tmps 7)) (toI (lget S0.tmps 8)) (fun q0 => k .ret (slices_IndexFunc___int_int__v4_x2_r q0)) (fun (_ : Unit) => k (.exit 0) (slices_IndexFunc___int_int__v4_x2_0 ))
def slices_IndexFunc___int_int__v4_lp {R : Type} (N : Nat) (rf : circuit_state → Int → (Bool → Option R) → Option R) : Lp R := fun body S k => bif (Go.Sx.keyOf body).getD 0 == 2 then slices_IndexFunc___int_int__v4_L2.head.raw 0 S (fun S0 => slices_IndexFunc___int_int__v4_d2 N rf S0 k) else Option.none
theorem slices_IndexFunc___int_int__v4_l2_eq {R : Type} (N : Nat) (d : Nat) (k : Exit → St → Option R) (n : Nat) : ∀ (v0 : Arr Int) (v1 : circuit_state) (v2 : Int) (v3 : Int), loopM E.Θ (circuit_state_wire_cald N d) (slices_IndexFunc___int_int__v4_lp N (circuit_state_wire_r N d)) (noJn) 0 slices_IndexFunc___int_int__v4_L2 (bodyAt E 128 2) n (slices_IndexFunc___int_int__v4_h2 v0 v1 v2 v3) k = slices_IndexFunc___int_int__v4_l2 N (circuit_state_wire_r N d) n v0 v1 v2 v3 (fun q0 => k .ret (slices_IndexFunc___int_int__v4_x2_r q0)) (fun (_ : Unit) => k (.exit 0) (slices_IndexFunc___int_int__v4_x2_0 )) := by
  induction n with
  | zero => intro v0 v1 v2 v3; rfl
  | succ n ih =>
    intro v0 v1 v2 v3
    refine Eq.trans (b := slices_IndexFunc___int_int__v4_b2 N (circuit_state_wire_r N d) (fun v0 v1 v2 v3 => loopM E.Θ (circuit_state_wire_cald N d) (slices_IndexFunc___int_int__v4_lp N (circuit_state_wire_r N d)) (noJn) 0 slices_IndexFunc___int_int__v4_L2 (bodyAt E 128 2) n (slices_IndexFunc___int_int__v4_h2 v0 v1 v2 v3) k) v0 v1 v2 v3 (fun q0 => k .ret (slices_IndexFunc___int_int__v4_x2_r q0)) (fun (_ : Unit) => k (.exit 0) (slices_IndexFunc___int_int__v4_x2_0 ))) (by kernel_rfl) ?_
    have h : (fun (v0 : Arr Int) (v1 : circuit_state) (v2 : Int) (v3 : Int) => loopM E.Θ (circuit_state_wire_cald N d) (slices_IndexFunc___int_int__v4_lp N (circuit_state_wire_r N d)) (noJn) 0 slices_IndexFunc___int_int__v4_L2 (bodyAt E 128 2) n (slices_IndexFunc___int_int__v4_h2 v0 v1 v2 v3) k) = (fun (v0 : Arr Int) (v1 : circuit_state) (v2 : Int) (v3 : Int) => slices_IndexFunc___int_int__v4_l2 N (circuit_state_wire_r N d) n v0 v1 v2 v3 (fun q0 => k .ret (slices_IndexFunc___int_int__v4_x2_r q0)) (fun (_ : Unit) => k (.exit 0) (slices_IndexFunc___int_int__v4_x2_0 ))) := funext fun v0 => funext fun v1 => funext fun v2 => funext fun v3 => ih v0 v1 v2 v3
    rw [h]
    rfl
theorem slices_IndexFunc___int_int__v4_k2 {R : Type} (N : Nat) (d : Nat) (hc : CalOk E.P (circuit_state_wire_cald (R := R) N d)) : LpKey (R := R) E 128 0 (slices_IndexFunc___int_int__v4_lp N (circuit_state_wire_r N d)) 2 :=
  lpKey_of hE hc (jn := noJn) slices_IndexFunc___int_int__v4_L2_ok [] kNil (by kernel_rfl) [] jNil (by kernel_rfl) N fun S k =>
    Eq.trans (b := slices_IndexFunc___int_int__v4_L2.head.raw 0 S (fun S0 => slices_IndexFunc___int_int__v4_d2 N (circuit_state_wire_r N d) S0 k)) (by kernel_rfl) (congrArg (slices_IndexFunc___int_int__v4_L2.head.raw 0 S) (funext fun S0 => Eq.trans (slices_IndexFunc___int_int__v4_l2_eq N d k N (lstC intC (lget S0.tmps 0)) (Cod.dec circuit_stateC (lget (toCs (lget (toCs (lget S0.tmps 1)) 0)))) (toI (lget S0.tmps 7)) (toI (lget S0.tmps 8))).symm (by kernel_rfl)))
noncomputable def slices_IndexFunc___int_int__v4_go {R : Type} (N : Nat) (d : Nat) (args : List SV) (T : Tab) (kf : SV × Tab → Option R) : Option R :=
  slices_IndexFunc___int_int__v4 N (circuit_state_wire_r N d) (lstC intC (lget args 0)) (Cod.dec circuit_stateC (lget (toCs (lget (toCs (lget args 1)) 0)))) (fun q0 => kf (lget [.int .i64 q0] 0, []))
noncomputable def slices_IndexFunc___int_int__v4_calm {R : Type} (N : Nat) (d : Nat) : Cal R := callM (circuit_state_wire_cald N d) 128 0 slices_IndexFunc___int_int__v4_sp (slices_IndexFunc___int_int__v4_go N d)
theorem slices_IndexFunc___int_int__v4_calm_ok {R : Type} (N : Nat) (d : Nat) (hc : CalOk E.P (circuit_state_wire_cald (R := R) N d)) : CalOk E.P (slices_IndexFunc___int_int__v4_calm (R := R) N d) :=
  callM_ok hE hc (lp := slices_IndexFunc___int_int__v4_lp N (circuit_state_wire_r N d)) (jn := noJn) (keys := [2]) (kCons (slices_IndexFunc___int_int__v4_k2 N d hc) kNil) (by kernel_rfl) (js := []) jNil (by kernel_rfl) slices_IndexFunc___int_int__v4_sp_ok slices_IndexFunc___int_int__v4_rs_ok (fun args T kf => Eq.trans (slices_IndexFunc___int_int__v4_def N (circuit_state_wire_r N d) (lstC intC (lget args 0)) (Cod.dec circuit_stateC (lget (toCs (lget (toCs (lget args 1)) 0)))) (fun q0 => kf (lget [.int .i64 q0] 0, []))) (by kernel_rfl : slices_IndexFunc___int_int__v4_run N d args T kf = fnM E (circuit_state_wire_cald N d) (slices_IndexFunc___int_int__v4_lp N (circuit_state_wire_r N d)) (noJn) 128 (slices_IndexFunc___int_int__v4_sp.vs args) (slices_IndexFunc___int_int__v4_sp.tab T) 0 (resK slices_IndexFunc___int_int__v4_rs kf)))


def slices_ContainsFunc___int_int__v4_run {R : Type} (N : Nat) (d : Nat) (args : List SV) (T : Tab) (kf : SV × Tab → Option R) : Option R :=
  slices_ContainsFunc___int_int__v4_m N (circuit_state_wire_r N d) (lstC intC (lget args 0)) (Cod.dec circuit_stateC (lget (toCs (lget (toCs (lget args 1)) 0)))) (fun q0 => kf (lget [.bool q0] 0, []))
def slices_ContainsFunc___int_int__v4_lp {R : Type} (N : Nat) (rf : circuit_state → Int → (Bool → Option R) → Option R) : Lp R := fun body S k => Option.none
noncomputable def slices_ContainsFunc___int_int__v4_go {R : Type} (N : Nat) (d : Nat) (args : List SV) (T : Tab) (kf : SV × Tab → Option R) : Option R :=
  slices_ContainsFunc___int_int__v4 N (circuit_state_wire_r N d) (lstC intC (lget args 0)) (Cod.dec circuit_stateC (lget (toCs (lget (toCs (lget args 1)) 0)))) (fun q0 => kf (lget [.bool q0] 0, []))
noncomputable def slices_ContainsFunc___int_int__v4_calm {R : Type} (N : Nat) (d : Nat) : Cal R := callM (slices_IndexFunc___int_int__v4_calm N d) 89 0 slices_ContainsFunc___int_int__v4_sp (slices_ContainsFunc___int_int__v4_go N d)
theorem slices_ContainsFunc___int_int__v4_calm_ok {R : Type} (N : Nat) (d : Nat) (hc : CalOk E.P (circuit_state_wire_cald (R := R) N d)) : CalOk E.P (slices_ContainsFunc___int_int__v4_calm (R := R) N d) :=
  callM_ok hE (slices_IndexFunc___int_int__v4_calm_ok N d hc) (lp := slices_ContainsFunc___int_int__v4_lp N (circuit_state_wire_r N d)) (jn := noJn) (keys := []) kNil (by kernel_rfl) (js := []) jNil (by kernel_rfl) slices_ContainsFunc___int_int__v4_sp_ok slices_ContainsFunc___int_int__v4_rs_ok (fun args T kf => Eq.trans (slices_ContainsFunc___int_int__v4_def N (circuit_state_wire_r N d) (lstC intC (lget args 0)) (Cod.dec circuit_stateC (lget (toCs (lget (toCs (lget args 1)) 0)))) (fun q0 => kf (lget [.bool q0] 0, []))) (by kernel_rfl : slices_ContainsFunc___int_int__v4_run N d args T kf = fnM E (slices_IndexFunc___int_int__v4_calm N d) (slices_ContainsFunc___int_int__v4_lp N (circuit_state_wire_r N d)) (noJn) 89 (slices_ContainsFunc___int_int__v4_sp.vs args) (slices_ContainsFunc___int_int__v4_sp.tab T) 0 (resK slices_ContainsFunc___int_int__v4_rs kf)))


def circuit_state_wire_1_run {R : Type} (N : Nat) (d : Nat) (args : List SV) (T : Tab) (kf : SV × Tab → Option R) : Option R :=
  circuit_state_wire_1_m N (circuit_state_wire_r N d) (toI (lget args 0)) (toI (lget (entCs (entAt T 0)) 0)) (lstC intC (lget (entCs (entAt T 0)) 1)) (lstC api_WireC (lget (entCs (entAt T 0)) 2)) (toI (lget (entCs (entAt T 0)) 3)) (toI (lget (entCs (entAt T 0)) 4)) (toI (lget (entCs (entAt T 0)) 5)) (fun q0 => kf (lget [.bool q0] 0, [(0, .blk [.int .i64 (toI (lget (entCs (entAt T 0)) 0)), slC intC (lstC intC (lget (entCs (entAt T 0)) 1)), slC api_WireC (lstC api_WireC (lget (entCs (entAt T 0)) 2)), .int .i64 (toI (lget (entCs (entAt T 0)) 3)), .int .i64 (toI (lget (entCs (entAt T 0)) 4)), .int .i64 (toI (lget (entCs (entAt T 0)) 5))])]))
def circuit_state_wire_1_lp {R : Type} (N : Nat) (rf : circuit_state → Int → (Bool → Option R) → Option R) : Lp R := fun body S k => Option.none
noncomputable def circuit_state_wire_1_go {R : Type} (N : Nat) (d : Nat) (args : List SV) (T : Tab) (kf : SV × Tab → Option R) : Option R :=
  circuit_state_wire_1 N (circuit_state_wire_r N d) (toI (lget args 0)) (toI (lget (entCs (entAt T 0)) 0)) (lstC intC (lget (entCs (entAt T 0)) 1)) (lstC api_WireC (lget (entCs (entAt T 0)) 2)) (toI (lget (entCs (entAt T 0)) 3)) (toI (lget (entCs (entAt T 0)) 4)) (toI (lget (entCs (entAt T 0)) 5)) (fun q0 => kf (lget [.bool q0] 0, [(0, .blk [.int .i64 (toI (lget (entCs (entAt T 0)) 0)), slC intC (lstC intC (lget (entCs (entAt T 0)) 1)), slC api_WireC (lstC api_WireC (lget (entCs (entAt T 0)) 2)), .int .i64 (toI (lget (entCs (entAt T 0)) 3)), .int .i64 (toI (lget (entCs (entAt T 0)) 4)), .int .i64 (toI (lget (entCs (entAt T 0)) 5))])]))
noncomputable def circuit_state_wire_1_calm {R : Type} (N : Nat) (d : Nat) : Cal R := callM (slices_ContainsFunc___int_int__v4_calm N d) 127 1 circuit_state_wire_1_sp (circuit_state_wire_1_go N d)
theorem circuit_state_wire_1_calm_ok {R : Type} (N : Nat) (d : Nat) (hc : CalOk E.P (circuit_state_wire_cald (R := R) N d)) : CalOk E.P (circuit_state_wire_1_calm (R := R) N d) :=
  callM_ok hE (slices_ContainsFunc___int_int__v4_calm_ok N d hc) (lp := circuit_state_wire_1_lp N (circuit_state_wire_r N d)) (jn := noJn) (keys := []) kNil (by kernel_rfl) (js := []) jNil (by kernel_rfl) circuit_state_wire_1_sp_ok circuit_state_wire_1_rs_ok (fun args T kf => Eq.trans (circuit_state_wire_1_def N (circuit_state_wire_r N d) (toI (lget args 0)) (toI (lget (entCs (entAt T 0)) 0)) (lstC intC (lget (entCs (entAt T 0)) 1)) (lstC api_WireC (lget (entCs (entAt T 0)) 2)) (toI (lget (entCs (entAt T 0)) 3)) (toI (lget (entCs (entAt T 0)) 4)) (toI (lget (entCs (entAt T 0)) 5)) (fun q0 => kf (lget [.bool q0] 0, [(0, .blk [.int .i64 (toI (lget (entCs (entAt T 0)) 0)), slC intC (lstC intC (lget (entCs (entAt T 0)) 1)), slC api_WireC (lstC api_WireC (lget (entCs (entAt T 0)) 2)), .int .i64 (toI (lget (entCs (entAt T 0)) 3)), .int .i64 (toI (lget (entCs (entAt T 0)) 4)), .int .i64 (toI (lget (entCs (entAt T 0)) 5))])]))) (by kernel_rfl : circuit_state_wire_1_run N d args T kf = fnM E (slices_ContainsFunc___int_int__v4_calm N d) (circuit_state_wire_1_lp N (circuit_state_wire_r N d)) (noJn) 127 (circuit_state_wire_1_sp.vs args) (circuit_state_wire_1_sp.tab T) 1 (resK circuit_state_wire_1_rs kf)))


def slices_IndexFunc___int_int__v5_run {R : Type} (N : Nat) (d : Nat) (args : List SV) (T : Tab) (kf : SV × Tab → Option R) : Option R :=
  slices_IndexFunc___int_int__v5_m N (circuit_state_wire_r N d) (lstC intC (lget args 0)) (toI (lget (entCs (entAt T 0)) 0)) (lstC intC (lget (entCs (entAt T 0)) 1)) (lstC api_WireC (lget (entCs (entAt T 0)) 2)) (toI (lget (entCs (entAt T 0)) 3)) (toI (lget (entCs (entAt T 0)) 4)) (toI (lget (entCs (entAt T 0)) 5)) (fun q0 => kf (lget [.int .i64 q0] 0, [(0, .blk [.int .i64 (toI (lget (entCs (entAt T 0)) 0)), slC intC (lstC intC (lget (entCs (entAt T 0)) 1)), slC api_WireC (lstC api_WireC (lget (entCs (entAt T 0)) 2)), .int .i64 (toI (lget (entCs (entAt T 0)) 3)), .int .i64 (toI (lget (entCs (entAt T 0)) 4)), .int .i64 (toI (lget (entCs (entAt T 0)) 5))])]))
def slices_IndexFunc___int_int__v5_d2 {R : Type} (N : Nat) (rf : circuit_state → Int → (Bool → Option R) → Option R) (S0 : St) (k : Exit → St → Option R) : Option R :=
  slices_IndexFunc___int_int__v5_l2 N rf N (lstC intC (lget S0.tmps 0)) (toI (lget S0.tmps 7)) (toI (lget S0.tmps 8)) (toI (lget (entCs (entAt S0.tab 0)) 0)) (lstC intC (lget (entCs (entAt S0.tab 0)) 1)) (lstC api_WireC (lget (entCs (entAt S0.tab 0)) 2)) (toI (lget (entCs (entAt S0.tab 0)) 3)) (toI (lget (entCs (entAt S0.tab 0)) 4)) (toI (lget (entCs (entAt S0.tab 0)) 5)) (fun q0 => k .ret (slices_IndexFunc___int_int__v5_x2_r (toI (lget (entCs (entAt S0.tab 0)) 0)) (lstC intC (lget (entCs (entAt S0.tab 0)) 1)) (lstC api_WireC (lget (entCs (entAt S0.tab 0)) 2)) (toI (lget (entCs (entAt S0.tab 0)) 3)) (toI (lget (entCs (entAt S0.tab 0)) 4)) (toI (lget (entCs (entAt S0.tab 0)) 5)) q0)) (fun (_ : Unit) => k (.exit 0) (slices_IndexFunc___int_int__v5_x2_0 (toI (lget (entCs (entAt S0.tab 0)) 0)) (lstC intC (lget (entCs (entAt S0.tab 0)) 1)) (lstC api_WireC (lget (entCs (entAt S0.tab 0)) 2)) (toI (lget (entCs (entAt S0.tab 0)) 3)) (toI (lget (entCs (entAt S0.tab 0)) 4)) (toI (lget (entCs (entAt S0.tab 0)) 5))))
def slices_IndexFunc___int_int__v5_lp {R : Type} (N : Nat) (rf : circuit_state → Int → (Bool → Option R) → Option R) : Lp R := fun body S k => bif (Go.Sx.keyOf body).getD 0 == 2 then slices_IndexFunc___int_int__v5_L2.head.raw 1 S (fun S0 => slices_IndexFunc___int_int__v5_d2 N rf S0 k) else Option.none
theorem slices_IndexFunc___int_int__v5_l2_eq {R : Type} (N : Nat) (d : Nat) (k : Exit → St → Option R) (n : Nat) : ∀ (v0 : Arr Int) (v1 : Int) (v2 : Int) (v3 : Int) (v4 : Arr Int) (v5 : Arr api_Wire) (v6 : Int) (v7 : Int) (v8 : Int), loopM E.Θ (circuit_state_wire_1_calm N d) (slices_IndexFunc___int_int__v5_lp N (circuit_state_wire_r N d)) (noJn) 1 slices_IndexFunc___int_int__v5_L2 (bodyAt E 128 2) n (slices_IndexFunc___int_int__v5_h2 v0 v1 v2 v3 v4 v5 v6 v7 v8) k = slices_IndexFunc___int_int__v5_l2 N (circuit_state_wire_r N d) n v0 v1 v2 v3 v4 v5 v6 v7 v8 (fun q0 => k .ret (slices_IndexFunc___int_int__v5_x2_r v3 v4 v5 v6 v7 v8 q0)) (fun (_ : Unit) => k (.exit 0) (slices_IndexFunc___int_int__v5_x2_0 v3 v4 v5 v6 v7 v8)) := by
  induction n with
  | zero => intro v0 v1 v2 v3 v4 v5 v6 v7 v8; rfl
  | succ n ih =>
    intro v0 v1 v2 v3 v4 v5 v6 v7 v8
    refine Eq.trans (b := slices_IndexFunc___int_int__v5_b2 N (circuit_state_wire_r N d) (fun v0 v1 v2 v3 v4 v5 v6 v7 v8 => loopM E.Θ (circuit_state_wire_1_calm N d) (slices_IndexFunc___int_int__v5_lp N (circuit_state_wire_r N d)) (noJn) 1 slices_IndexFunc___int_int__v5_L2 (bodyAt E 128 2) n (slices_IndexFunc___int_int__v5_h2 v0 v1 v2 v3 v4 v5 v6 v7 v8) k) v0 v1 v2 v3 v4 v5 v6 v7 v8 (fun q0 => k .ret (slices_IndexFunc___int_int__v5_x2_r v3 v4 v5 v6 v7 v8 q0)) (fun (_ : Unit) => k (.exit 0) (slices_IndexFunc___int_int__v5_x2_0 v3 v4 v5 v6 v7 v8))) (by kernel_rfl) ?_
    have h : (fun (v0 : Arr Int) (v1 : Int) (v2 : Int) (v3 : Int) (v4 : Arr Int) (v5 : Arr api_Wire) (v6 : Int) (v7 : Int) (v8 : Int) => loopM E.Θ (circuit_state_wire_1_calm N d) (slices_IndexFunc___int_int__v5_lp N (circuit_state_wire_r N d)) (noJn) 1 slices_IndexFunc___int_int__v5_L2 (bodyAt E 128 2) n (slices_IndexFunc___int_int__v5_h2 v0 v1 v2 v3 v4 v5 v6 v7 v8) k) = (fun (v0 : Arr Int) (v1 : Int) (v2 : Int) (v3 : Int) (v4 : Arr Int) (v5 : Arr api_Wire) (v6 : Int) (v7 : Int) (v8 : Int) => slices_IndexFunc___int_int__v5_l2 N (circuit_state_wire_r N d) n v0 v1 v2 v3 v4 v5 v6 v7 v8 (fun q0 => k .ret (slices_IndexFunc___int_int__v5_x2_r v3 v4 v5 v6 v7 v8 q0)) (fun (_ : Unit) => k (.exit 0) (slices_IndexFunc___int_int__v5_x2_0 v3 v4 v5 v6 v7 v8))) := funext fun v0 => funext fun v1 => funext fun v2 => funext fun v3 => funext fun v4 => funext fun v5 => funext fun v6 => funext fun v7 => funext fun v8 => ih v0 v1 v2 v3 v4 v5 v6 v7 v8
    rw [h]
    rfl
theorem slices_IndexFunc___int_int__v5_k2 {R : Type} (N : Nat) (d : Nat) (hc : CalOk E.P (circuit_state_wire_cald (R := R) N d)) : LpKey (R := R) E 128 1 (slices_IndexFunc___int_int__v5_lp N (circuit_state_wire_r N d)) 2 :=
  lpKey_of hE (circuit_state_wire_1_calm_ok N d hc) (jn := noJn) slices_IndexFunc___int_int__v5_L2_ok [] kNil (by kernel_rfl) [] jNil (by kernel_rfl) N fun S k =>
    Eq.trans (b := slices_IndexFunc___int_int__v5_L2.head.raw 1 S (fun S0 => slices_IndexFunc___int_int__v5_d2 N (circuit_state_wire_r N d) S0 k)) (by kernel_rfl) (congrArg (slices_IndexFunc___int_int__v5_L2.head.raw 1 S) (funext fun S0 => Eq.trans (slices_IndexFunc___int_int__v5_l2_eq N d k N (lstC intC (lget S0.tmps 0)) (toI (lget S0.tmps 7)) (toI (lget S0.tmps 8)) (toI (lget (entCs (entAt S0.tab 0)) 0)) (lstC intC (lget (entCs (entAt S0.tab 0)) 1)) (lstC api_WireC (lget (entCs (entAt S0.tab 0)) 2)) (toI (lget (entCs (entAt S0.tab 0)) 3)) (toI (lget (entCs (entAt S0.tab 0)) 4)) (toI (lget (entCs (entAt S0.tab 0)) 5))).symm (by kernel_rfl)))
noncomputable def slices_IndexFunc___int_int__v5_go {R : Type} (N : Nat) (d : Nat) (args : List SV) (T : Tab) (kf : SV × Tab → Option R) : Option R :=
  slices_IndexFunc___int_int__v5 N (circuit_state_wire_r N d) (lstC intC (lget args 0)) (toI (lget (entCs (entAt T 0)) 0)) (lstC intC (lget (entCs (entAt T 0)) 1)) (lstC api_WireC (lget (entCs (entAt T 0)) 2)) (toI (lget (entCs (entAt T 0)) 3)) (toI (lget (entCs (entAt T 0)) 4)) (toI (lget (entCs (entAt T 0)) 5)) (fun q0 => kf (lget [.int .i64 q0] 0, [(0, .blk [.int .i64 (toI (lget (entCs (entAt T 0)) 0)), slC intC (lstC intC (lget (entCs (entAt T 0)) 1)), slC api_WireC (lstC api_WireC (lget (entCs (entAt T 0)) 2)), .int .i64 (toI (lget (entCs (entAt T 0)) 3)), .int .i64 (toI (lget (entCs (entAt T 0)) 4)), .int .i64 (toI (lget (entCs (entAt T 0)) 5))])]))
noncomputable def slices_IndexFunc___int_int__v5_calm {R : Type} (N : Nat) (d : Nat) : Cal R := callM (circuit_state_wire_1_calm N d) 128 1 slices_IndexFunc___int_int__v5_sp (slices_IndexFunc___int_int__v5_go N d)
theorem slices_IndexFunc___int_int__v5_calm_ok {R : Type} (N : Nat) (d : Nat) (hc : CalOk E.P (circuit_state_wire_cald (R := R) N d)) : CalOk E.P (slices_IndexFunc___int_int__v5_calm (R := R) N d) :=
  callM_ok hE (circuit_state_wire_1_calm_ok N d hc) (lp := slices_IndexFunc___int_int__v5_lp N (circuit_state_wire_r N d)) (jn := noJn) (keys := [2]) (kCons (slices_IndexFunc___int_int__v5_k2 N d hc) kNil) (by kernel_rfl) (js := []) jNil (by kernel_rfl) slices_IndexFunc___int_int__v5_sp_ok slices_IndexFunc___int_int__v5_rs_ok (fun args T kf => Eq.trans (slices_IndexFunc___int_int__v5_def N (circuit_state_wire_r N d) (lstC intC (lget args 0)) (toI (lget (entCs (entAt T 0)) 0)) (lstC intC (lget (entCs (entAt T 0)) 1)) (lstC api_WireC (lget (entCs (entAt T 0)) 2)) (toI (lget (entCs (entAt T 0)) 3)) (toI (lget (entCs (entAt T 0)) 4)) (toI (lget (entCs (entAt T 0)) 5)) (fun q0 => kf (lget [.int .i64 q0] 0, [(0, .blk [.int .i64 (toI (lget (entCs (entAt T 0)) 0)), slC intC (lstC intC (lget (entCs (entAt T 0)) 1)), slC api_WireC (lstC api_WireC (lget (entCs (entAt T 0)) 2)), .int .i64 (toI (lget (entCs (entAt T 0)) 3)), .int .i64 (toI (lget (entCs (entAt T 0)) 4)), .int .i64 (toI (lget (entCs (entAt T 0)) 5))])]))) (by kernel_rfl : slices_IndexFunc___int_int__v5_run N d args T kf = fnM E (circuit_state_wire_1_calm N d) (slices_IndexFunc___int_int__v5_lp N (circuit_state_wire_r N d)) (noJn) 128 (slices_IndexFunc___int_int__v5_sp.vs args) (slices_IndexFunc___int_int__v5_sp.tab T) 1 (resK slices_IndexFunc___int_int__v5_rs kf)))


def slices_ContainsFunc___int_int__v5_run {R : Type} (N : Nat) (d : Nat) (args : List SV) (T : Tab) (kf : SV × Tab → Option R) : Option R :=
  slices_ContainsFunc___int_int__v5_m N (circuit_state_wire_r N d) (lstC intC (lget args 0)) (toI (lget (entCs (entAt T 0)) 0)) (lstC intC (lget (entCs (entAt T 0)) 1)) (lstC api_WireC (lget (entCs (entAt T 0)) 2)) (toI (lget (entCs (entAt T 0)) 3)) (toI (lget (entCs (entAt T 0)) 4)) (toI (lget (entCs (entAt T 0)) 5)) (fun q0 => kf (lget [.bool q0] 0, [(0, .blk [.int .i64 (toI (lget (entCs (entAt T 0)) 0)), slC intC (lstC intC (lget (entCs (entAt T 0)) 1)), slC api_WireC (lstC api_WireC (lget (entCs (entAt T 0)) 2)), .int .i64 (toI (lget (entCs (entAt T 0)) 3)), .int .i64 (toI (lget (entCs (entAt T 0)) 4)), .int .i64 (toI (lget (entCs (entAt T 0)) 5))])]))
def slices_ContainsFunc___int_int__v5_lp {R : Type} (N : Nat) (rf : circuit_state → Int → (Bool → Option R) → Option R) : Lp R := fun body S k => Option.none
noncomputable def slices_ContainsFunc___int_int__v5_go {R : Type} (N : Nat) (d : Nat) (args : List SV) (T : Tab) (kf : SV × Tab → Option R) : Option R :=
  slices_ContainsFunc___int_int__v5 N (circuit_state_wire_r N d) (lstC intC (lget args 0)) (toI (lget (entCs (entAt T 0)) 0)) (lstC intC (lget (entCs (entAt T 0)) 1)) (lstC api_WireC (lget (entCs (entAt T 0)) 2)) (toI (lget (entCs (entAt T 0)) 3)) (toI (lget (entCs (entAt T 0)) 4)) (toI (lget (entCs (entAt T 0)) 5)) (fun q0 => kf (lget [.bool q0] 0, [(0, .blk [.int .i64 (toI (lget (entCs (entAt T 0)) 0)), slC intC (lstC intC (lget (entCs (entAt T 0)) 1)), slC api_WireC (lstC api_WireC (lget (entCs (entAt T 0)) 2)), .int .i64 (toI (lget (entCs (entAt T 0)) 3)), .int .i64 (toI (lget (entCs (entAt T 0)) 4)), .int .i64 (toI (lget (entCs (entAt T 0)) 5))])]))
noncomputable def slices_ContainsFunc___int_int__v5_calm {R : Type} (N : Nat) (d : Nat) : Cal R := callM (slices_IndexFunc___int_int__v5_calm N d) 89 1 slices_ContainsFunc___int_int__v5_sp (slices_ContainsFunc___int_int__v5_go N d)
theorem slices_ContainsFunc___int_int__v5_calm_ok {R : Type} (N : Nat) (d : Nat) (hc : CalOk E.P (circuit_state_wire_cald (R := R) N d)) : CalOk E.P (slices_ContainsFunc___int_int__v5_calm (R := R) N d) :=
  callM_ok hE (slices_IndexFunc___int_int__v5_calm_ok N d hc) (lp := slices_ContainsFunc___int_int__v5_lp N (circuit_state_wire_r N d)) (jn := noJn) (keys := []) kNil (by kernel_rfl) (js := []) jNil (by kernel_rfl) slices_ContainsFunc___int_int__v5_sp_ok slices_ContainsFunc___int_int__v5_rs_ok (fun args T kf => Eq.trans (slices_ContainsFunc___int_int__v5_def N (circuit_state_wire_r N d) (lstC intC (lget args 0)) (toI (lget (entCs (entAt T 0)) 0)) (lstC intC (lget (entCs (entAt T 0)) 1)) (lstC api_WireC (lget (entCs (entAt T 0)) 2)) (toI (lget (entCs (entAt T 0)) 3)) (toI (lget (entCs (entAt T 0)) 4)) (toI (lget (entCs (entAt T 0)) 5)) (fun q0 => kf (lget [.bool q0] 0, [(0, .blk [.int .i64 (toI (lget (entCs (entAt T 0)) 0)), slC intC (lstC intC (lget (entCs (entAt T 0)) 1)), slC api_WireC (lstC api_WireC (lget (entCs (entAt T 0)) 2)), .int .i64 (toI (lget (entCs (entAt T 0)) 3)), .int .i64 (toI (lget (entCs (entAt T 0)) 4)), .int .i64 (toI (lget (entCs (entAt T 0)) 5))])]))) (by kernel_rfl : slices_ContainsFunc___int_int__v5_run N d args T kf = fnM E (slices_IndexFunc___int_int__v5_calm N d) (slices_ContainsFunc___int_int__v5_lp N (circuit_state_wire_r N d)) (noJn) 89 (slices_ContainsFunc___int_int__v5_sp.vs args) (slices_ContainsFunc___int_int__v5_sp.tab T) 1 (resK slices_ContainsFunc___int_int__v5_rs kf)))


def circuit_state_wire_lp {R : Type} (N : Nat) (rf : circuit_state → Int → (Bool → Option R) → Option R) : Lp R := fun body S k => Option.none
theorem circuit_state_wire_cald_ok {R : Type} (N : Nat) (d : Nat) : CalOk E.P (circuit_state_wire_cald (R := R) N d) := by
  induction d with
  | zero => exact callM_none (circuit_state_conducts_cal_ok N) (fun args T kf => rfl)
  | succ d ih => exact callM_rec hE (circuit_state_conducts_cal_ok N) (slices_ContainsFunc___int_int__v5_calm_ok N d ih) (lp := circuit_state_wire_lp N (circuit_state_wire_r N d)) (jn := noJn) (keys := []) kNil (by kernel_rfl) (js := []) jNil (by kernel_rfl) circuit_state_wire_sp_ok circuit_state_wire_rs_ok (fun args T kf => by kernel_rfl)
noncomputable def circuit_state_wire_go {R : Type} (N : Nat) (args : List SV) (T : Tab) (kf : SV × Tab → Option R) : Option R :=
  circuit_state_wire N (Cod.dec circuit_stateC (lget (toCs (lget args 0)))) (toI (lget args 1)) (fun q0 => kf (lget [.bool q0] 0, []))
noncomputable def circuit_state_wire_cal {R : Type} (N : Nat) : Cal R := callM (circuit_state_conducts_cal N) 88 0 circuit_state_wire_sp (circuit_state_wire_go N)
theorem circuit_state_wire_cal_ok {R : Type} (N : Nat) : CalOk E.P (circuit_state_wire_cal (R := R) N) :=
  callM_eq (fun args T kf => circuit_state_wire_def N (Cod.dec circuit_stateC (lget (toCs (lget args 0)))) (toI (lget args 1)) (fun q0 => kf (lget [.bool q0] 0, []))) (circuit_state_wire_cald_ok N N)

def circuit_weak_L2 : LoopSp := ⟨⟨[1, 2, 4, 7, 8], ⟨(dr 1 ((rInt .i64) :: (rPtr 0 0) :: (dr 1 ((rRow 1) :: (dr 2 ((rInt .i64) :: (rInt .i64) :: (dr 14 []))))))), [(0, eBlkC api_CircuitC), (1, eRow intC)]⟩, 2⟩, [(some 0, ⟨[4], ⟨(dr 4 ((rRow 0) :: (dr 18 []))), [(0, eRow intC)]⟩, 1⟩)]⟩
theorem circuit_weak_L2_ok : circuit_weak_L2.Ok := ⟨⟨(drCons 1 (allCons (rInt_ok .i64) (allCons (rPtr_ok 0 0) (drCons 1 (allCons (rRow_ok 1) (drCons 2 (allCons (rInt_ok .i64) (allCons (rInt_ok .i64) (drCons 14 allNil))))))))), (eCons (eBlkC_ok api_CircuitC_ok api_CircuitC_len) (eCons (eRow_ok intC_ok) eNil))⟩, (xCons ⟨(drCons 4 (allCons (rRow_ok 0) (drCons 18 allNil))), (eCons (eRow_ok intC_ok) eNil)⟩ xNil)⟩
def circuit_weak_h2 (v378 : Int) (v379 : Int) (v380 : Int) (v381 : api_Circuit) (v382 : Bool) (v383 : Arr Int) : St := ⟨(un 1 ((.int .i64 v378) :: (.ptr 0 0) :: (un 1 ((.row 1) :: (un 2 ((.int .i64 v379) :: (.int .i64 v380) :: (un 14 []))))))), [(0, .blk (Cod.enc api_CircuitC v381)), (1, rowE intC v382 v383)], 2⟩
def circuit_weak_x2_0 (q0 : Bool) (q1 : Arr Int) : St := ⟨(un 4 ((.row 0) :: (un 18 []))), [(0, rowE intC q0 q1)], 1⟩
def circuit_weak_b2 {R : Type} (N : Nat) (rc : Int → Int → Int → api_Circuit → Bool → Arr Int → Option R) (v378 : Int) (v379 : Int) (v380 : Int) (v381 : api_Circuit) (v382 : Bool) (v383 : Arr Int) (k0 : Bool → Arr Int → Option R) : Option R :=
  bif decide (v380 < v379) then
   bif decide (v380 < (0 : Int)) then
    Option.none
   else
    circuit_state_wire N (circuit_state.mk v381 (w64 ((1 : Int) * (2 : Int) ^ min (Int.toNat v380) (IntKind.bits IntKind.i64))) v378 (0 : Int)) (0 : Int) (fun r531 =>
    bif r531 then
     bif room (Arr.n v383 + (1 : Nat)) then
      rc v378 v379 (w64 (v380 + (1 : Int))) v381 false (lst intC (Arr.n v383 + (1 : Nat)) (catC (Arr.n v383) (Cod.cell intC (Arr.f v383)) (litC [SV.int IntKind.i64 (0 : Int)] [[SV.int IntKind.i64 v380]])))
     else
      Option.none
    else
     rc v378 v379 (w64 (v380 + (1 : Int))) v381 v382 v383)
  else
   k0 v382 v383
def circuit_weak_l2 {R : Type} (N : Nat) : Nat → Int → Int → Int → api_Circuit → Bool → Arr Int → (Bool → Arr Int → Option R) → Option R
  | 0, _, _, _, _, _, _, _ => Option.none
  | n + 1, v378, v379, v380, v381, v382, v383, k0 => circuit_weak_b2 N (fun v378 v379 v380 v381 v382 v383 => circuit_weak_l2 N n v378 v379 v380 v381 v382 v383 k0) v378 v379 v380 v381 v382 v383 k0


def circuit_weak_m {R : Type} (N : Nat) (a376 : api_Circuit) (a377 : Int) (k : Bool → Arr Int → Option R) : Option R :=
  circuit_weak_l2 N N a377 (api_Circuit.Hazards a376) (0 : Int) a376 true (lst intC (0 : Nat) (zeroC [SV.int IntKind.i64 (0 : Int)])) (fun r532 r533 =>
   k r532 r533)
noncomputable def circuit_weak {R : Type} : Nat → api_Circuit → Int → (Bool → Arr Int → Option R) → Option R := lock (@circuit_weak_m R)
theorem circuit_weak_def {R : Type} (N : Nat) (a376 : api_Circuit) (a377 : Int) (k : Bool → Arr Int → Option R) : circuit_weak N a376 a377 k = circuit_weak_m N a376 a377 k := by unfold circuit_weak; rw [lock_eq]
def circuit_weak_sp : Sp := ⟨[rAgg api_CircuitC, rInt .i64], []⟩
theorem circuit_weak_sp_ok : circuit_weak_sp.Ok := ⟨(allCons (rAgg_ok api_CircuitC_ok api_CircuitC_len) (allCons (rInt_ok .i64) allNil)), eNil⟩
def circuit_weak_rs : Sp := ⟨[rRow 0], [(0, eRow intC)]⟩
theorem circuit_weak_rs_ok : circuit_weak_rs.Ok := ⟨(allCons (rRow_ok 0) allNil), (eCons (eRow_ok intC_ok) eNil)⟩
def circuit_weak_run {R : Type} (N : Nat) (args : List SV) (T : Tab) (kf : SV × Tab → Option R) : Option R :=
  circuit_weak_m N (Cod.dec api_CircuitC (lget (toCs (lget args 0)))) (toI (lget args 1)) (fun q0 q1 => kf (lget [.row 0] 0, [(0, rowE intC q0 q1)]))
def circuit_weak_d2 {R : Type} (N : Nat) (S0 : St) (k : Exit → St → Option R) : Option R :=
  circuit_weak_l2 N N (toI (lget S0.tmps 1)) (toI (lget S0.tmps 7)) (toI (lget S0.tmps 8)) (Cod.dec api_CircuitC (lget (entCs (entAt S0.tab 0)))) (entNl (entAt S0.tab 1)) (lst intC (entN (entAt S0.tab 1)) (entC (entAt S0.tab 1))) (fun q0 q1 => k (.exit 0) (circuit_weak_x2_0 q0 q1))
def circuit_weak_lp {R : Type} (N : Nat) : Lp R := fun body S k => bif (Go.Sx.keyOf body).getD 0 == 2 then circuit_weak_L2.head.raw 0 S (fun S0 => circuit_weak_d2 N S0 k) else Option.none
theorem circuit_weak_l2_eq {R : Type} (N : Nat) (k : Exit → St → Option R) (n : Nat) : ∀ (v0 : Int) (v1 : Int) (v2 : Int) (v3 : api_Circuit) (v4 : Bool) (v5 : Arr Int), loopM E.Θ (circuit_state_wire_cal N) (circuit_weak_lp N) (noJn) 0 circuit_weak_L2 (bodyAt E 82 2) n (circuit_weak_h2 v0 v1 v2 v3 v4 v5) k = circuit_weak_l2 N n v0 v1 v2 v3 v4 v5 (fun q0 q1 => k (.exit 0) (circuit_weak_x2_0 q0 q1)) := by
  induction n with
  | zero => intro v0 v1 v2 v3 v4 v5; rfl
  | succ n ih =>
    intro v0 v1 v2 v3 v4 v5
    refine Eq.trans (b := circuit_weak_b2 N (fun v0 v1 v2 v3 v4 v5 => loopM E.Θ (circuit_state_wire_cal N) (circuit_weak_lp N) (noJn) 0 circuit_weak_L2 (bodyAt E 82 2) n (circuit_weak_h2 v0 v1 v2 v3 v4 v5) k) v0 v1 v2 v3 v4 v5 (fun q0 q1 => k (.exit 0) (circuit_weak_x2_0 q0 q1))) (by kernel_rfl) ?_
    have h : (fun (v0 : Int) (v1 : Int) (v2 : Int) (v3 : api_Circuit) (v4 : Bool) (v5 : Arr Int) => loopM E.Θ (circuit_state_wire_cal N) (circuit_weak_lp N) (noJn) 0 circuit_weak_L2 (bodyAt E 82 2) n (circuit_weak_h2 v0 v1 v2 v3 v4 v5) k) = (fun (v0 : Int) (v1 : Int) (v2 : Int) (v3 : api_Circuit) (v4 : Bool) (v5 : Arr Int) => circuit_weak_l2 N n v0 v1 v2 v3 v4 v5 (fun q0 q1 => k (.exit 0) (circuit_weak_x2_0 q0 q1))) := funext fun v0 => funext fun v1 => funext fun v2 => funext fun v3 => funext fun v4 => funext fun v5 => ih v0 v1 v2 v3 v4 v5
    rw [h]
    rfl
theorem circuit_weak_k2 {R : Type} (N : Nat) : LpKey (R := R) E 82 0 (circuit_weak_lp N) 2 :=
  lpKey_of hE (circuit_state_wire_cal_ok N) (jn := noJn) circuit_weak_L2_ok [] kNil (by kernel_rfl) [] jNil (by kernel_rfl) N fun S k =>
    Eq.trans (b := circuit_weak_L2.head.raw 0 S (fun S0 => circuit_weak_d2 N S0 k)) (by kernel_rfl) (congrArg (circuit_weak_L2.head.raw 0 S) (funext fun S0 => Eq.trans (circuit_weak_l2_eq N k N (toI (lget S0.tmps 1)) (toI (lget S0.tmps 7)) (toI (lget S0.tmps 8)) (Cod.dec api_CircuitC (lget (entCs (entAt S0.tab 0)))) (entNl (entAt S0.tab 1)) (lst intC (entN (entAt S0.tab 1)) (entC (entAt S0.tab 1)))).symm (by kernel_rfl)))
noncomputable def circuit_weak_go {R : Type} (N : Nat) (args : List SV) (T : Tab) (kf : SV × Tab → Option R) : Option R :=
  circuit_weak N (Cod.dec api_CircuitC (lget (toCs (lget args 0)))) (toI (lget args 1)) (fun q0 q1 => kf (lget [.row 0] 0, [(0, rowE intC q0 q1)]))
noncomputable def circuit_weak_cal {R : Type} (N : Nat) : Cal R := callM (circuit_state_wire_cal N) 82 0 circuit_weak_sp (circuit_weak_go N)
theorem circuit_weak_cal_ok {R : Type} (N : Nat) : CalOk E.P (circuit_weak_cal (R := R) N) :=
  callM_ok hE (circuit_state_wire_cal_ok N) (lp := circuit_weak_lp N) (jn := noJn) (keys := [2]) (kCons (circuit_weak_k2 N) kNil) (by kernel_rfl) (js := []) jNil (by kernel_rfl) circuit_weak_sp_ok circuit_weak_rs_ok (fun args T kf => Eq.trans (circuit_weak_def N (Cod.dec api_CircuitC (lget (toCs (lget args 0)))) (toI (lget args 1)) (fun q0 q1 => kf (lget [.row 0] 0, [(0, rowE intC q0 q1)]))) (by kernel_rfl : circuit_weak_run N args T kf = fnM E (circuit_state_wire_cal N) (circuit_weak_lp N) (noJn) 82 (circuit_weak_sp.vs args) (circuit_weak_sp.tab T) 0 (resK circuit_weak_rs kf)))

def circuit_Critical_L6 : LoopSp := ⟨⟨[1, 5, 14, 15], ⟨(dr 1 ((rPtr 0 0) :: (dr 3 ((rRow 1) :: (dr 8 ((rInt .i64) :: (rInt .i64) :: (dr 14 []))))))), [(0, eBlkC api_CircuitC), (1, eRow intC)]⟩, 2⟩, [(some 0, ⟨[5], ⟨(dr 5 ((rRow 0) :: (dr 24 []))), [(0, eRow intC)]⟩, 1⟩)]⟩
theorem circuit_Critical_L6_ok : circuit_Critical_L6.Ok := ⟨⟨(drCons 1 (allCons (rPtr_ok 0 0) (drCons 3 (allCons (rRow_ok 1) (drCons 8 (allCons (rInt_ok .i64) (allCons (rInt_ok .i64) (drCons 14 allNil)))))))), (eCons (eBlkC_ok api_CircuitC_ok api_CircuitC_len) (eCons (eRow_ok intC_ok) eNil))⟩, (xCons ⟨(drCons 5 (allCons (rRow_ok 0) (drCons 24 allNil))), (eCons (eRow_ok intC_ok) eNil)⟩ xNil)⟩
def circuit_Critical_h6 (v371 : Int) (v372 : Int) (v373 : api_Circuit) (v374 : Bool) (v375 : Arr Int) : St := ⟨(un 1 ((.ptr 0 0) :: (un 3 ((.row 1) :: (un 8 ((.int .i64 v371) :: (.int .i64 v372) :: (un 14 []))))))), [(0, .blk (Cod.enc api_CircuitC v373)), (1, rowE intC v374 v375)], 2⟩
def circuit_Critical_x6_0 (q0 : Bool) (q1 : Arr Int) : St := ⟨(un 5 ((.row 0) :: (un 24 []))), [(0, rowE intC q0 q1)], 1⟩
def circuit_Critical_b6 {R : Type} (N : Nat) (rc : Int → Int → api_Circuit → Bool → Arr Int → Option R) (v371 : Int) (v372 : Int) (v373 : api_Circuit) (v374 : Bool) (v375 : Arr Int) (k0 : Bool → Arr Int → Option R) : Option R :=
  bif decide (v372 < v371) then
   bif decide (v372 < (0 : Int)) then
    Option.none
   else
    circuit_weak N v373 (w64 ((1 : Int) * (2 : Int) ^ min (Int.toNat v372) (IntKind.bits IntKind.i64))) (fun r534 r535 =>
    bif decide ((↑(Arr.n r535) : Int) > (0 : Int)) then
     bif room (Arr.n v375 + (1 : Nat)) then
      rc v371 (w64 (v372 + (1 : Int))) v373 false (lst intC (Arr.n v375 + (1 : Nat)) (catC (Arr.n v375) (Cod.cell intC (Arr.f v375)) (litC [SV.int IntKind.i64 (0 : Int)] [[SV.int IntKind.i64 v372]])))
     else
      Option.none
    else
     rc v371 (w64 (v372 + (1 : Int))) v373 v374 v375)
  else
   k0 v374 v375
def circuit_Critical_l6 {R : Type} (N : Nat) : Nat → Int → Int → api_Circuit → Bool → Arr Int → (Bool → Arr Int → Option R) → Option R
  | 0, _, _, _, _, _, _ => Option.none
  | n + 1, v371, v372, v373, v374, v375, k0 => circuit_Critical_b6 N (fun v371 v372 v373 v374 v375 => circuit_Critical_l6 N n v371 v372 v373 v374 v375 k0) v371 v372 v373 v374 v375 k0


def circuit_Critical_m {R : Type} (N : Nat) (a369 : api_Circuit) (k : Int → Bool → Arr Int → Option R) : Option R :=
  circuit_Check N a369 (fun r370 =>
  bif r370 != (0 : Int) then
   k r370 true (lst intC (0 : Nat) (zeroC [SV.int IntKind.i64 (0 : Int)]))
  else
   circuit_Critical_l6 N N ((↑(Arr.n (api_Circuit.Switches a369)) : Int)) (0 : Int) a369 true (lst intC (0 : Nat) (zeroC [SV.int IntKind.i64 (0 : Int)])) (fun r536 r537 =>
    k (0 : Int) r536 r537))
noncomputable def circuit_Critical {R : Type} : Nat → api_Circuit → (Int → Bool → Arr Int → Option R) → Option R := lock (@circuit_Critical_m R)
theorem circuit_Critical_def {R : Type} (N : Nat) (a369 : api_Circuit) (k : Int → Bool → Arr Int → Option R) : circuit_Critical N a369 k = circuit_Critical_m N a369 k := by unfold circuit_Critical; rw [lock_eq]
def circuit_Critical_sp : Sp := ⟨[rAgg api_CircuitC], []⟩
theorem circuit_Critical_sp_ok : circuit_Critical_sp.Ok := ⟨(allCons (rAgg_ok api_CircuitC_ok api_CircuitC_len) allNil), eNil⟩
def circuit_Critical_rs : Sp := ⟨[rTup [rRow 0, rInt .i64]], [(0, eRow intC)]⟩
theorem circuit_Critical_rs_ok : circuit_Critical_rs.Ok := ⟨(allCons (rTup_ok (allCons (rRow_ok 0) (allCons (rInt_ok .i64) allNil))) allNil), (eCons (eRow_ok intC_ok) eNil)⟩
def circuit_Critical_run {R : Type} (N : Nat) (args : List SV) (T : Tab) (kf : SV × Tab → Option R) : Option R :=
  circuit_Critical_m N (Cod.dec api_CircuitC (lget (toCs (lget args 0)))) (fun q0 q1 q2 => kf (lget [.tup [.row 0, .int .i64 q0]] 0, [(0, rowE intC q1 q2)]))
def circuit_Critical_d6 {R : Type} (N : Nat) (S0 : St) (k : Exit → St → Option R) : Option R :=
  circuit_Critical_l6 N N (toI (lget S0.tmps 14)) (toI (lget S0.tmps 15)) (Cod.dec api_CircuitC (lget (entCs (entAt S0.tab 0)))) (entNl (entAt S0.tab 1)) (lst intC (entN (entAt S0.tab 1)) (entC (entAt S0.tab 1))) (fun q0 q1 => k (.exit 0) (circuit_Critical_x6_0 q0 q1))
def circuit_Critical_lp {R : Type} (N : Nat) : Lp R := fun body S k => bif (Go.Sx.keyOf body).getD 0 == 6 then circuit_Critical_L6.head.raw 0 S (fun S0 => circuit_Critical_d6 N S0 k) else Option.none
theorem circuit_Critical_l6_eq {R : Type} (N : Nat) (k : Exit → St → Option R) (n : Nat) : ∀ (v0 : Int) (v1 : Int) (v2 : api_Circuit) (v3 : Bool) (v4 : Arr Int), loopM E.Θ (circuit_weak_cal N) (circuit_Critical_lp N) (noJn) 0 circuit_Critical_L6 (bodyAt E 30 6) n (circuit_Critical_h6 v0 v1 v2 v3 v4) k = circuit_Critical_l6 N n v0 v1 v2 v3 v4 (fun q0 q1 => k (.exit 0) (circuit_Critical_x6_0 q0 q1)) := by
  induction n with
  | zero => intro v0 v1 v2 v3 v4; rfl
  | succ n ih =>
    intro v0 v1 v2 v3 v4
    refine Eq.trans (b := circuit_Critical_b6 N (fun v0 v1 v2 v3 v4 => loopM E.Θ (circuit_weak_cal N) (circuit_Critical_lp N) (noJn) 0 circuit_Critical_L6 (bodyAt E 30 6) n (circuit_Critical_h6 v0 v1 v2 v3 v4) k) v0 v1 v2 v3 v4 (fun q0 q1 => k (.exit 0) (circuit_Critical_x6_0 q0 q1))) (by kernel_rfl) ?_
    have h : (fun (v0 : Int) (v1 : Int) (v2 : api_Circuit) (v3 : Bool) (v4 : Arr Int) => loopM E.Θ (circuit_weak_cal N) (circuit_Critical_lp N) (noJn) 0 circuit_Critical_L6 (bodyAt E 30 6) n (circuit_Critical_h6 v0 v1 v2 v3 v4) k) = (fun (v0 : Int) (v1 : Int) (v2 : api_Circuit) (v3 : Bool) (v4 : Arr Int) => circuit_Critical_l6 N n v0 v1 v2 v3 v4 (fun q0 q1 => k (.exit 0) (circuit_Critical_x6_0 q0 q1))) := funext fun v0 => funext fun v1 => funext fun v2 => funext fun v3 => funext fun v4 => ih v0 v1 v2 v3 v4
    rw [h]
    rfl
theorem circuit_Critical_k6 {R : Type} (N : Nat) : LpKey (R := R) E 30 0 (circuit_Critical_lp N) 6 :=
  lpKey_of hE (circuit_weak_cal_ok N) (jn := noJn) circuit_Critical_L6_ok [] kNil (by kernel_rfl) [] jNil (by kernel_rfl) N fun S k =>
    Eq.trans (b := circuit_Critical_L6.head.raw 0 S (fun S0 => circuit_Critical_d6 N S0 k)) (by kernel_rfl) (congrArg (circuit_Critical_L6.head.raw 0 S) (funext fun S0 => Eq.trans (circuit_Critical_l6_eq N k N (toI (lget S0.tmps 14)) (toI (lget S0.tmps 15)) (Cod.dec api_CircuitC (lget (entCs (entAt S0.tab 0)))) (entNl (entAt S0.tab 1)) (lst intC (entN (entAt S0.tab 1)) (entC (entAt S0.tab 1)))).symm (by kernel_rfl)))
noncomputable def circuit_Critical_go {R : Type} (N : Nat) (args : List SV) (T : Tab) (kf : SV × Tab → Option R) : Option R :=
  circuit_Critical N (Cod.dec api_CircuitC (lget (toCs (lget args 0)))) (fun q0 q1 q2 => kf (lget [.tup [.row 0, .int .i64 q0]] 0, [(0, rowE intC q1 q2)]))
noncomputable def circuit_Critical_cal {R : Type} (N : Nat) : Cal R := callM (circuit_weak_cal N) 30 0 circuit_Critical_sp (circuit_Critical_go N)
theorem circuit_Critical_cal_ok {R : Type} (N : Nat) : CalOk E.P (circuit_Critical_cal (R := R) N) :=
  callM_ok hE (circuit_weak_cal_ok N) (lp := circuit_Critical_lp N) (jn := noJn) (keys := [6]) (kCons (circuit_Critical_k6 N) kNil) (by kernel_rfl) (js := []) jNil (by kernel_rfl) circuit_Critical_sp_ok circuit_Critical_rs_ok (fun args T kf => Eq.trans (circuit_Critical_def N (Cod.dec api_CircuitC (lget (toCs (lget args 0)))) (fun q0 q1 q2 => kf (lget [.tup [.row 0, .int .i64 q0]] 0, [(0, rowE intC q1 q2)]))) (by kernel_rfl : circuit_Critical_run N args T kf = fnM E (circuit_weak_cal N) (circuit_Critical_lp N) (noJn) 30 (circuit_Critical_sp.vs args) (circuit_Critical_sp.tab T) 0 (resK circuit_Critical_rs kf)))


def circuit_Runs_m {R : Type} (N : Nat) (a538 : api_Circuit) (a539 : Int) (a540 : Int) (a541 : Int) (k : Bool → Int → Option R) : Option R :=
  circuit_Check N a538 (fun r542 =>
  bif r542 != (0 : Int) then
   k false r542
  else
   circuit_isSet N a539 (api_Circuit.Hazards a538) (fun r543 =>
   bif !r543 then
    k false (1 : Int)
   else
    circuit_isSet N a540 ((↑(Arr.n (api_Circuit.Switches a538)) : Int)) (fun r544 =>
    bif !r544 then
     k false (1 : Int)
    else
     circuit_isSet N a541 ((↑(Arr.n (api_Circuit.Switches a538)) : Int)) (fun r545 =>
     bif !r545 then
      k false (1 : Int)
     else
      circuit_state_wire N (circuit_state.mk a538 a539 a540 a541) (0 : Int) (fun r546 =>
      k r546 (0 : Int))))))
noncomputable def circuit_Runs {R : Type} : Nat → api_Circuit → Int → Int → Int → (Bool → Int → Option R) → Option R := lock (@circuit_Runs_m R)
theorem circuit_Runs_def {R : Type} (N : Nat) (a538 : api_Circuit) (a539 : Int) (a540 : Int) (a541 : Int) (k : Bool → Int → Option R) : circuit_Runs N a538 a539 a540 a541 k = circuit_Runs_m N a538 a539 a540 a541 k := by unfold circuit_Runs; rw [lock_eq]
def circuit_Runs_sp : Sp := ⟨[rAgg api_CircuitC, rInt .i64, rInt .i64, rInt .i64], []⟩
theorem circuit_Runs_sp_ok : circuit_Runs_sp.Ok := ⟨(allCons (rAgg_ok api_CircuitC_ok api_CircuitC_len) (allCons (rInt_ok .i64) (allCons (rInt_ok .i64) (allCons (rInt_ok .i64) allNil)))), eNil⟩
def circuit_Runs_rs : Sp := ⟨[rTup [rBool, rInt .i64]], []⟩
theorem circuit_Runs_rs_ok : circuit_Runs_rs.Ok := ⟨(allCons (rTup_ok (allCons rBool_ok (allCons (rInt_ok .i64) allNil))) allNil), eNil⟩
def circuit_Runs_run {R : Type} (N : Nat) (args : List SV) (T : Tab) (kf : SV × Tab → Option R) : Option R :=
  circuit_Runs_m N (Cod.dec api_CircuitC (lget (toCs (lget args 0)))) (toI (lget args 1)) (toI (lget args 2)) (toI (lget args 3)) (fun q0 q1 => kf (lget [.tup [.bool q0, .int .i64 q1]] 0, []))
def circuit_Runs_lp {R : Type} (N : Nat) : Lp R := fun body S k => Option.none
noncomputable def circuit_Runs_go {R : Type} (N : Nat) (args : List SV) (T : Tab) (kf : SV × Tab → Option R) : Option R :=
  circuit_Runs N (Cod.dec api_CircuitC (lget (toCs (lget args 0)))) (toI (lget args 1)) (toI (lget args 2)) (toI (lget args 3)) (fun q0 q1 => kf (lget [.tup [.bool q0, .int .i64 q1]] 0, []))
noncomputable def circuit_Runs_cal {R : Type} (N : Nat) : Cal R := callM (circuit_Critical_cal N) 35 0 circuit_Runs_sp (circuit_Runs_go N)
theorem circuit_Runs_cal_ok {R : Type} (N : Nat) : CalOk E.P (circuit_Runs_cal (R := R) N) :=
  callM_ok hE (circuit_Critical_cal_ok N) (lp := circuit_Runs_lp N) (jn := noJn) (keys := []) kNil (by kernel_rfl) (js := []) jNil (by kernel_rfl) circuit_Runs_sp_ok circuit_Runs_rs_ok (fun args T kf => Eq.trans (circuit_Runs_def N (Cod.dec api_CircuitC (lget (toCs (lget args 0)))) (toI (lget args 1)) (toI (lget args 2)) (toI (lget args 3)) (fun q0 q1 => kf (lget [.tup [.bool q0, .int .i64 q1]] 0, []))) (by kernel_rfl : circuit_Runs_run N args T kf = fnM E (circuit_Critical_cal N) (circuit_Runs_lp N) (noJn) 35 (circuit_Runs_sp.vs args) (circuit_Runs_sp.tab T) 0 (resK circuit_Runs_rs kf)))

theorem neweltop_measures_closed {R : Type} (kf : SV × Tab → Option R) : (runG E 400 60).run 15 [] [] 0 kf = kf (.bool true, []) := by kernel_rfl
def neweltop_measures_m {R : Type} (N : Nat) (k : Bool → Option R) : Option R :=
  k true
noncomputable def neweltop_measures {R : Type} : Nat → (Bool → Option R) → Option R := lock (@neweltop_measures_m R)
theorem neweltop_measures_def {R : Type} (N : Nat) (k : Bool → Option R) : neweltop_measures N k = neweltop_measures_m N k := by unfold neweltop_measures; rw [lock_eq]
theorem neweltop_measures_eq {R : Type} (N : Nat) (k : Bool → Option R) : neweltop_measures N k = k true := by rw [neweltop_measures_def]; rfl
def neweltop_measures_sp : Sp := ⟨[], []⟩
noncomputable def neweltop_measures_go {R : Type} (N : Nat) (args : List SV) (T : Tab) (kf : SV × Tab → Option R) : Option R :=
  neweltop_measures N (fun q0 => kf (lget [.bool q0] 0, []))
noncomputable def neweltop_measures_cal {R : Type} (N : Nat) : Cal R := callM (circuit_Runs_cal N) 15 0 neweltop_measures_sp (neweltop_measures_go N)
theorem neweltop_measures_cal_ok {R : Type} (N : Nat) : CalOk E.P (neweltop_measures_cal (R := R) N) :=
  callM_eq (m' := fun args T kf => kf (.bool true, [])) (fun args T kf => neweltop_measures_def N (fun q0 => kf (lget [.bool q0] 0, []))) (closed_ok hE (circuit_Runs_cal_ok N) neweltop_measures_closed)



end
end Go.Proofs.Ytpillmoddoccfaa
