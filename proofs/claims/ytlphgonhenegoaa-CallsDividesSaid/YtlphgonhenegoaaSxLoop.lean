import Derived.Test.YtlphgonhenegoaaSxUse
namespace Go.Sx
section
variable {R : Type}
def loopH (Θ : Tys) (cal : Cal R) (hs : Hints) (base : Nat) : Nat → Lp R
  | 0, _, _, _ => Option.none
  | n + 1, body, S, k =>
      codeK Θ cal (fun b S1 k1 => normK base (hs.get ((keyOf b).getD 0)) S1 fun S2 => loopH Θ cal hs base n b S2 k1) body S fun e S' => match e with
        | .normal => normK base (hs.get ((keyOf body).getD 0)) S' fun S0 => loopH Θ cal hs base n body S0 k
        | e => k e S'
def loopN (Θ : Tys) (cal : Cal R) (hs : Hints) (base : Nat) (n : Nat) : Lp R := fun b S k => normK base (hs.get ((keyOf b).getD 0)) S fun S0 => loopH Θ cal hs base n b S0 k
def aft (Θ : Tys) (cal : Cal R) (lp : Lp R) (key : Nat) : Code → (Exit → St → Option R) → Exit → St → Option R
  | .seq a b, k => (match loopAt key a with
    | some _ => aft Θ cal lp key a fun e S' => match e with | .normal => codeK Θ cal lp b S' k | e => k e S'
    | Option.none => aft Θ cal lp key b k)
  | .cond _ a b, k => (match loopAt key a with
    | some _ => aft Θ cal lp key a k
    | Option.none => aft Θ cal lp key b k)
  | .block id c, k => aft Θ cal lp key c fun e S' => match e with | .exit j => (bif j == id then k .normal S' else k (.exit j) S') | e => k e S'
  | _, k => k
def codeOf (E : Env) (f : FuncId) : Code := match E.P.funcs[f]? with
  | some fn => fn.body.getD .skip
  | Option.none => .skip
def bodyAt (E : Env) (f : FuncId) (key : Nat) : Code := (loopAt key (codeOf E f)).getD .skip
def resAt (E : Env) (f : FuncId) : List ResultVar := match E.P.funcs[f]? with
  | some fn => fn.results.toList
  | Option.none => []
def fin (E : Env) (cal : Cal R) (n : Nat) (f : FuncId) (base : Nat) (key : Nat) (k : SV × Tab → Option R) : Exit → St → Option R :=
  aft E.Θ cal (loopN E.Θ cal (E.hs f) base n) key (codeOf E f) fun e S => match e with
    | .ret => finK (!(E.nr f), E.bs f) E.Θ base (resAt E f) S k
    | .normal => finK (!(E.nr f), E.bs f) E.Θ base (resAt E f) S k
    | _ => Option.none
end
end Go.Sx
