import Derived.OrdersIn
import Derived.LoopNIn
import Derived.TacticsIn
import Derived.ControlIn
import Derived.RangeFuncCalls
import Derived.Calls
namespace Go.Sx
def fw (ro : Option Nat) : Fence := { Fence.wide with round := ro }
def wpA (P : Program) (c : Code) (Q : Exit → Act → World → Prop) (a : Act) (w : World) : Prop := ∀ ro, c.wpIn (fw ro) 0 P Q a w
def roundsA (P : Program) (c : Code) (Q : Exit → Act → World → Prop) (m : Nat) (a : Act) (w : World) : Prop := ∀ ro, Code.roundsIn (fw ro) 0 P c Q m a w
def opA (P : Program) (o : Oper) (a : Act) (w : World) (K : Act → World → Prop) (Q : Exit → Act → World → Prop) : Prop := ∀ ro, o.wpIn (fw ro) 0 P a w K Q
def listA (P : Program) (ops : Array Oper) (Q : Exit → Act → World → Prop) (l : List Oper) (a : Act) (w : World) : Prop := ∀ ro, wpListIn (fw ro) 0 P ops Q l a w
section
variable {P : Program} {Q : Exit → Act → World → Prop} {a : Act} {w : World}
theorem wpA_wp {c : Code} (h : wpA P c Q a w) : c.wp P Q a w := wpIn_wide.1 (h Option.none)
theorem wpA_skip (h : Q .normal a w) : wpA P .skip Q a w := fun _ => wpIn_skip h
theorem wpA_label {l : Nat} (h : Q .normal a w) : wpA P (.label l) Q a w := fun _ => wpIn_label h
theorem wpA_exit {id : Nat} (h : Q (.exit id) a w) : wpA P (.exit id) Q a w := fun _ => wpIn_exit h
theorem wpA_ret (h : Q .ret a w) : wpA P .ret Q a w := fun _ => wpIn_ret h
theorem wpA_seq {x y : Code} (h : wpA P x (Exit.then (wpA P y Q) Q) a w) : wpA P (.seq x y) Q a w := fun ro =>
  wpIn_seq (wpIn_mono (h ro) fun e a w q => by cases e <;> first | exact q ro | exact q)
theorem wpA_cond {c : Operand} {x y : Code} {t : Bool} (hc : a.eval c = .bool t) (h : wpA P (if t then x else y) Q a w) : wpA P (.cond c x y) Q a w := fun ro => wpIn_cond hc (h ro)
theorem wpA_block {id : Nat} {c : Code} (h : wpA P c (Exit.inBlock id Q) a w) : wpA P (.block id c) Q a w := fun ro => wpIn_block (h ro)
theorem wpA_loop_rounds {c : Code} (m : Nat) (h : roundsA P c Q m a w) : wpA P (.loop c) Q a w := fun ro => wpIn_loop_rounds m (h ro)
theorem roundsA_succ {c : Code} {m : Nat} (h : wpA P c (Exit.then (roundsA P c Q m) Q) a w) : roundsA P c Q (m + 1) a w := fun ro => by
  rw [roundsIn_succ]
  exact wpIn_mono (h ro) fun e a w q => by cases e <;> first | exact q ro | exact q
theorem wpA_region_list {id : Nat} {ops : Array Oper} (h : listA P ops Q ops.toList a w) : wpA P (.region id ops false) Q a w := fun ro => wpIn_region_list (h ro)
theorem about_fw (o : Oper) (ro : Option Nat) (a : Act) (w : World) : ∀ f, o.about P w a.eval = some f → (fw ro).fn f := fun _ _ => trivial
theorem listA_nil {ops : Array Oper} (h : Q .normal a w) : listA P ops Q [] a w := fun _ => h
theorem Oper.wpIn_mono' {F : Fence} {n : Nat} {o : Oper} {K K' : Act → World → Prop} (h : ∀ a w, K a w → K' a w) (hh : o.wpIn F n P a w K Q) : o.wpIn F n P a w K' Q := Oper.wpIn_mono h hh
theorem listA_cons {ops : Array Oper} {o : Oper} {rest : List Oper} (h : if Region.wanted o (yielded ops a.tmps) then opA P o a w (listA P ops Q rest) Q else listA P ops Q rest (a.put o.dst Go.undef) w) : listA P ops Q (o :: rest) a w := fun ro => by
  unfold wpListIn
  split at h
  · rename_i hw
    simp only [hw, if_true]
    exact Oper.wpIn_mono' (fun a w q => q ro) (h ro)
  · rename_i hw
    simp only [hw, if_false, Bool.false_eq_true]
    exact ⟨about_fw o ro a w, h ro⟩
theorem no_defer {o : Oper} {ρ : Operand → Value} {n : Next} {w' : World} (h : (execOp ρ o).run P w = .ok n w') (hn : ∀ d, n ≠ .defer d) : ∀ c, o.op ≠ .defer c := fun c hc => by
  unfold execOp at h
  rw [hc] at h
  simp only [Sem.run_bind, Result.andThen] at h
  split at h
  · simp only [Sem.run_pure] at h
    injection h with h1 h2
    exact hn _ h1.symm
  · cases h
theorem semAt_fw {o : Oper} {ρ : Operand → Value} (ro : Option Nat) (h : ∀ c, o.op ≠ .defer c) : o.semAt (fw ro).round ρ = execOp ρ o := Oper.semAt_eq _ _ _ h
theorem opA_value {o : Oper} {v : Value} {w' : World} {K : Act → World → Prop} (hrun : (execOp a.eval o).run P w = .ok (.value v) w') (h : K (a.put o.dst v) w') : opA P o a w K Q := fun ro => by
  refine ⟨about_fw o ro a w, ?_⟩
  rw [semAt_fw ro (no_defer hrun fun d h => by cases h), hrun]
  exact h
theorem opA_skip {o : Oper} {w' : World} {K : Act → World → Prop} (hrun : (execOp a.eval o).run P w = .ok .skip w') (h : K (a.put o.dst Go.undef) w') : opA P o a w K Q := fun ro => by
  refine ⟨about_fw o ro a w, ?_⟩
  rw [semAt_fw ro (no_defer hrun fun d h => by cases h), hrun]
  exact h
theorem opA_enter {o : Oper} {f : FuncId} {args : Array Value} {w' : World} {K : Act → World → Prop} (hrun : (execOp a.eval o).run P w = .ok (.enter f args) w')
    (h : Calls P f args w' fun e w'' => ∃ v, e = .returned v ∧ K (a.put o.dst v) w'') : opA P o a w K Q := fun ro => by
  refine ⟨about_fw o ro a w, ?_⟩
  rw [semAt_fw ro (no_defer hrun fun d h => by cases h), hrun, Oper.uponIn_enter]
  refine ⟨fun h => (by cases h), ?_⟩
  have h1 : CallsIn (fw ro) (0 - 1) P f args w' (fun e w'' => ∃ v, e = .returned v ∧ K (a.put o.dst v) w'') := (callsIn_wide (n := 0 - 1)).2 h
  refine CallsIn.mono h1 ?_
  rintro e w'' ⟨v, rfl, hk⟩
  exact hk
theorem opA_round {o : Oper} {l : Nat} {f : FuncId} {tmps : Array Value} {asg body : Code} {w' : World} {K : Act → World → Prop} (hrun : (execOp a.eval o).run P w = .ok (.round l f tmps asg body) w')
    (h : ∀ ro, RoundIn (fw ro) 0 P l f tmps asg body w' fun e w'' => ∃ v, e = .returned v ∧ K (a.put o.dst v) w'') : opA P o a w K Q := fun ro => by
  refine ⟨about_fw o ro a w, ?_⟩
  rw [semAt_fw ro (no_defer hrun fun d h => by cases h), hrun, Oper.uponIn_round]
  refine ⟨fun h => (by cases h), RoundIn.mono (h ro) ?_⟩
  rintro e w'' ⟨v, rfl, hk⟩
  exact hk
def oneA (P : Program) (ops : Array Oper) (Q : Exit → Act → World → Prop) (i : Nat) (K : Act → World → Prop) (a : Act) (w : World) : Prop :=
  match ops[i]? with
  | Option.none => K a w
  | some o => if Region.wanted o (yielded ops a.tmps) then opA P o a w K Q else K (a.put o.dst Go.undef) w
def anyA (P : Program) (ops : Array Oper) (Q : Exit → Act → World → Prop) (fuel : Nat) (listed : Array Bool) (a : Act) (w : World) : Prop := ∀ ro, wpAnyIn (fw ro) 0 P .any ops Q fuel listed a w
theorem anyA_zero {ops : Array Oper} {listed : Array Bool} (hr : Region.ready .any ops listed = []) (h : Q .normal a w) : anyA P ops Q 0 listed a w := fun _ => ⟨hr, h⟩
theorem anyA_succ {ops : Array Oper} {listed : Array Bool} {fuel : Nat} (hr : Region.ready .any ops listed = [] → Q .normal a w) (h : ∀ i ∈ Region.ready .any ops listed, oneA P ops Q i (anyA P ops Q fuel (listed.setIfInBounds i true)) a w) : anyA P ops Q (fuel + 1) listed a w := fun ro => by
  refine ⟨hr, fun i hi => ?_⟩
  have h1 := h i hi
  unfold oneA at h1
  unfold wpOpIn
  split at h1
  · rename_i ho
    simp only [ho]
    exact h1 ro
  · rename_i o ho
    simp only [ho]
    split at h1
    · rename_i hw
      simp only [hw, if_true]
      exact Oper.wpIn_mono' (fun a w q => q ro) (h1 ro)
    · rename_i hw
      simp only [hw, if_false, Bool.false_eq_true]
      exact ⟨about_fw o ro a w, h1 ro⟩
theorem wpA_region_any {ops : Array Oper} {id : Nat} (hm : P.follows .mixedOrders = true) (h : anyA P ops Q ops.size (Array.replicate ops.size false) a { w with drawn := w.drawn + 1 }) : wpA P (.region id ops true) Q a w := fun ro => wpIn_region_any hm (h ro)
end
end Go.Sx
