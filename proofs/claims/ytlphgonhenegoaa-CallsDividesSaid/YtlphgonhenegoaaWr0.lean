import Derived.Test.YtlphgonhenegoaaWr
import Derived.Test.YtlphgonhenegoaaSxEnd
set_option maxRecDepth 100000
set_option maxHeartbeats 0
set_option linter.unusedVariables false
namespace Go.Proofs.Ytlphgonhenegoaa
open Go.Sx
open Go.ChangeMaps (setBlock)
noncomputable section
namespace Wr0
def tm (x8 : SV) (l : Arr api_Press) (next t s : Int) (mid : List SV) : List SV := un 1 ((slC api_PressC l) :: (.func 52 0 []) :: (un 4 ((.row 0) :: x8 :: (.ptr 2 0) :: (.int .i64 next) :: (.int .i64 t) :: (un 1 ((.int .i64 s) :: mid)))))
def tabX (nl : Bool) (w : Arr Int) (cg : calls_cage) (v1 : Value) (b1 : List (Nat × Obj)) (v2 : Value) (b2 : List (Nat × Obj)) : Tab := [(0, rowE intC nl w), (2, .blk (Cod.enc calls_cageC cg)), (3, .fx v1 b1), (4, .fx v2 b2)]
def hS (l : Arr api_Press) (next t s : Int) (nl : Bool) (w : Arr Int) (m : Fm Int) (cg : calls_cage) : St := ⟨tm (.row 1) l next t s (un 101 []), [(0, rowE intC nl w), (1, fmE .i64 intC m), (2, .blk (Cod.enc calls_cageC cg))], 3⟩
def eS (l : Arr api_Press) (next t s : Int) (nl : Bool) (w : Arr Int) (m : Fm Int) (cg : calls_cage) : St := ⟨tm (.row 5) l next t s (un 101 []), [(0, rowE intC nl w), (2, .blk (Cod.enc calls_cageC cg)), (5, fmE .i64 intC m)], 6⟩
def lM : List SV := un 70 ((.row 4) :: (un 30 []))
def kM (z : Int) (x15 : SV) : List SV := (.int .i64 z) :: x15 :: (un 68 ((.row 4) :: (un 30 [])))
def andV (s z : Int) : Int := IntKind.i64.wrap ↑(BitVec.ofInt IntKind.i64.bits (s.fdiv (2 ^ min z.toNat IntKind.i64.bits)) &&& BitVec.ofInt IntKind.i64.bits 1).toNat
def iM (z : Int) (who : Arr Int) (k : Int) : List SV := (.int .i64 z) :: (slC intC who) :: (un 68 ((.row 4) :: (un 10 ((slC intC who) :: (.int .i64 (who.n : Int)) :: (.int .i64 k) :: (un 17 [])))))
theorem codes : codeOk wr18 = true ∧ codeOk wr19 = true ∧ codeOk wrI = true := ⟨by kernel_rfl, by kernel_rfl, by kernel_rfl⟩
theorem p18 (l : Arr api_Press) (next t s z : Int) (x15 : SV) (nl : Bool) (w : Arr Int) (cg : calls_cage) (v1 : Value) (b1 : List (Nat × Obj)) (v2 : Value) (b2 : List (Nat × Obj)) :
    codeK (R := Exit × List SV × Tab × Nat) E.Θ (noCal E) (fun _ _ _ => Option.none) wr18 ⟨tm (.row 3) l next t s (kM z x15), tabX nl w cg v1 b1 v2 b2, 5⟩ (fun e S' => some (e, clrs [90, 91, 92, 93, 94] S'.tmps, S'.tab, S'.nx)) =
      bif decide (z < 0) then Option.none else bif andV s z == 0 then some (.exit 5, tm (.row 3) l next t s (kM z x15), tabX nl w cg v1 b1 v2 b2, 5) else some (.normal, tm (.row 3) l next t s (kM z x15), tabX nl w cg v1 b1 v2 b2, 5) := by kernel_rfl
theorem p19 (l : Arr api_Press) (next t s z : Int) (who : Arr Int) (nl : Bool) (w : Arr Int) (cg : calls_cage) (v1 : Value) (b1 : List (Nat × Obj)) (v2 : Value) (b2 : List (Nat × Obj)) :
    codeK (R := Exit × List SV × Tab × Nat) E.Θ (noCal E) (fun _ _ _ => Option.none) wr19 ⟨tm (.row 3) l next t s (kM z (slC intC who)), tabX nl w cg v1 b1 v2 b2, 5⟩ (fun e S' => some (e, clrs [] S'.tmps, S'.tab, S'.nx)) =
      some (.normal, tm (.row 3) l next t s (iM z who ((0 : Nat) : Int)), tabX nl w cg v1 b1 v2 b2, 5) := by kernel_rfl
def rowW (nl : Bool) (w : Arr Int) (i : Int) (x : Int) : Ent := .row nl (ckPut intC.sg 0 [.int .i64 x]) intC.size w.n (setCs i.toNat 0 (Cod.cell intC w.f) [.int .i64 x])
def tabW (e : Ent) (cg : calls_cage) (v1 : Value) (b1 : List (Nat × Obj)) (v2 : Value) (b2 : List (Nat × Obj)) : Tab := [(0, e), (2, .blk (Cod.enc calls_cageC cg)), (3, .fx v1 b1), (4, .fx v2 b2)]
theorem pI (l : Arr api_Press) (next t s z : Int) (who : Arr Int) (k : Nat) (nl : Bool) (w : Arr Int) (cg : calls_cage) (v1 : Value) (b1 : List (Nat × Obj)) (v2 : Value) (b2 : List (Nat × Obj)) :
    codeK (R := Exit × List SV × Tab × Nat) E.Θ (noCal E) (fun _ _ _ => Option.none) wrI ⟨tm (.row 3) l next t s (iM z who k), tabX nl w cg v1 b1 v2 b2, 5⟩ (fun e S' => some (e, clrs [17, 98, 99, 100, 101, 102, 103, 104, 105, 106, 107, 108, 109, 110, 111] S'.tmps, S'.tab, S'.nx)) =
      bif decide ((k : Int) < (who.n : Int)) then
        bif decide (0 ≤ (k : Int)) && decide ((k : Int) < (who.n : Int)) then
          bif decide (0 ≤ who.f k) && decide (who.f k < (l.n : Int)) then
            bif decide (0 ≤ who.f k) && decide (who.f k < (w.n : Int)) then
              some (.normal, tm (.row 3) l next t s (iM z who (w64 ((k : Int) + 1))), tabW (rowW nl w (who.f k) (wVal l t (who.f k).toNat)) cg v1 b1 v2 b2, 5)
            else Option.none
          else Option.none
        else Option.none
      else some (.exit 6, tm (.row 3) l next t s (iM z who k), tabX nl w cg v1 b1 v2 b2, 5) := by kernel_rfl
theorem bit_eq (s z : Int) : (andV s z == 0) = !(wBit s z) := by simp [wBit, andV]
theorem w64_succ {k : Nat} (h : k < 1073741824) : w64 ((k : Int) + 1) = ((k + 1 : Nat) : Int) := by
  rw [w64_eq (by omega) (by omega)]
  rfl
def spW : Sp := ⟨[], [(0, eRow intC), (2, eId), (3, eId), (4, eId)]⟩
theorem spW_ok : spW.Ok := ⟨allNil, (eCons (eRow_ok intC_ok) (eCons eId_ok (eCons eId_ok (eCons eId_ok eNil))))⟩
section
variable {l : Arr api_Press} {next t s : Int} {nl : Bool} {cg : calls_cage} {v1 : Value} {b1 : List (Nat × Obj)} {v2 : Value} {b2 : List (Nat × Obj)} {c0 : Cx} {dfs : List Deferred} {Q : Exit → Act → World → Prop}
theorem inner_rounds (hK : ∀ id, c0.K id → id < 0) {z : Int} {w who : Arr Int} (hn : who.n ≤ 1073741824) (hw : ∀ j, j < who.n → 0 ≤ who.f j ∧ who.f j < w.n ∧ who.f j < l.n)
    (hQ : ∀ c a, Rel dfs c ⟨tm (.row 3) l next t s (iM z who who.n), tabX nl (wIn l t w who who.n) cg v1 b1 v2 b2, 5⟩ a → Trans c0 c → Q (.exit 6) a c.w) :
    ∀ (d k : Nat) (c : Cx) (a : Act), k + d = who.n → Rel dfs c ⟨tm (.row 3) l next t s (iM z who k), tabX nl (wIn l t w who k) cg v1 b1 v2 b2, 5⟩ a → Trans c0 c → roundsA E.P wrI Q (d + 1) a c.w := by
  intro d
  induction d with
  | zero =>
    intro k c a hk hr ht
    have hk : k = who.n := by omega
    subst hk
    refine roundsA_succ ?_
    refine piece_clr (T := tm (.row 3) l next t s (iM z who who.n)) (tab := tabX nl (wIn l t w who who.n) cg v1 b1 v2 b2) (nx := 5) (e := .exit 6) hE [17, 98, 99, 100, 101, 102, 103, 104, 105, 106, 107, 108, 109, 110, 111] codes.2.2 ((pI l next t s z who who.n nl (wIn l t w who who.n) cg v1 b1 v2 b2).trans ?_) c0 c a _ hK hr ht fun c' a' hr' ht' => hQ c' a' hr' ht'
    have h1 : decide ((who.n : Int) < (who.n : Int)) = false := by simp
    rw [h1]
    rfl
  | succ d ih =>
    intro k c a hk hr ht
    have hlt : k < who.n := by omega
    obtain ⟨h1, h2, h3⟩ := hw k hlt
    refine roundsA_succ ?_
    refine piece_clr (T := tm (.row 3) l next t s (iM z who (w64 ((k : Int) + 1)))) (tab := tabW (rowW nl (wIn l t w who k) (who.f k) (wVal l t (who.f k).toNat)) cg v1 b1 v2 b2) (nx := 5) (e := .normal) hE [17, 98, 99, 100, 101, 102, 103, 104, 105, 106, 107, 108, 109, 110, 111] codes.2.2 ((pI l next t s z who k nl (wIn l t w who k) cg v1 b1 v2 b2).trans ?_) c0 c a _ hK hr ht fun c' a' hr' ht' => ?_
    · have e1 : decide ((k : Int) < (who.n : Int)) = true := by simpa using hlt
      have e2 : decide (0 ≤ (k : Int)) = true := by simp
      have e3 : decide (0 ≤ who.f k) = true := by simpa using h1
      have e4 : decide (who.f k < (l.n : Int)) = true := by simpa using h3
      have e5 : decide (who.f k < ((wIn l t w who k).n : Int)) = true := by
        have : (wIn l t w who k).n = w.n := rfl
        rw [this]
        simpa using h2
      simp only [e1, e2, e3, e4, e5, Bool.and_self, cond_true]
    · obtain ⟨c2, w2, t2, r2⟩ := hr'.retab spW_ok (by kernel_rfl)
      have hs : spW.tab (tabW (rowW nl (wIn l t w who k) (who.f k) (wVal l t (who.f k).toNat)) cg v1 b1 v2 b2) = tabX nl (wIn l t w who (k + 1)) cg v1 b1 v2 b2 := by
        have hf : who.f k = ((who.f k).toNat : Int) := by omega
        have hw := wIn_succ (l := l) (t := t) (w := w) hf
        refine Eq.trans (b := tabX nl (lst intC w.n (setCs (who.f k).toNat 0 (Cod.cell intC (wIn l t w who k).f) [.int .i64 (wVal l t (who.f k).toNat)])) cg v1 b1 v2 b2) (by kernel_rfl) ?_
        rw [hw]
      have r2 : Rel dfs c2 ⟨tm (.row 3) l next t s (iM z who (w64 ((k : Int) + 1))), spW.tab (tabW (rowW nl (wIn l t w who k) (who.f k) (wVal l t (who.f k).toNat)) cg v1 b1 v2 b2), 5⟩ a' := r2
      rw [hs, w64_succ (by omega)] at r2
      have := ih (k + 1) c2 a' (by omega) r2 (ht'.trans t2)
      rw [w2] at this
      exact this
end
section
variable {l : Arr api_Press} {next t s : Int} {nl : Bool} {cg : calls_cage} {c0 : Cx} {dfs : List Deferred} {Q : Exit → Act → World → Prop} {m : Fm Int} {bm clock r : Nat} {X : Int → Nat} {O : Nat → Obj} {es0 : List MapEntry} {wv : Arr Int}
def lS (l : Arr api_Press) (next t s : Int) (nl : Bool) (cg : calls_cage) (w : Arr Int) (bm r : Nat) (b1 : List (Nat × Obj)) (it : Obj) (mid : List SV) : St := ⟨tm (.row 3) l next t s mid, tabX nl w cg (.map (some bm)) b1 (.pointer (some ⟨r, 0, Option.none⟩)) [(r, it)], 5⟩
theorem fx1 {c : Cx} {a : Act} {w : Arr Int} {b1 : List (Nat × Obj)} {it : Obj} {mid : List SV} (hr : Rel dfs c (lS l next t s nl cg w bm r b1 it mid) a) :
    c.en 3 = some (.fx (.map (some bm)) b1) ∧ c.u 3 = .map (some bm) ∧ (∀ p ∈ b1, (c.o 3).x p.1 ∧ c.w.heap[p.1]? = some p.2) ∧ a.tmps.getD 8 Go.undef = .map (some bm) := by
  have h1 : c.en 3 = some (.fx (.map (some bm)) b1) := (hr.en 3).trans (by kernel_rfl)
  obtain ⟨_, g2, g3⟩ := hr.ho.ents 3 _ h1
  have h8 : Den c (.row 3) (a.tmps.getD 8 Go.undef) := hr.sl 8
  exact ⟨h1, g2, g3, (h8.row_inv h1).trans g2⟩
theorem fx2 {c : Cx} {a : Act} {w : Arr Int} {b1 : List (Nat × Obj)} {it : Obj} {mid : List SV} (hr : Rel dfs c (lS l next t s nl cg w bm r b1 it mid) a) :
    c.en 4 = some (.fx (.pointer (some ⟨r, 0, Option.none⟩)) [(r, it)]) ∧ c.u 4 = .pointer (some ⟨r, 0, Option.none⟩) ∧ (c.o 4).x r ∧ c.w.heap[r]? = some it := by
  have h1 : c.en 4 = some (.fx (.pointer (some ⟨r, 0, Option.none⟩)) [(r, it)]) := (hr.en 4).trans (by kernel_rfl)
  obtain ⟨_, g2, g3⟩ := hr.ho.ents 4 _ h1
  obtain ⟨g4, g5⟩ := g3 (r, it) (by simp)
  exact ⟨h1, g2, g4, g5⟩
theorem size115 {dfs : List Deferred} {c : Cx} {S : St} {a : Act} (hr : Rel dfs c S a) (h : S.tmps.length = 115) : a.tmps.size = 115 := by rw [← hr.len]; exact h
theorem iter_set {c : Cx} {a : Act} {w : Arr Int} {b1 : List (Nat × Obj)} {it it' : Obj} {mid : List SV} (hr : Rel dfs c (lS l next t s nl cg w bm r b1 it mid) a) {w1 : World} (hw1 : w1 = c.w ∨ w1 = c.w.drew) :
    ∃ c1 : Cx, c1.w = setBlock w1 r it' ∧ Trans c c1 ∧ Rel dfs c1 (lS l next t s nl cg w bm r b1 it' mid) a := by
  obtain ⟨g1, g2, g3, g4⟩ := fx2 hr
  have hh : w1.heap = c.w.heap ∧ w1.os = c.w.os ∧ w1.tape = c.w.tape ∧ w1.output = c.w.output := by rcases hw1 with rfl | rfl <;> exact ⟨rfl, rfl, rfl, rfl⟩
  have hlt : r < w1.heap.size := by rw [hh.1]; exact (Array.getElem?_eq_some_iff.1 g4).1
  obtain ⟨c1, k1, k2, k3, k4, k5, _⟩ := fx_set (w' := setBlock w1 r it') hr.ho g1 [(r, it')] (fun _ => False) (fun k => k = r) hh.2.1 hh.2.2.1 hh.2.2.2 (by simp [setBlock, hh.1]) (fun k hk => ⟨it, by simp [hk]⟩)
    (fun k hk => by
      have : r ≠ k := fun h => hk h.symm
      simp [setBlock, this, hh.1]) (fun k hk => hk.elim) (fun p hp => by
      simp only [List.mem_singleton] at hp
      subst hp
      exact ⟨fun h => h, ⟨it, by simp⟩, by simp [setBlock, hlt]⟩)
  refine ⟨c1, k1, k3, ?_⟩
  have h2 := hr.ctx (tab := tput (lS l next t s nl cg w bm r b1 it mid).tab 4 (.fx (.pointer (some ⟨r, 0, Option.none⟩)) [(r, it')])) (nx := 5) k3 k2 (fun id => by rw [k4 id, hr.en id, tget_tput]) (fun id hid => hr.K id ((k5 id).1 hid))
  have h3 : tput (lS l next t s nl cg w bm r b1 it mid).tab 4 (.fx (.pointer (some ⟨r, 0, Option.none⟩)) [(r, it')]) = (lS l next t s nl cg w bm r b1 it' mid).tab := by kernel_rfl
  rw [h3] at h2
  exact h2
theorem map_set {c : Cx} {a : Act} {w : Arr Int} {b1 b1' : List (Nat × Obj)} {it : Obj} {mid : List SV} (hr : Rel dfs c (lS l next t s nl cg w bm r b1 it mid) a) (Fz T : Nat → Prop) {w' : World} (hos : w'.os = c.w.os) (htp : w'.tape = c.w.tape) (hout : w'.output = c.w.output) (hsz : w'.heap.size = c.w.heap.size)
    (hT : ∀ k, T k → ∃ o, (k, o) ∈ b1) (hsame : ∀ k, ¬ T k → w'.heap[k]? = c.w.heap[k]?) (hFz : ∀ k, Fz k → ∃ o, (k, o) ∈ b1) (hbs : ∀ p ∈ b1', ¬ Fz p.1 ∧ (∃ o, (p.1, o) ∈ b1) ∧ w'.heap[p.1]? = some p.2) :
    ∃ c1 : Cx, c1.w = w' ∧ Trans c c1 ∧ Rel dfs c1 (lS l next t s nl cg w bm r b1' it mid) a ∧ ∀ k, Fz k → c1.Z k := by
  obtain ⟨g1, _⟩ := fx1 hr
  obtain ⟨c1, k1, k2, k3, k4, k5, k6⟩ := fx_set (w' := w') hr.ho g1 b1' Fz T hos htp hout hsz hT hsame hFz hbs
  refine ⟨c1, k1, k3, ?_, k6⟩
  have h2 := hr.ctx (tab := tput (lS l next t s nl cg w bm r b1 it mid).tab 3 (.fx (.map (some bm)) b1')) (nx := 5) k3 k2 (fun id => by rw [k4 id, hr.en id, tget_tput]) (fun id hid => hr.K id ((k5 id).1 hid))
  have h3 : tput (lS l next t s nl cg w bm r b1 it mid).tab 3 (.fx (.map (some bm)) b1') = (lS l next t s nl cg w bm r b1' it mid).tab := by kernel_rfl
  rw [h3] at h2
  exact h2
theorem mem_left {es : List MapEntry} {seen : Array Nat} {e : MapEntry} (h : e ∈ (leftOf es.toArray seen).toList) : e ∈ es ∧ seen.contains e.born = false := by
  unfold leftOf at h
  simp at h
  exact ⟨h.1, by simpa using h.2⟩
def Inv (dfs : List Deferred) (l : Arr api_Press) (next t s : Int) (nl : Bool) (cg : calls_cage) (c0 : Cx) (m : Fm Int) (bm clock r : Nat) (X : Int → Nat) (O : Nat → Obj) (es0 : List MapEntry) (wv : Arr Int) (n : Nat) (a : Act) (w : World) : Prop :=
  ∃ c es seen, c.w = w ∧ Trans c0 c ∧ WrJ m s es0 es seen ∧ n = wrLeft es seen ∧ Rel dfs c (lS l next t s nl cg (wAcc l t wv m es0 es) bm r (wrBs bm clock X O es es) (.mapIter (some bm) clock seen clock) lM) a
theorem mem_bs {bm clock : Nat} {X : Int → Nat} {O : Nat → Obj} {me es : List MapEntry} {p : Nat × Obj} : p ∈ wrBs bm clock X O me es ↔ p = (bm, .map me.toArray clock) ∨ ∃ e ∈ es, p = (X (keyZ e), O (X (keyZ e))) := by
  simp only [wrBs, List.mem_cons, List.mem_map]
  exact or_congr_right ⟨fun ⟨e, h1, h2⟩ => ⟨e, h1, h2.symm⟩, fun ⟨e, h1, h2⟩ => ⟨e, h1, h2.symm⟩⟩
theorem round_ok (h0 : Wr0 m bm clock X O es0) (hc : wCond l s wv m) (hK : ∀ id, c0.K id → id < 0)
    (hexit : ∀ c a es seen, Trans c0 c → WrJ m s es0 es seen → (∀ e ∈ es, seen.contains e.born = true) → Rel dfs c (lS l next t s nl cg (wAcc l t wv m es0 es) bm r (wrBs bm clock X O es es) (.mapIter (some bm) clock seen clock) lM) a → Q (.exit 4) a c.w)
    (n : Nat) (a : Act) (w : World) (hI : Inv dfs l next t s nl cg c0 m bm clock r X O es0 wv n a w) : wpA E.P wrL (Exit.then (fun a' w' => ∃ n', n' < n ∧ Inv dfs l next t s nl cg c0 m bm clock r X O es0 wv n' a' w') Q) a w := by
  obtain ⟨c, es, seen, rfl, ht, hJ, rfl, hr⟩ := hI
  have ha : a.tmps.size = 115 := size115 hr (by kernel_rfl)
  obtain ⟨e1, u1, p1, v8⟩ := fx1 hr
  obtain ⟨e2, u2, x2, hit⟩ := fx2 hr
  have hmap : c.w.heap[bm]? = some (.map es.toArray clock) := (p1 (bm, .map es.toArray clock) (by simp [wrBs])).2
  have h84 : Den c (.row 4) (a.tmps.getD 84 Go.undef) := hr.sl 84
  have v84 : a.tmps.getD 84 Go.undef = .pointer (some ⟨r, 0, Option.none⟩) := (h84.row_inv e2).trans u2
  have hsub := hJ.sub.subset
  have hst : (es.map (·.born)).Nodup := h0.stamps.sublist (hJ.sub.map _)
  rw [wrL_eq]
  refine wpA_seq (wpA_region_list ?_)
  rw [ops16]
  have o0 : (opAt wr16 0).op = .next (.tmp 84) false := by kernel_rfl
  have o1 : (opAt wr16 1).op = .extract (.tmp 85) 0 := by kernel_rfl
  have d0 : (opAt wr16 0).dst = some 85 := by kernel_rfl
  have d1 : (opAt wr16 1).dst = some 86 := by kernel_rfl
  rcases run_next_at (P := E.P) c.w (opAt wr16 0).type r bm clock clock seen es.toArray clock hit hmap (fun x hx => h0.born x (hsub (by simpa using hx))) (Nat.le_refl _) with ⟨hz, hrun⟩ | ⟨e, he, w1, hw1, hrun⟩
  · refine listA_hand (v := .tuple #[.bool false]) (w' := c.w) (by kernel_rfl) (by simp only [execOp, o0, eval_tmp, v84, Sem.run_bind, hrun, Result.andThen_ok]; rfl) ?_
    rw [d0]
    refine listA_hand (v := .bool false) (w' := c.w) (by kernel_rfl) (run_extract (vs := #[.bool false]) o1 (by rw [eval_tmp, getD_put (by omega)]; simp) rfl) ?_
    rw [d1]
    refine listA_nil ?_
    show wpA _ _ _ _ _
    refine wpA_seq (wpA_cond_false (by rw [eval_tmp, getD_put (by rw [put_size]; omega)]; simp) (wpA_exit ?_))
    have r1 := (hr.put (d := 85) (s := .undef) (v := .tuple #[.bool false]) (.und _)).put (d := 86) (s := .undef) (v := .bool false) (.und _)
    refine hexit c _ es seen ht hJ (fun e he => ?_) r1
    cases hs : seen.contains e.born with
    | true => rfl
    | false =>
      have hmem : e ∈ (leftOf es.toArray seen) := by
        unfold leftOf
        simp only [Array.mem_filter]
        exact ⟨by simpa using he, by rw [hs]; rfl⟩
      rw [Array.eq_empty_of_size_eq_zero hz] at hmem
      simp at hmem
  · obtain ⟨hees, hns⟩ := mem_left he
    have hee0 := hsub hees
    obtain ⟨hkey, hhas⟩ := h0.own e hee0
    obtain ⟨hz0, hzn, hzw⟩ := hc _ hhas
    obtain ⟨cA, wA, tA, rA⟩ := iter_set (it' := .mapIter (some bm) clock (seen.push e.born) clock) hr hw1
    have htA := ht.trans tA
    refine listA_hand (v := .tuple #[.bool true, e.key, e.val]) (w' := cA.w) (by kernel_rfl) (by rw [wA]; simp only [execOp, o0, eval_tmp, v84, Sem.run_bind, hrun, Result.andThen_ok]; rfl) ?_
    rw [d0]
    refine listA_hand (v := .bool true) (w' := cA.w) (by kernel_rfl) (run_extract (vs := #[.bool true, e.key, e.val]) o1 (by rw [eval_tmp, getD_put (by omega)]; simp) rfl) ?_
    rw [d1]
    refine listA_nil ?_
    show wpA _ _ _ _ _
    refine wpA_seq (wpA_cond_true (by rw [eval_tmp, getD_put (by rw [put_size]; omega)]; simp) (wpA_skip ?_))
    refine wpA_block ?_
    rw [wrB_eq]
    refine wpA_seq (wpA_region_list ?_)
    rw [ops17]
    have q0 : (opAt wr17 0).op = .entry (.tmp 84) := by kernel_rfl
    have q1 : (opAt wr17 1).op = .extract (.tmp 87) 0 := by kernel_rfl
    have q2 : (opAt wr17 2).op = .extract (.tmp 87) 1 := by kernel_rfl
    have q3 : (opAt wr17 3).op = .assign (.tmp 88) := by kernel_rfl
    have q4 : (opAt wr17 4).op = .assign (.tmp 89) := by kernel_rfl
    have f0 : (opAt wr17 0).dst = some 87 := by kernel_rfl
    have f1 : (opAt wr17 1).dst = some 88 := by kernel_rfl
    have f2 : (opAt wr17 2).dst = some 89 := by kernel_rfl
    have f3 : (opAt wr17 3).dst = some 14 := by kernel_rfl
    have f4 : (opAt wr17 4).dst = some 15 := by kernel_rfl
    obtain ⟨_, _, p1A, _⟩ := fx1 rA
    obtain ⟨_, _, _, hitA⟩ := fx2 rA
    have hmapA : cA.w.heap[bm]? = some (.map es.toArray clock) := (p1A (bm, .map es.toArray clock) (by simp [wrBs])).2
    have hent := run_entry_at (P := E.P) cA.w r bm clock seen es.toArray clock e hitA hmapA (by simpa using hees) (by simpa using hst)
    generalize ha1 : (a.put (some 85) (.tuple #[.bool true, e.key, e.val])).put (some 86) (.bool true) = a1
    have hs1 : a1.tmps.size = 115 := by rw [← ha1, put_size, put_size, ha]
    have r1 : Rel dfs cA (lS l next t s nl cg (wAcc l t wv m es0 es) bm r (wrBs bm clock X O es es) (.mapIter (some bm) clock (seen.push e.born) clock) lM) a1 := by
      rw [← ha1]
      exact (rA.put (d := 85) (s := .undef) (v := .tuple #[.bool true, e.key, e.val]) (.und _)).put (d := 86) (s := .undef) (v := .bool true) (.und _)
    have h84' : Den cA (.row 4) (a1.tmps.getD 84 Go.undef) := r1.sl 84
    obtain ⟨e2A, u2A, _, _⟩ := fx2 r1
    have v84' : a1.tmps.getD 84 Go.undef = .pointer (some ⟨r, 0, Option.none⟩) := (h84'.row_inv e2A).trans u2A
    refine listA_hand (v := .tuple #[e.key, e.val]) (w' := cA.w) (by kernel_rfl) (by simp only [execOp, q0, eval_tmp, v84', Sem.run_bind, hent, Result.andThen_ok]; rfl) ?_
    rw [f0]
    refine listA_hand (v := e.key) (w' := cA.w) (by kernel_rfl) (run_extract (vs := #[e.key, e.val]) q1 (by rw [eval_tmp, getD_put (by omega)]; simp) rfl) ?_
    rw [f1]
    refine listA_hand (v := e.val) (w' := cA.w) (by kernel_rfl) (run_extract (vs := #[e.key, e.val]) q2 (by rw [eval_tmp, getD_put (by rw [put_size]; omega), getD_put (by omega)]; simp) rfl) ?_
    rw [f2]
    refine listA_hand (v := e.key) (w' := cA.w) (by kernel_rfl) ((run_move (.inr q3)).trans (by rw [eval_tmp, getD_put (by rw [put_size, put_size]; omega), getD_put (by rw [put_size]; omega)]; simp)) ?_
    rw [f3]
    refine listA_hand (v := e.val) (w' := cA.w) (by kernel_rfl) ((run_move (.inr q4)).trans (by rw [eval_tmp, getD_put (by rw [put_size, put_size, put_size]; omega), getD_put (by rw [put_size, put_size]; omega)]; simp)) ?_
    rw [f4]
    have r2 : Rel dfs cA (lS l next t s nl cg (wAcc l t wv m es0 es) bm r (wrBs bm clock X O es es) (.mapIter (some bm) clock (seen.push e.born) clock) (kM (keyZ e) .undef)) (((((a1.put (some 87) (.tuple #[e.key, e.val])).put (some 88) e.key).put (some 89) e.val).put (some 14) e.key).put (some 15) e.val) := by
      refine ((((r1.put (d := 87) (s := .undef) (v := .tuple #[e.key, e.val]) (.und _)).put (d := 88) (s := .undef) (v := e.key) (.und _)).put (d := 89) (s := .undef) (v := e.val) (.und _)).put (d := 14) (s := .int .i64 (keyZ e)) (v := e.key) ?_).put (d := 15) (s := .undef) (v := e.val) (.und _)
      rw [hkey]
      exact .g _ _ (.int _ _)
    have v15 : ((((((a1.put (some 87) (.tuple #[e.key, e.val])).put (some 88) e.key).put (some 89) e.val).put (some 14) e.key).put (some 15) e.val)).tmps.getD 15 Go.undef = e.val := by rw [getD_put (by simp only [put_size]; omega)]; simp
    generalize (((((a1.put (some 87) (.tuple #[e.key, e.val])).put (some 88) e.key).put (some 89) e.val).put (some 14) e.key).put (some 15) e.val) = a2 at r2 v15
    have hneg : decide (keyZ e < 0) = false := by simp; omega
    refine listA_nil ?_
    show wpA _ _ _ _ _
    refine wpA_seq ?_
    cases hb : wBit s (keyZ e) with
    | false =>
      refine piece_clr (e := .exit 5) (T := tm (.row 3) l next t s (kM (keyZ e) .undef)) (tab := tabX nl (wAcc l t wv m es0 es) cg (.map (some bm)) (wrBs bm clock X O es es) (.pointer (some ⟨r, 0, Option.none⟩)) [(r, .mapIter (some bm) clock (seen.push e.born) clock)]) (nx := 5) hE [90, 91, 92, 93, 94] codes.1 ((p18 l next t s (keyZ e) .undef nl _ cg _ _ _ _).trans (by rw [hneg, bit_eq, hb]; rfl)) c0 cA a2 _ hK r2 htA fun c' a' hr' ht' => ?_
      exact ⟨_, wrLeft_see hees hns, c', es, seen.push e.born, rfl, ht', hJ.see hb h0.stamps hees, rfl, hr'.clrs [14]⟩
    | true =>
      have hpr : ∀ p ∈ wrBs bm clock X O es (wrDel es e), p ∈ wrBs bm clock X O es es := fun p hp => by
        rcases mem_bs.1 hp with h | ⟨e', h1, h2⟩
        · exact mem_bs.2 (.inl h)
        · exact mem_bs.2 (.inr ⟨e', (mem_del.1 h1).1, h2⟩)
      obtain ⟨cB, wB, tB, rB, zB⟩ := map_set (b1' := wrBs bm clock X O es (wrDel es e)) r2 (fun k => k = X (keyZ e)) (fun _ => False) (w' := cA.w) rfl rfl rfl rfl (fun k hk => hk.elim) (fun _ _ => rfl) (fun k hk => ⟨O (X (keyZ e)), mem_bs.2 (.inr ⟨e, hees, by rw [show k = X (keyZ e) from hk]⟩)⟩) (fun p hp => by
        refine ⟨fun hX => ?_, ⟨p.2, hpr p hp⟩, (p1A p (hpr p hp)).2⟩
        rcases mem_bs.1 hp with rfl | ⟨e', h1, rfl⟩
        · exact h0.ne e hee0 hX.symm
        · obtain ⟨h2, h3⟩ := mem_del.1 h1
          have := h0.eq (hsub h2) hee0 (h0.inj e' (hsub h2) e hee0 hX)
          exact h3 (by rw [this]))
      have htB := htA.trans tB
      obtain ⟨cap, arr, ety, y1, y2, y3, y4, y5⟩ := h0.val e hee0
      have hblk : cB.w.heap[X (keyZ e)]? = some (.cells arr ety (0, 0)) := by
        rw [wB, ← y2]
        exact (p1A _ (mem_bs.2 (.inr ⟨e, hees, rfl⟩))).2
      have rC : Rel dfs cB (lS l next t s nl cg (wAcc l t wv m es0 es) bm r (wrBs bm clock X O es (wrDel es e)) (.mapIter (some bm) clock (seen.push e.born) clock) (kM (keyZ e) (slC intC (m.at_ (keyZ e))))) a2 := by
        refine rB.know (d := 15) (s := slC intC (m.at_ (keyZ e))) ?_
        rw [v15, y1]
        refine .g _ _ (.sl _ _ _ _ _ _ (fun i _ => .int .i64 ((m.at_ (keyZ e)).f i)) y3 (fun i j _ hj => intC_ok.ck _ j hj) (fun _ => ⟨_, rfl, zB _ rfl⟩) (fun ad had i j hi hj => ?_) (fun i j hi hj => ?_))
        · injection had with had
          subst had
          have hj0 : j = 0 := by simp [intC] at hj; omega
          subst hj0
          rw [add_mk, cell_of hblk]
          simpa [intC] using y5 i hi
        · have hj0 : j = 0 := by simp [intC] at hj; omega
          subst hj0
          exact .int _ _
      rw [← wB]
      refine piece_clr (e := .normal) (T := tm (.row 3) l next t s (kM (keyZ e) (slC intC (m.at_ (keyZ e))))) (tab := tabX nl (wAcc l t wv m es0 es) cg (.map (some bm)) (wrBs bm clock X O es (wrDel es e)) (.pointer (some ⟨r, 0, Option.none⟩)) [(r, .mapIter (some bm) clock (seen.push e.born) clock)]) (nx := 5) hE [90, 91, 92, 93, 94] codes.1 ((p18 l next t s (keyZ e) (slC intC (m.at_ (keyZ e))) nl _ cg _ _ _ _).trans (by rw [hneg, bit_eq, hb]; rfl)) c0 cB a2 _ hK rC htB fun c3 a3 r3 t3 => ?_
      refine wpA_seq (wpA_seq ?_)
      refine piece_clr (e := .normal) (T := tm (.row 3) l next t s (iM (keyZ e) (m.at_ (keyZ e)) ((0 : Nat) : Int))) (tab := tabX nl (wAcc l t wv m es0 es) cg (.map (some bm)) (wrBs bm clock X O es (wrDel es e)) (.pointer (some ⟨r, 0, Option.none⟩)) [(r, .mapIter (some bm) clock (seen.push e.born) clock)]) (nx := 5) hE [] codes.2.1 (p19 l next t s (keyZ e) (m.at_ (keyZ e)) nl _ cg _ _ _ _) c0 c3 a3 _ hK r3 t3 fun c4 a4 r4 t4 => ?_
      refine wpA_block (wpA_loop_rounds ((m.at_ (keyZ e)).n + 1) (inner_rounds (l := l) (next := next) (t := t) (s := s) (nl := nl) (cg := cg) (w := wAcc l t wv m es0 es) (who := m.at_ (keyZ e)) (z := keyZ e) (v1 := .map (some bm)) (b1 := wrBs bm clock X O es (wrDel es e)) (v2 := .pointer (some ⟨r, 0, Option.none⟩)) (b2 := [(r, .mapIter (some bm) clock (seen.push e.born) clock)]) hK hzn (hzw hb) (fun c5 a5 r5 t5 => ?_) (m.at_ (keyZ e)).n 0 c4 a4 (by omega) (by rw [wIn_zero]; exact r4) t4))
      show wpA _ _ _ _ _
      refine wpA_region_list ?_
      rw [ops24]
      rw [wAcc_step h0.stamps hee0] at r5
      have r5 : Rel dfs c5 (lS l next t s nl cg (wAcc l t wv m es0 (wrDel es e)) bm r (wrBs bm clock X O es (wrDel es e)) (.mapIter (some bm) clock (seen.push e.born) clock) (iM (keyZ e) (m.at_ (keyZ e)) ((m.at_ (keyZ e)).n : Int))) a5 := r5
      have ha5 : a5.tmps.size = 115 := size115 r5 (by kernel_rfl)
      obtain ⟨e15, u15, p15, v85⟩ := fx1 r5
      have hmap5 : c5.w.heap[bm]? = some (.map es.toArray clock) := (p15 (bm, .map es.toArray clock) (by simp [wrBs])).2
      have h14 : Den c5 (.int .i64 (keyZ e)) (a5.tmps.getD 14 Go.undef) := r5.sl 14
      have v14 := h14.int_inv
      have g0 : (opAt wr24 0).op = .move (.tmp 8) := by kernel_rfl
      have g1 : (opAt wr24 1).op = .move (.tmp 14) := by kernel_rfl
      have g2 : (opAt wr24 2).op = .call ⟨.builtin .delete, #[.tmp 112, .tmp 113], #[96, 3]⟩ := by kernel_rfl
      have j0 : (opAt wr24 0).dst = some 112 := by kernel_rfl
      have j1 : (opAt wr24 1).dst = some 113 := by kernel_rfl
      have j2 : (opAt wr24 2).dst = Option.none := by kernel_rfl
      have ht3 : E.Θ.get 3 = some ⟨.int .i64, 1, 8, [.int .i64 0]⟩ := by kernel_rfl
      have hnk : nestTy E.Θ 20 3 = true := by kernel_rfl
      have hkeys : ∀ x ∈ es, ∃ z, x.key = .int .i64 z ∧ m.has z = true := fun x hx => ⟨keyZ x, h0.own x (hsub hx)⟩
      have hck : (Instr.checkKey es.toArray.isEmpty 10000 3 (.int .i64 (keyZ e))).run E.P c5.w = .ok () c5.w := checkKey_nest hE.ty es.toArray.isEmpty 20 3 hnk 10000 (by omega) _ ht3 c5.w [.int .i64 (keyZ e)] (int_keyCells .i64 (keyZ e))
      have hfk := findKey_nest hE.ty (n := 20) (by omega) hnk ht3 (int_keyCells .i64 (keyZ e)) c5.w es (keys_int hkeys)
      refine listA_hand (v := .map (some bm)) (w' := c5.w) (by kernel_rfl) ((run_move (.inl g0)).trans (by rw [eval_tmp, v85])) ?_
      rw [j0]
      refine listA_hand (v := .int .i64 (keyZ e)) (w' := c5.w) (by kernel_rfl) ((run_move (.inl g1)).trans (by rw [eval_tmp, getD_put (by omega)]; simp only [show ((14 : Nat) = 112) = False by simp, if_false, v14])) ?_
      rw [j1]
      rcases hfk with ⟨_, hno⟩ | ⟨i, x, hf, hi, hx⟩
      · exact absurd hkey (hno e hees)
      have hx : x.key = .int .i64 (keyZ e) := hx
      have hxe : x = e := pairwise_key (h0.apart.sublist hJ.sub) (List.mem_of_getElem? hi) hees (hx.trans hkey.symm)
      subst hxe
      have hf : (Instr.findKey 3 (.int .i64 (keyZ x)) es.toArray.toList).run E.P c5.w = .ok (some (i, x.val)) c5.w := hf
      have hdel := run_delete_int ty96 hmap5 hck hf 3 (opAt wr24 2).type
      rw [erase_eq hst hi] at hdel
      have hlt5 : bm < c5.w.heap.size := (Array.getElem?_eq_some_iff.1 hmap5).1
      obtain ⟨c6, w6, t6, r6, _⟩ := map_set (b1' := wrBs bm clock X O (wrDel es x) (wrDel es x)) r5 (fun _ => False) (fun k => k = bm) (w' := { c5.w with heap := c5.w.heap.setIfInBounds bm (.map (wrDel es x).toArray clock) }) rfl rfl rfl (by simp) (fun k hk => ⟨.map es.toArray clock, by rw [hk]; simp [wrBs]⟩) (fun k hk => by
          have : bm ≠ k := fun h => hk h.symm
          simp [this]) (fun k hk => hk.elim) (fun p hp => by
        refine ⟨fun h => h, ?_⟩
        rcases mem_bs.1 hp with rfl | ⟨e', h1, rfl⟩
        · exact ⟨⟨.map es.toArray clock, by simp [wrBs]⟩, by simp [hlt5]⟩
        · have hq : (X (keyZ e'), O (X (keyZ e'))) ∈ wrBs bm clock X O es (wrDel es x) := mem_bs.2 (.inr ⟨e', h1, rfl⟩)
          have hne : bm ≠ X (keyZ e') := fun h => h0.ne e' (hsub (mem_del.1 h1).1) h.symm
          refine ⟨⟨_, hq⟩, ?_⟩
          have := (p15 _ hq).2
          simpa [hne] using this)
      refine listA_hand (v := .tuple #[]) (w' := c6.w) (by kernel_rfl) ?_ ?_
      · have q112 : (((a5.put (some 112) (.map (some bm))).put (some 113) (.int .i64 (keyZ x))).eval (.tmp 112)) = .map (some bm) := by
          rw [eval_tmp, getD_put (by rw [put_size]; omega), getD_put (by omega)]
          simp
        have q113 : (((a5.put (some 112) (.map (some bm))).put (some 113) (.int .i64 (keyZ x))).eval (.tmp 113)) = .int .i64 (keyZ x) := by
          rw [eval_tmp, getD_put (by rw [put_size]; omega)]
          simp
        rw [w6]
        simp [execOp, g2, resolve, invoke, builtin, q112, q113, hdel]
      · rw [j2]
        refine listA_nil ?_
        refine ⟨_, wrLeft_drop hees hns, c6, wrDel es x, seen.push x.born, rfl, t5.trans t6, hJ.drop hb h0.stamps hees, rfl, ?_⟩
        have r7 := ((r6.put (d := 112) (s := .undef) (v := .map (some bm)) (.und _)).put (d := 113) (s := .undef) (v := .int .i64 (keyZ x)) (.und _)).clrs [14, 15, 95, 96, 97]
        exact r7
end
section
variable {l : Arr api_Press} {next t s : Int} {nl : Bool} {cg : calls_cage} {w : Arr Int} {m : Fm Int} {dfs : List Deferred}
theorem sem (hc : wCond l s w m) : CodeSem E.P 0 wrC (hS l next t s nl w m cg) .normal (eS l next t s nl (wNew l t s w m) (mNew s m) cg) := by
  intro dfs c0 c a Q hK hr ht hq
  have ha : a.tmps.size = 115 := size115 hr (by kernel_rfl)
  have he : c.en 1 = some (fmE .i64 intC m) := (hr.en 1).trans (by kernel_rfl)
  obtain ⟨hxl, es0, clock, X, hu, hblk, hm⟩ := hr.ho.ents 1 _ he
  obtain ⟨h0, hX⟩ := Wr0.of hm
  have h8 : Den c (.row 1) (a.tmps.getD 8 Go.undef) := hr.sl 8
  have v8 := (h8.row_inv he).trans hu
  have hlt : c.b 1 < c.w.heap.size := (Array.getElem?_eq_some_iff.1 hblk).1
  rw [wrC_eq]
  refine wpA_seq (wpA_region_list ?_)
  rw [ops15]
  have o0 : (opAt wr15 0).op = .move (.tmp 8) := by kernel_rfl
  have o1 : (opAt wr15 1).op = .range 96 (.tmp 83) := by kernel_rfl
  have d0 : (opAt wr15 0).dst = some 83 := by kernel_rfl
  have d1 : (opAt wr15 1).dst = some 84 := by kernel_rfl
  generalize hbm : c.b 1 = bm at *
  generalize hO : (fun k : Nat => (c.w.heap[k]?).getD (Obj.cells #[] 0 (0, 0))) = O at h0
  have hbs : ∀ p ∈ wrBs bm clock X O es0.toList es0.toList, (p.1 = c.b 1 ∨ (c.o 1).x p.1) ∧ c.w.heap[p.1]? = some p.2 := fun p hp => by
    rcases mem_bs.1 hp with rfl | ⟨e, h1, rfl⟩
    · exact ⟨.inl hbm.symm, by simpa using hblk⟩
    · obtain ⟨g1, g2⟩ := hX e h1
      refine ⟨.inr g1, ?_⟩
      obtain ⟨o, ho⟩ := Option.isSome_iff_exists.1 g2
      simp only [← hO, ho, Option.getD_some]
  have nk : ∀ q, 3 ≤ q → ¬ c.K q := fun q hq h => by have : q < 3 := hr.K q h; omega
  obtain ⟨c1, w1, ho1, t1, en1, K1, u1, u2⟩ := fx_start hr.ho (q1 := 3) (q2 := 4) (by decide) (nk _ (by decide)) (nk _ (by decide)) he rfl rfl hxl (.map (some bm)) (wrBs bm clock X O es0.toList es0.toList) hbs (.mapIter (some bm) clock #[] clock)
  refine listA_hand (v := .map (some bm)) (w' := c.w) (by kernel_rfl) ((run_move (.inl o0)).trans (by rw [eval_tmp, v8])) ?_
  rw [d0]
  refine listA_hand (v := .pointer (some ⟨c.w.heap.size, 0, Option.none⟩)) (w' := c1.w) (by kernel_rfl) ?_ ?_
  · have q83 : (a.put (some 83) (.map (some bm))).eval (.tmp 83) = .map (some bm) := by
      rw [eval_tmp, getD_put (by omega)]
      simp
    rw [w1]
    simp only [execOp, o1, q83, Sem.run_bind, run_range_map c.w 96 3 37 bm es0 clock ty96 hblk, Result.andThen_ok]
    rfl
  rw [d1]
  have r1 := ((hr.put (d := 83) (s := .undef) (v := .map (some bm)) (.und _)).put (d := 84) (s := .undef) (v := .pointer (some ⟨c.w.heap.size, 0, Option.none⟩)) (.und _)).ctx
    (tab := tput (tput (tdel (hS l next t s nl w m cg).tab 1) 3 (.fx (.map (some bm)) (wrBs bm clock X O es0.toList es0.toList))) 4 (.fx (.pointer (some ⟨c.w.heap.size, 0, Option.none⟩)) [(c.w.heap.size, .mapIter (some bm) clock #[] clock)])) (nx := 5) t1 ho1
    (fun id => by
      rw [en1 id, tget_tput, tget_tput, tget_tdel, hr.en id]
      by_cases h1 : id = 3
      · subst h1; rfl
      · rw [if_neg h1, if_neg h1]) (fun id hid => by
      rcases (K1 id).1 hid with h | rfl | rfl
      · have : id < 3 := hr.K id h
        omega
      · decide
      · decide)
  have ha2 : ((a.put (some 83) (.map (some bm))).put (some 84) (.pointer (some ⟨c.w.heap.size, 0, Option.none⟩))).tmps.getD 8 Go.undef = .map (some bm) := by
    rw [getD_put (by rw [put_size]; omega), getD_put (by omega)]
    simpa using v8
  have ha84 : ((a.put (some 83) (.map (some bm))).put (some 84) (.pointer (some ⟨c.w.heap.size, 0, Option.none⟩))).tmps.getD 84 Go.undef = .pointer (some ⟨c.w.heap.size, 0, Option.none⟩) := by
    rw [getD_put (by rw [put_size]; omega)]
    simp
  have r2 := (r1.know (d := 8) (s := .row 3) (by rw [ha2]; exact .row _ _ ((K1 _).2 (.inr (.inl rfl))) rfl fun _ => u1.symm)).know (d := 84) (s := .row 4) (by rw [ha84]; exact .row _ _ ((K1 _).2 (.inr (.inr rfl))) rfl fun _ => u2.symm)
  generalize ((a.put (some 83) (.map (some bm))).put (some 84) (.pointer (some ⟨c.w.heap.size, 0, Option.none⟩))) = a2 at r2
  have r3 : Rel dfs c1 (lS l next t s nl cg w bm c.w.heap.size (wrBs bm clock X O es0.toList es0.toList) (.mapIter (some bm) clock #[] clock) lM) a2 := by
    exact r2.cast (by kernel_rfl)
  refine listA_nil ?_
  show wpA _ _ _ _ _
  refine wpA_block (wpA_loop_ghost (Inv dfs l next t s nl cg c0 m bm clock c.w.heap.size X O es0.toList w) (wrLeft es0.toList #[]) ⟨c1, es0.toList, #[], rfl, ht.trans t1, WrJ.zero, rfl, by rw [wAcc_zero]; exact r3⟩ (round_ok h0 hc hK fun c' a' es seen ht' hJ hend hr' => ?_))
  show Q .normal a' c'.w
  obtain ⟨e1, u1', p1, v8'⟩ := fx1 hr'
  obtain ⟨e2, u2', x2, hit⟩ := fx2 hr'
  have hsub := hJ.sub.subset
  have hbit : ∀ e ∈ es, wBit s (keyZ e) = false := fun e he => hJ.kept e he (hend e he)
  have hat : ∀ e ∈ es, (mNew s m).at_ (keyZ e) = m.at_ (keyZ e) := fun e he => by simp [mNew, hbit e he]
  have hall : ∀ z, (mNew s m).has z = true → ∃ e ∈ es, keyZ e = z := fun z hz => by
    simp only [mNew, Bool.and_eq_true, Bool.not_eq_true'] at hz
    obtain ⟨e, he, rfl⟩ := h0.all z hz.1
    refine ⟨e, Classical.byContradiction fun hn => ?_, rfl⟩
    have := hJ.gone e he hn
    rw [hz.2] at this
    cases this
  have nk' : ¬ c'.K 5 := fun h => by have : 5 < 5 := hr'.K _ h; omega
  obtain ⟨c3, w3, ho3, t3, en3, K3, u3⟩ := fx_end hr'.ho e1 e2 nk' (e := fmE .i64 intC (mNew s m)) (b := bm) (u := .map (some bm)) ⟨.map es.toArray clock, by simp [wrBs]⟩ (fun d hb hu hx hlt' hw => by
    refine ⟨hlt', es.toArray, clock, X, by rw [hu, hb], by rw [hw, hb]; exact (p1 (bm, .map es.toArray clock) (by simp [wrBs])).2, ?_⟩
    rw [hb]
    exact
      { born := fun e he => h0.born e (hsub (by simpa using he)), stamps := by simpa using h0.stamps.sublist (hJ.sub.map _), apart := by simpa using h0.apart.sublist hJ.sub
        own := fun e he => by
          have he : e ∈ es := by simpa using he
          exact ⟨keyZ e, (h0.own e (hsub he)).1, by simp [mNew, (h0.own e (hsub he)).2, hbit e he]⟩
        all := fun z hz => by
          obtain ⟨e, he, rfl⟩ := hall z hz
          exact ⟨e, by simpa using he, (h0.own e (hsub he)).1⟩
        none := fun z hz => by
          simp only [mNew, fmL]
          cases hb : wBit s z with
          | true => rfl
          | false =>
            simp only [cond_false]
            refine h0.none z ?_
            simpa [mNew, hb] using hz
        val := fun e he z hz _ => by
          have he : e ∈ es := by simpa using he
          have hkz : keyZ e = z := by simp [keyZ, hz]
          subst hkz
          obtain ⟨cap, arr, ety, y1, y2, y3, y4, y5⟩ := h0.val e (hsub he)
          obtain ⟨z1, z2⟩ := p1 _ (mem_bs.2 (.inr ⟨e, he, rfl⟩))
          refine ⟨cap, arr, ety, by simp only [fmL, hat e he]; exact y1, hx _ (mem_bs.2 (.inr ⟨e, he, rfl⟩)), h0.ne e (hsub he), by rw [hw]; rw [← y2]; exact z2, by simp only [fmL, hat e he]; exact y3, by simpa [intC] using y4, fun i j hi hj => ?_⟩
          simp only [fmL, hat e he] at hi
          have hj0 : j = 0 := by simp [intC] at hj; omega
          subst hj0
          refine ⟨_, by simpa [intC] using y5 i hi, ?_⟩
          simp only [fmG, hat e he]
          exact .int _ _
        ck := fun z _ _ i j _ hj => intC_ok.ck _ j hj
        inj := fun z z' hz hz' _ _ hXX => by
          obtain ⟨e, he, rfl⟩ := hall z hz
          obtain ⟨e', he', rfl⟩ := hall z' hz'
          exact h0.inj e (hsub he) e' (hsub he') hXX })
  rw [← w3]
  refine hq c3 a' ?_ (ht'.trans t3)
  have r4 := ((hr'.ctx (tab := tput (tdel (tdel (lS l next t s nl cg (wAcc l t w m es0.toList es) bm c.w.heap.size (wrBs bm clock X O es es) (.mapIter (some bm) clock seen clock) lM).tab 4) 3) 5 (fmE .i64 intC (mNew s m))) (nx := 6) t3 ho3 (fun id => by rw [en3 id, tget_tput, tget_tdel, tget_tdel, hr'.en id]) (fun id hid => by
      rcases (K3 id).1 hid with h | rfl
      · have : id < 5 := hr'.K id h
        omega
      · decide)).know (d := 8) (s := .row 5) (by rw [v8']; exact .row _ _ ((K3 _).2 (.inr rfl)) rfl fun _ => u3.symm)).clr 84
  rw [wAcc_end h0 hJ hend] at r4
  exact r4.cast (by kernel_rfl)
def xL : LS := ⟨[1, 2, 7, 8, 9, 10, 11], ⟨(dr 1 ((rSl api_PressC) :: (rFunc 52 0 []) :: (dr 4 ((rRow 0) :: (rRow 1) :: (rPtr 2 0) :: (rInt .i64) :: (rInt .i64) :: (dr 103 []))))), [(0, eRow intC), (1, eFm .i64 intC), (2, eBlkC calls_cageC)]⟩, 5⟩
theorem xL_ok : xL.sp.Ok := ⟨(drCons 1 (allCons (rSl_ok api_PressC_ok) (allCons (rFunc_ok 52 0 allNil) (drCons 4 (allCons (rRow_ok 0) (allCons (rRow_ok 1) (allCons (rPtr_ok 2 0) (allCons (rInt_ok .i64) (allCons (rInt_ok .i64) (drCons 103 allNil)))))))))), (eCons (eRow_ok intC_ok) (eCons (eFm_ok intC_ok) (eCons (eBlkC_ok calls_cageC_ok calls_cageC_len) eNil)))⟩
def xS (l : Arr api_Press) (next t : Int) (nl : Bool) (w : Arr Int) (m : Fm Int) (cg : calls_cage) : St :=
  ⟨(un 1 ((slC api_PressC l) :: (.func 52 0 []) :: (un 4 ((.row 0) :: (.row 1) :: (.ptr 2 0) :: (.int .i64 next) :: (.int .i64 t) :: (un 103 []))))), [(0, rowE intC nl w), (1, fmE .i64 intC m), (2, .blk (Cod.enc calls_cageC cg))], 5⟩
theorem ok {R : Type} {jm : Option R} {r : R} {S0 : St} {k : Exit → St → Option R} (h : jm = some r) (hj : jm = waitsRound l t s nl w m fun w' m' => k .normal (xS l next t nl w' m' cg)) (hS0 : S0 = hS l next t s nl w m cg) :
    ∃ e S', k e S' = some r ∧ CodeSem E.P 0 (joinAt E 51 (15, 37)) S0 e S' := by
  subst hS0
  rw [hj] at h
  unfold waitsRound at h
  by_cases hc : wCond l s w m
  · rw [if_pos hc] at h
    have h2 : xL.run 0 (eS l next t s nl (wNew l t s w m) (mNew s m) cg) (k .normal) = some r := by
      rw [← h]
      kernel_rfl
    obtain ⟨S1, h3, h4⟩ := LS.run_ok xL_ok h2
    refine ⟨.normal, S1, h3, fun c0 c a Q hK hr ht hq => sem hc c0 c a Q hK hr ht fun c' a' hr' ht' => ?_⟩
    obtain ⟨c2, r2, t2, w2⟩ := h4 c0 c' a' hK hr' ht'
    have := hq c2 a' r2 t2
    rw [w2] at this
    exact this
  · rw [if_neg hc] at h
    cases h
end
end Wr0
theorem waitsRound_ok0 (l : Arr api_Press) (next t s : Int) (nl : Bool) (w : Arr Int) (m : Fm Int) (cg : calls_cage) {R : Type} {jm : Option R} {r : R} {S0 : St} {k : Exit → St → Option R} (h : jm = some r)
    (hj : jm = waitsRound l t s nl w m fun w' m' => k .normal (Wr0.xS l next t nl w' m' cg)) (hS0 : S0 = Wr0.hS l next t s nl w m cg) :
    ∃ e S', k e S' = some r ∧ CodeSem E.P 0 (joinAt E 51 (15, 37)) S0 e S' := Wr0.ok h hj hS0
end
end Go.Proofs.Ytlphgonhenegoaa
