/- A range over a function whose iterator keeps what it is at in cells of its own, and whose rounds all go on: what each of the two may turn, and the law. -/
import Derived.Test.YtcjpmgfobnaoeaaA2
import Derived.RangeFuncNested
import Derived.RangeFuncBound
import Derived.RangeFuncCalls
import Derived.RangeFuncLeaves
import Derived.Shelf.Abstract
import Derived.Shelf.RegionOpen
import Derived.OwnWalkIn
import Derived.TacticsInMore
import Derived.LoopNIn
import Derived.LoopIn
import Derived.Sort.LoopGhostIn
namespace Go.Proofs.Ytcjpmgfobnaoeaa
open Go.RowKit Go.Shelf

/-- Cells of one of these types. -/
def InT (T : List TypeId) (o : Obj) : Prop := ∃ c t fr, o = .cells c t fr ∧ t ∈ T
theorem InT.cells {T : List TypeId} {c : Array Value} {t : TypeId} {fr : Nat × Nat} (h : t ∈ T) : InT T (.cells c t fr) := ⟨c, t, fr, rfl, h⟩
theorem InT.not {T : List TypeId} {c : Array Value} {t : TypeId} {fr : Nat × Nat} (h : t ∉ T) : ¬ InT T (.cells c t fr) := by
  rintro ⟨c', t', fr', e, h'⟩
  injection e with _ e _
  exact h (e ▸ h')
theorem InT.not_of {T : List TypeId} {o : Obj} (h : o.isCells = false) : ¬ InT T o := by
  rintro ⟨c', t', fr', rfl, h'⟩
  simp [Obj.isCells] at h

/-- What a round keeps for the iterator: cells of the types T, and all that is no cells. -/
structure KT (T : List TypeId) (n₀ : Nat) (A B : World) : Prop where
  below : Below n₀ A B
  same : ∀ (k : Nat) (o : Obj), A.heap[k]? = some o → InT T o ∨ o.isCells = false → B.heap[k]? = some o

/-- What the iterator (and the loop's own record, from block m on) keeps for the rounds: all but cells of the types T. -/
structure AT (T : List TypeId) (n₀ m : Nat) (A B : World) : Prop where
  below : Below n₀ A B
  same : ∀ (k : Nat) (o : Obj), A.heap[k]? = some o → ¬ InT T o → o.isCells = true ∨ k < m → B.heap[k]? = some o

theorem KT.refl (T : List TypeId) (n₀ : Nat) (A : World) : KT T n₀ A A := ⟨Below.refl _ _, fun _ _ h _ => h⟩
theorem KT.trans {T : List TypeId} {n₀ : Nat} {A B C : World} (h : KT T n₀ A B) (k : KT T n₀ B C) : KT T n₀ A C :=
  ⟨h.below.trans k.below, fun i o hi ho => k.same i o (h.same i o hi ho) ho⟩
theorem AT.refl (T : List TypeId) (n₀ m : Nat) (A : World) : AT T n₀ m A A := ⟨Below.refl _ _, fun _ _ h _ _ => h⟩
theorem AT.trans {T : List TypeId} {n₀ m : Nat} {A B C : World} (h : AT T n₀ m A B) (k : AT T n₀ m B C) : AT T n₀ m A C :=
  ⟨h.below.trans k.below, fun i o hi ho hm => k.same i o (h.same i o hi ho hm) ho hm⟩
theorem AT.mono {T T' : List TypeId} {n₀ m m' : Nat} {A B : World} (h : AT T n₀ m A B) (hT : ∀ t ∈ T, t ∈ T') (hm : m' ≤ m) : AT T' n₀ m' A B :=
  ⟨h.below, fun i o hi ho hk => h.same i o hi (fun ⟨c, t, fr, e, ht⟩ => ho ⟨c, t, fr, e, hT t ht⟩) (hk.imp_right fun x => by omega)⟩

theorem AT.mono' {T : List TypeId} {n₀ m m' : Nat} {A B : World} (h : AT T n₀ m A B) (hm : m' ≤ m) : AT T n₀ m' A B := h.mono (fun _ h => h) hm

/-- What turns nothing that lay is both. -/
theorem KT.of_below {T : List TypeId} {n₀ : Nat} {A B : World} (h : Below A.heap.size A B) (hn : n₀ ≤ A.heap.size) : KT T n₀ A B :=
  ⟨h.mono hn, fun k _ hk _ => (h.block k (Array.getElem?_eq_some_iff.1 hk).1).trans hk⟩
theorem AT.of_below {T : List TypeId} {n₀ m : Nat} {A B : World} (h : Below A.heap.size A B) (hn : n₀ ≤ A.heap.size) : AT T n₀ m A B :=
  ⟨h.mono hn, fun k _ hk _ _ => (h.block k (Array.getElem?_eq_some_iff.1 hk).1).trans hk⟩

theorem KT.setCell {T : List TypeId} {n₀ : Nat} {A W : World} (h : KT T n₀ A W) {p : Addr} (hp : n₀ ≤ p.block) {c : Array Value} {t : TypeId} {fr : Nat × Nat} (hb : W.heap[p.block]? = some (.cells c t fr)) (ht : t ∉ T) (u : Value) : KT T n₀ A (W.setCell p u) := by
  refine h.trans ⟨(Below.refl _ _).setCell hp u, fun k o hk ho => ?_⟩
  by_cases e : k = p.block
  · subst e
    rw [hb] at hk
    cases hk
    rcases ho with ho | ho
    · exact absurd ho (InT.not ht)
    · simp [Obj.isCells] at ho
  · exact (Below.heap_setCell W p u k e).trans hk
theorem AT.setCell {T : List TypeId} {n₀ m : Nat} {A W : World} (h : AT T n₀ m A W) {p : Addr} (hp : n₀ ≤ p.block) {c : Array Value} {t : TypeId} {fr : Nat × Nat} (hb : W.heap[p.block]? = some (.cells c t fr)) (ht : t ∈ T) (u : Value) : AT T n₀ m A (W.setCell p u) := by
  refine h.trans ⟨(Below.refl _ _).setCell hp u, fun k o hk ho _ => ?_⟩
  by_cases e : k = p.block
  · subst e
    rw [hb] at hk
    cases hk
    exact absurd (InT.cells ht) ho
  · exact (Below.heap_setCell W p u k e).trans hk
theorem KT.grown {T : List TypeId} {n₀ : Nat} {A W W' : World} {row : Option Nat} (h : KT T n₀ A W) (hg : W.grownBy W' row) (hn : n₀ ≤ W.heap.size) (hr : ∀ k, row = some k → n₀ ≤ k ∧ ∃ c t fr, W.heap[k]? = some (.cells c t fr) ∧ t ∉ T) : KT T n₀ A W' := by
  refine h.trans ⟨(Below.refl _ _).grown hg hn fun k e => (hr k e).1, fun k o hk ho => ?_⟩
  refine (hg.block k (Array.getElem?_eq_some_iff.1 hk).1 ?_).trans hk
  intro e
  obtain ⟨_, c, t, fr, h1, h2⟩ := hr k e.symm
  rw [h1] at hk
  cases hk
  rcases ho with ho | ho
  · exact absurd ho (InT.not h2)
  · simp [Obj.isCells] at ho
theorem AT.grown {T : List TypeId} {n₀ m : Nat} {A W W' : World} {row : Option Nat} (h : AT T n₀ m A W) (hg : W.grownBy W' row) (hn : n₀ ≤ W.heap.size) (hr : ∀ k, row = some k → n₀ ≤ k ∧ ∃ c t fr, W.heap[k]? = some (.cells c t fr) ∧ t ∈ T) : AT T n₀ m A W' := by
  refine h.trans ⟨(Below.refl _ _).grown hg hn fun k e => (hr k e).1, fun k o hk ho _ => ?_⟩
  refine (hg.block k (Array.getElem?_eq_some_iff.1 hk).1 ?_).trans hk
  intro e
  obtain ⟨_, c, t, fr, h1, h2⟩ := hr k e.symm
  rw [h1] at hk
  cases hk
  exact absurd (InT.cells h2) ho
theorem AT.putObj {T : List TypeId} {n₀ m : Nat} {W : World} {l : Nat} {o : Obj} (o' : Obj) (hl : W.heap[l]? = some o) (ho : o.isCells = false) (hm : m ≤ l) (hn : n₀ ≤ l) : AT T n₀ m W (W.putObj l o') :=
  ⟨(Below.refl n₀ W).grown (grownBy_putObj' W l o') (by have := (Array.getElem?_eq_some_iff.1 hl).1; omega) (fun k e => by cases e; exact hn), fun k x hk _ hx => by
    by_cases e : k = l
    · subst e
      rw [hl] at hk
      cases hk
      rcases hx with hx | hx
      · rw [ho] at hx; cases hx
      · omega
    · exact (World.putObj_heap_other e).trans hk⟩
/-- A block that the iterator leaves alone. -/
theorem AT.keep {T : List TypeId} {n₀ m : Nat} {A B : World} (h : AT T n₀ m A B) {k : Nat} {c : Array Value} {t : TypeId} {fr : Nat × Nat} (hk : A.heap[k]? = some (.cells c t fr)) (ht : t ∉ T) : B.heap[k]? = some (.cells c t fr) :=
  h.same k _ hk (InT.not ht) (.inl rfl)
theorem KT.keep {T : List TypeId} {n₀ : Nat} {A B : World} (h : KT T n₀ A B) {k : Nat} {c : Array Value} {t : TypeId} {fr : Nat × Nat} (hk : A.heap[k]? = some (.cells c t fr)) (ht : t ∈ T) : B.heap[k]? = some (.cells c t fr) :=
  h.same k _ hk (.inl (InT.cells ht))
/-- 'AT' joins a step of another loop's, one that turns fewer kinds of cells, and nothing else that lay when this one began. -/
theorem AT.join {T T' : List TypeId} {n₀ n₁ m : Nat} {A B C : World} (h : AT T n₀ m A B) (k : AT T' n₁ A.heap.size B C) (hn : n₀ ≤ n₁) (hT : ∀ t ∈ T', t ∈ T) : AT T n₀ m A C :=
  ⟨h.below.trans (k.below.mono hn), fun i o hi ho hm => k.same i o (h.same i o hi ho hm) (fun ⟨c, t, fr, e, ht⟩ => ho ⟨c, t, fr, e, hT t ht⟩) (.inr (Array.getElem?_eq_some_iff.1 hi).1)⟩

theorem AT.join' {T T' : List TypeId} {n₀ k m : Nat} {A B C : World} (h : AT T n₀ m A B) (hk : AT T' n₀ k B C) (hm : m ≤ k) (hT : ∀ t ∈ T', t ∈ T) : AT T n₀ m A C :=
  h.trans (hk.mono hT hm)

variable {P : Program}

/-- An iterator that gives xs, one by one, to rounds that all go on. -/
def GivesT {α : Type} (n : Nat) (P : Program) (gf : Nat) (lb : Array Value) (encs : α → Array Value) (T : List TypeId) (n₀ : Nat) (xs : List α) (w : World) : Prop :=
  ∀ (l : Nat) (J : List α → World → Prop) (W : World), Below w.heap.size w W → (∀ pre A B, J pre A → AT T n₀ W.heap.size A B → J pre B) →
    (∀ pre x rest W1, xs = pre ++ x :: rest → J pre W1 → ∀ m, YieldAt Fence.wide m P l (encs x) W1 fun e W' => e = .returned (.bool true) ∧ J (pre ++ [x]) W' ∧ KT T n₀ W1 W') →
    J [] W → CallsIn Fence.wide n P gf (#[.func (.yield l) #[] #[]] ++ lb) W fun e W' => (∃ v, e = .returned v) ∧ J xs W'

/-- How a round's body is left: it goes on. -/
def goesOn (T : List TypeId) (n₀ : Nat) (R : World → Prop) (W : World) : Exit → Act → World → Prop
  | .normal, _, W' => KT T n₀ W W' ∧ R W'
  | _, _, _ => False

theorem wpIn_rangeT {α : Type} {n : Nat} {g : Operand} {ps : Array Tmp} {assign body : Code} {Q : Exit → Act → World → Prop} {a : Act} {w : World} {gf : Nat} {lb : Array Value}
    (hg : a.eval g = .func (.func gf) #[] lb) (eg : ∀ args w, (callFunc gf args).run P w = .ok (.enter gf args) w) {encs : α → Array Value} {T : List TypeId} {n₀ : Nat} {xs : List α} {w0 : World}
    (hseq : ∀ m, GivesT m P gf lb encs T n₀ xs w0) (hb0 : Below w0.heap.size w0 w) (hn : n₀ ≤ w.heap.size) (hps : ∀ x, (encs x).size = ps.size)
    (I : List α → World → Prop) (hI : ∀ pre A B, I pre A → AT T n₀ w.heap.size A B → I pre B) (h0 : I [] w) (Ax : α → Act → World → Prop) (hAx : ∀ x a' A B, Ax x a' A → AT [] n₀ w.heap.size A B → Ax x a' B)
    (hassign : ∀ (l m : Nat) (pre : List α) (x : α) (W : World), I pre W → Below n₀ w W → w.heap.size ≤ W.heap.size →
      assign.wpIn (Fence.wide.inRound l) m P (Exit.then (fun a₁ W₁ => Ax x a₁ W₁ ∧ KT T n₀ W W₁ ∧ I pre W₁) (fun _ _ _ => False)) { tmps := (ps.zip (encs x)).foldl (fun t (p, v) => t.setIfInBounds p v) a.tmps, defers := [] } W)
    (hbody : ∀ (l m : Nat) (pre : List α) (x : α) (rest : List α) (a₁ : Act) (W : World), xs = pre ++ x :: rest → I pre W → Ax x a₁ W → body.wpIn (Fence.wide.inRound l) m P (goesOn T n₀ (I (pre ++ [x])) W) a₁ W)
    (hdone : ∀ (D : Nat) (W : World), D = w.heap.size → I xs W → W.heap[D]? = some (.deferred (some [])) → Q .normal { a with defers := { target := .collected D, args := #[] } :: a.defers } W) :
    (Code.rangeFunc g ps assign body).wpIn Fence.wide n P Q a w := by
  refine wpIn_rangeFunc fun fn hfn => ?_
  rw [show Fence.wide.round = none from rfl]
  obtain ⟨rc, hrc⟩ : ∃ rc : LoopState → Loop, rc = fun st => { state := st, pending := none, fn, tmps := a.tmps, params := ps, assign, body, defers := w.heap.size } := ⟨_, rfl⟩
  obtain ⟨W1, hW1⟩ : ∃ W1, (w.alloc (.deferred (some []))).alloc (.loop (rc .ready)) = W1 := ⟨_, rfl⟩
  have hb1 : Below w.heap.size w W1 := by rw [← hW1]; exact ((Below.refl _ w).alloc (Nat.le_refl _) _).alloc (by simp) _
  have hL1 : W1.heap[w.heap.size + 1]? = some (.loop (rc .ready)) := by
    have h := World.alloc_heap_new (w.alloc (.deferred (some []))) (.loop (rc .ready))
    rwa [World.size_alloc, hW1] at h
  have hD1 : W1.heap[w.heap.size]? = some (.deferred (some [])) := by
    rw [← hW1]
    exact (Below.heap_alloc _ _ _ (by simp)).trans (World.alloc_heap_new w _)
  have hsz : W1.heap.size = w.heap.size + 2 := by rw [← hW1]; simp
  refine ⟨w.heap.size + 1, [{ target := .collected w.heap.size, args := #[] }], W1, { target := .fn (.func gf) lb, args := #[.func (.yield (w.heap.size + 1)) #[] #[]] }, W1, gf,
    #[.func (.yield (w.heap.size + 1)) #[] #[]] ++ lb, W1, ?_, ?_, fun _ _ => trivial, ?_, fun h => by simp [Fence.wide] at h, ?_⟩
  · rw [← hW1, hrc]
    exact run_enterLoop_outer fn a.tmps ps assign body
  · simp only [resolve, hg]
    simp [go_sem]
  · simp [invoke, go_sem, eg]
  refine (hseq (n - 1) (w.heap.size + 1) (fun pre W => (I pre W ∧ Below n₀ w W) ∧ W.heap[w.heap.size + 1]? = some (.loop (rc .ready)) ∧ W.heap[w.heap.size]? = some (.deferred (some []))) W1 (hb0.trans (hb1.mono hb0.size)) ?_ ?_ ⟨⟨hI _ _ _ h0 (AT.of_below hb1 hn), hb1.mono hn⟩, hL1, hD1⟩).mono ?_
  · rintro pre A B ⟨⟨h1, h1b⟩, h2, h3⟩ hAB
    exact ⟨⟨hI _ _ _ h1 (hAB.mono' (by omega)), h1b.trans hAB.below⟩, hAB.same _ _ h2 (InT.not_of rfl) (.inr (by omega)), hAB.same _ _ h3 (InT.not_of rfl) (.inr (by omega))⟩
  · rintro pre x rest W he ⟨⟨h1, h1b⟩, h2, h3⟩ m
    have hl : w.heap.size + 1 < W.heap.size := (Array.getElem?_eq_some_iff.1 h2).1
    have hy := run_yield (P := P) (args := encs x) h2 (by rw [hrc]; exact hps x)
    rw [hrc] at hy
    refine ⟨fn, _, assign, body, hy, roundIn_of_wpIn hfn (wpIn_mono (hassign _ _ pre x W h1 h1b (by omega)) ?_)⟩
    intro e0 a1 W1' hq0
    cases e0 with
    | normal =>
      obtain ⟨hax, hkt, h11⟩ := hq0
      have h2' := hkt.same _ _ h2 (.inr rfl)
      have h3' := hkt.same _ _ h3 (.inr rfl)
      have hl' := (Array.getElem?_eq_some_iff.1 h2').1
      refine ⟨_, run_beginRound h2' (by rw [hrc]), ?_⟩
      obtain ⟨W2, hW2⟩ : ∃ W2, W1'.putObj (w.heap.size + 1) (.loop { rc .ready with state := .busy }) = W2 := ⟨_, rfl⟩
      rw [hW2]
      have ho : ∀ k, k ≠ w.heap.size + 1 → W2.heap[k]? = W1'.heap[k]? := fun k hk => by rw [← hW2]; exact World.putObj_heap_other hk
      have hl2 : W2.heap[w.heap.size + 1]? = some (.loop { rc .ready with state := .busy }) := by rw [← hW2]; exact World.putObj_heap_same hl'
      have hat : AT [] n₀ w.heap.size W1' W2 := by rw [← hW2]; exact AT.putObj _ h2' rfl (by omega) (by omega)
      refine wpIn_mono (hbody _ _ pre x rest a1 W2 he (hI _ _ _ h11 (hat.mono (by simp) (Nat.le_refl _))) (hAx _ _ _ _ hax hat)) ?_
      intro e a3 W3 hq
      cases e with
      | normal =>
        obtain ⟨hk, hi3⟩ := hq
        have hl3 := hk.same _ _ hl2 (.inr rfl)
        have hr := run_endRound (P := P) none hl3
        have e4 : ({ ({ rc .ready with state := .busy } : Loop) with state := if (none : Option Code).isNone then .ready else .done, pending := none } : Loop) = rc .ready := by rw [hrc]; rfl
        rw [e4] at hr
        have hlt3 := (Array.getElem?_eq_some_iff.1 hl3).1
        have b1 : Below n₀ W (W3.putObj (w.heap.size + 1) (.loop (rc .ready))) := ((hkt.below.trans hat.below).trans hk.below).grown (grownBy_putObj' W3 _ _) (by omega) (fun k e => by cases e; omega)
        refine ⟨_, _, hr, rfl, ⟨⟨hI _ _ _ hi3 (AT.putObj _ hl3 rfl (by omega) (by omega)), h1b.trans b1⟩, World.putObj_heap_same hlt3, ?_⟩, b1, ?_⟩
        · rw [World.putObj_heap_other (by omega)]
          exact hk.same _ _ ((ho _ (by omega)).trans h3') (.inr rfl)
        · intro k o hk1 hk2
          by_cases e : k = w.heap.size + 1
          · subst e
            rw [h2] at hk1
            cases hk1
            exact World.putObj_heap_same hlt3
          · rw [World.putObj_heap_other e]
            exact hk.same _ _ ((ho _ e).trans (hkt.same _ _ hk1 hk2)) hk2
      | exit id => exact hq.elim
      | goto l => exact hq.elim
      | ret => exact hq.elim
      | panic ch => exact hq.elim
      | outgrown => exact hq.elim
    | exit id => exact hq0.elim
    | goto l => exact hq0.elim
    | ret => exact hq0.elim
    | panic ch => exact hq0.elim
    | outgrown => exact hq0.elim
  · rintro e W3 ⟨⟨v, rfl⟩, ⟨h1, _⟩, h2, h3⟩
    have hr := run_endLoop (P := P) h2 (by rw [hrc]; simp)
    refine ⟨none, _, by rw [hr, hrc], ?_⟩
    exact hdone _ _ rfl (hI _ _ _ h1 (AT.putObj _ h2 rfl (by omega) (by omega))) ((World.putObj_heap_other (by omega)).trans h3)

end Go.Proofs.Ytcjpmgfobnaoeaa
