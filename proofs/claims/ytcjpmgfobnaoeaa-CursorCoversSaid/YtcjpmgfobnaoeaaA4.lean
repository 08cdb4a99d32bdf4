/- Laws for the walk: one element more, or another row's elements, behind a row of the call's own. -/
import Derived.Test.YtcjpmgfobnaoeaaA2
import Derived.Test.YtcjpmgfobnaoeaaA3
import Derived.Deep.LoopGhost
import Derived.Deep.AppendLies
import Derived.WalkMore
import Derived.Deep.DeepCutAuto
import Derived.Deep.CutBlock
import Derived.Deep.RegionHeld3
namespace Go.Proofs.Ytcjpmgfobnaoeaa
open Go.RowKit

theorem ownsRow_base {w : World} {b b' e sz : Nat} {v : Value} {n : Nat} {xs : List Value} (h : w.ownsRow b e sz v n xs) (hb : b' ≤ b) : w.ownsRow b' e sz v n xs := by
  refine ⟨h.1, ?_⟩
  rcases h.2 with h | ⟨g, c, cur, h1, h2, h3⟩
  · exact .inl h
  · exact .inr ⟨g, c, cur, h1, Nat.le_trans hb h2, h3⟩

/-- What stands behind an append: the row lies at g; below base nothing is turned; nothing is turned but the old row. -/
structure Grew (base : Nat) (v : Value) (w w' : World) (g : Nat) : Prop where
  below : Below base w w'
  ge : base ≤ g
  lt : g < w'.heap.size
  at_ : v.ownBlock = some g ∨ w.heap.size ≤ g
  far : ∀ k, k < w.heap.size → some k ≠ v.ownBlock → w'.heap[k]? = w.heap[k]?

theorem grew_of {base e sz n m : Nat} {v : Value} {xs ys : List Value} {w w' : World} {g c : Nat} (hown : w.ownsRow base e sz v n xs) (hown' : w'.ownsRow base e sz (.slice (some ⟨g, 0, none⟩) m c) m ys) (hg : w.grownBy w' v.ownBlock)
    (hat : v.ownBlock = some g ∨ g = w.heap.size) (hlt : g < w'.heap.size) (hbase : base ≤ w.heap.size) : Grew base v w w' g where
  below := (Below.refl _ _).grown hg hbase fun k hk => (hown.lt k hk).1
  ge := (hown'.lt g rfl).1
  lt := hlt
  at_ := hat.imp_right fun e => Nat.le_of_eq e.symm
  far := hg.block

theorem news_lit (w : World) (us : List Value) (E : TypeId) : ∀ (j : Nat) u, us[j]? = some u → (w.alloc (.cells us.toArray E)).cell? ((⟨w.heap.size, 0, none⟩ : Addr).add j) = some u :=
  World.news_of_block (cs := us.toArray) (heap_alloc_new w _)

/-- 'append(s, x)', s a row of the call's own, x a literal that was just laid. -/
theorem wpList_push {P : Program} {ops : Array Oper} {rest : List Oper} {o : Oper} {a : Act} {Q : Exit → Act → World → Prop} {w : World} (hgd : o.guard = none) (s x : Operand) (T : TypeId)
    (ho : o.op = .call { callee := .builtin .append, args := #[s, x], argTypes := #[T, T] }) (E : TypeId) (z : Value) (sz bytes : Nat)
    (hinfo : (P.info? E).map (fun i => (i.zero, i.size, i.bytes)) = some (some z, sz, bytes)) (ht : P.underlying T = some (.slice E)) (hzs : z.cells.size = sz) (hsz : 0 < sz)
    (base : Nat) (v : Value) (n : Nat) (xs : List Value) (hs : a.eval s = v) (hown : w.ownsRow base E sz v n xs) (us : List Value) (hx : a.eval x = .slice (some ⟨w.heap.size, 0, none⟩) 1 1)
    (hus : us.length = 1 * sz) (h1 : ∀ u ∈ us, u.oneCell' = true) (hm : n + 1 ≤ 140737488355328) (hn : (n + 1) * bytes ≤ 140737488355328) (hbase : base ≤ w.heap.size)
    (h : ∀ g c w', w'.ownsRow base E sz (.slice (some ⟨g, 0, none⟩) (n + 1) c) (n + 1) (xs ++ us) → Grew base v w w' g →
      wpList P ops Q rest (a.put o.dst (.slice (some ⟨g, 0, none⟩) (n + 1) c)) w') :
    wpList P ops Q (o :: rest) a (w.alloc (.cells us.toArray E)) := by
  obtain ⟨i0, hi, hz0, hz1, hz2⟩ := info_parts hinfo
  refine wpList_append_lies _ hgd s x T ho base E i0 z sz bytes ht hi hz0 hz1 hz2 hzs hsz v n xs hs (hown.alloc _) ⟨w.heap.size, 0, none⟩ 1 1 us hx hus (news_lit w us E) h1 (by omega) (by unfold maxLen; omega) hn (by simp; omega) _ rfl ?_
  intro g c w' h1' h2 h3 h4
  refine h g c w' h1' ?_
  have G := grew_of (hown.alloc _) h1' h2 h3 h4 (by simp; omega)
  exact ⟨((Below.refl _ _).alloc hbase _).trans G.below, G.ge, G.lt, by
    rcases h3 with h3 | h3
    · exact .inl h3
    · exact .inr (by simp at h3; omega), fun k hk hne => (G.far k (by simp; omega) hne).trans (Below.heap_alloc _ _ _ hk)⟩

/-- 'append(s, x)' at a step of a region that draws: x a literal that lies in block B. -/
theorem step_push {P : Program} {ops : Array Oper} {o : Oper} {a : Act} {K : Act → World → Prop} {Q : Exit → Act → World → Prop} {F : Prop} {w : World} (hgd : o.guard = none) (s x : Operand) (T : TypeId)
    (ho : o.op = .call { callee := .builtin .append, args := #[s, x], argTypes := #[T, T] }) (E : TypeId) (z : Value) (sz bytes : Nat)
    (hinfo : (P.info? E).map (fun i => (i.zero, i.size, i.bytes)) = some (some z, sz, bytes)) (ht : P.underlying T = some (.slice E)) (hzs : z.cells.size = sz) (hsz : 0 < sz)
    (base : Nat) (v : Value) (n : Nat) (xs : List Value) (hs : a.eval s = v) (hown : w.ownsRow base E sz v n xs) (B : Nat) (us : List Value) (hx : a.eval x = .slice (some ⟨B, 0, none⟩) 1 1)
    (hB : w.heap[B]? = some (.cells us.toArray E (0, 0)))
    (hus : us.length = 1 * sz) (h1 : ∀ u ∈ us, u.oneCell' = true) (hm : n + 1 ≤ 140737488355328) (hn : (n + 1) * bytes ≤ 140737488355328) (hbase : base ≤ w.heap.size)
    (h : ∀ g c w', w'.ownsRow base E sz (.slice (some ⟨g, 0, none⟩) (n + 1) c) (n + 1) (xs ++ us) → Grew base v w w' g →
      K (a.put o.dst (.slice (some ⟨g, 0, none⟩) (n + 1) c)) w') :
    if Region.wanted o (yielded ops a.tmps) = true then Oper.wp P o a w K Q else F := by
  obtain ⟨i0, hi, hz0, hz1, hz2⟩ := info_parts hinfo
  refine step_append_lies _ hgd s x T ho base E i0 z sz bytes ht hi hz0 hz1 hz2 hzs hsz v n xs hs hown ⟨B, 0, none⟩ 1 1 us hx hus (World.news_of_block (cs := us.toArray) hB) h1 (by omega) (by unfold maxLen; omega) hn hbase _ rfl ?_
  intro g c w' h1' h2 h3 h4
  exact h g c w' h1' (grew_of hown h1' h2 h3 h4 hbase)

/-- Two rows of one world and one element type, the second one nil, empty or not: what 'append(s, l...)' does. -/
theorem run_spread {P : Program} (w : World) (T ty E : TypeId) (z : Value) (sz bytes : Nat)
    (hinfo : (P.info? E).map (fun i => (i.zero, i.size, i.bytes)) = some (some z, sz, bytes)) (ht : P.underlying T = some (.slice E)) (hzs : z.cells.size = sz) (hsz : 0 < sz)
    (base : Nat) (v : Value) (n : Nat) (xs : List Value) (hown : w.ownsRow base E sz v n xs) (b2 m : Nat) (u : Value) (us : List Value) (hsrc : w.ownsRow b2 E sz u m us)
    (h1 : ∀ x ∈ us, x.oneCell' = true) (hm : n + m ≤ 140737488355328) (hn : (n + m) * bytes ≤ 140737488355328) (hbase : base ≤ w.heap.size) :
    ∃ A c w', (Builtin.append_ #[T, T] ty #[v, u]).run P w = .ok (.slice A (n + m) c) w' ∧ w'.ownsRow base E sz (.slice A (n + m) c) (n + m) (xs ++ us) ∧ w.grownBy w' v.ownBlock ∧ ((Value.slice A (n + m) c).ownBlock = v.ownBlock ∨ (Value.slice A (n + m) c).ownBlock = some w.heap.size) := by
  obtain ⟨i0, hi, hz0, hz1, hz2⟩ := info_parts hinfo
  rcases hsrc.2 with ⟨rfl, rfl⟩ | ⟨g, cap, cur, rfl, hb, hg, h3, h4, h5, h6⟩
  · have hu : us = [] := by have := hsrc.1; simpa using this
    subst hu
    rcases hown.2 with ⟨rfl, rfl⟩ | ⟨g, cap, cur, rfl, _, _, hnc, _⟩
    · exact ⟨none, 0, w, by simp [Builtin.append_, run_underlying ht, sizeOf, typeInfo, hi, Builtin.lenOf, Builtin.firstCells], by simpa using hown, ⟨rfl, rfl, rfl, Nat.le_refl _, fun _ _ _ => rfl⟩, .inl rfl⟩
    · exact ⟨some ⟨g, 0, none⟩, cap, w, by simp [Builtin.append_, run_underlying ht, sizeOf, typeInfo, hi, Builtin.lenOf, Builtin.firstCells, hnc, storeCells], by simpa using hown, ⟨rfl, rfl, rfl, Nat.le_refl _, fun _ _ _ => rfl⟩, .inl rfl⟩
  · have hc : ∀ j x, us[j]? = some x → w.cell? ((⟨g, 0, none⟩ : Addr).add j) = some x := fun j x hj => by
      rw [Addr.add_lit, Nat.zero_add]
      refine cell_of_heap hg ?_
      rw [← h6, List.getElem?_take] at hj
      split at hj
      · simpa using hj
      · simp at hj
    obtain ⟨v', w', hr, h2, h3', _, h4'⟩ := run_append_own_at (P := P) w base T ty E i0 z sz bytes ht hi hz0 hz1 hz2 hzs hsz v n xs hown ⟨g, 0, none⟩ m cap us hsrc.1 hc h1 (by unfold maxLen; omega) hn hbase
    rcases h2.2 with ⟨rfl, h0⟩ | ⟨g', cap', _, rfl, _⟩
    · exact ⟨none, 0, w', by rw [hr, h0], by rw [h0] at h2 ⊢; exact h2, h3', h4'⟩
    · exact ⟨_, cap', w', hr, h2, h3', h4'⟩

/-- The same at an operation. -/
theorem wp_spread {P : Program} {o : Oper} {a : Act} {K : Act → World → Prop} {Q : Exit → Act → World → Prop} {w : World} (s x : Operand) (T : TypeId)
    (ho : o.op = .call { callee := .builtin .append, args := #[s, x], argTypes := #[T, T] }) (E : TypeId) (z : Value) (sz bytes : Nat)
    (hinfo : (P.info? E).map (fun i => (i.zero, i.size, i.bytes)) = some (some z, sz, bytes)) (ht : P.underlying T = some (.slice E)) (hzs : z.cells.size = sz) (hsz : 0 < sz)
    (base : Nat) (v : Value) (n : Nat) (xs : List Value) (hs : a.eval s = v) (hown : w.ownsRow base E sz v n xs) (b2 m : Nat) (u : Value) (us : List Value) (hx : a.eval x = u) (hsrc : w.ownsRow b2 E sz u m us)
    (h1 : ∀ x ∈ us, x.oneCell' = true) (hm : n + m ≤ 140737488355328) (hn : (n + m) * bytes ≤ 140737488355328) (hbase : base ≤ w.heap.size)
    (h : ∀ A c w', w'.ownsRow base E sz (.slice A (n + m) c) (n + m) (xs ++ us) → Below base w w' → w.grownBy w' v.ownBlock → ((Value.slice A (n + m) c).ownBlock = v.ownBlock ∨ (Value.slice A (n + m) c).ownBlock = some w.heap.size) → K (a.put o.dst (.slice A (n + m) c)) w') : o.wp P a w K Q := by
  obtain ⟨A, c, w', hr, h2, h3, h4⟩ := run_spread (P := P) w T o.type E z sz bytes hinfo ht hzs hsz base v n xs hown b2 m u us hsrc h1 hm hn hbase
  unfold Oper.wp execOp
  simp only [ho, resolve, invoke, builtin, Sem.run_bind, Sem.run_pure, Result.andThen_ok, List.map_toArray, List.map_cons, List.map_nil, hs, hx, hr]
  exact h A c w' h2 ((Below.refl _ _).grown h3 hbase fun k hk => (hown.lt k hk).1) h3 h4

/-- The same at a plain region's list. -/
theorem wpList_spread {P : Program} {ops : Array Oper} {rest : List Oper} {o : Oper} {a : Act} {Q : Exit → Act → World → Prop} {w : World} (hgd : o.guard = none) (s x : Operand) (T : TypeId)
    (ho : o.op = .call { callee := .builtin .append, args := #[s, x], argTypes := #[T, T] }) (E : TypeId) (z : Value) (sz bytes : Nat)
    (hinfo : (P.info? E).map (fun i => (i.zero, i.size, i.bytes)) = some (some z, sz, bytes)) (ht : P.underlying T = some (.slice E)) (hzs : z.cells.size = sz) (hsz : 0 < sz)
    (base : Nat) (v : Value) (n : Nat) (xs : List Value) (hs : a.eval s = v) (hown : w.ownsRow base E sz v n xs) (b2 m : Nat) (u : Value) (us : List Value) (hx : a.eval x = u) (hsrc : w.ownsRow b2 E sz u m us)
    (h1 : ∀ x ∈ us, x.oneCell' = true) (hm : n + m ≤ 140737488355328) (hn : (n + m) * bytes ≤ 140737488355328) (hbase : base ≤ w.heap.size)
    (h : ∀ A c w', w'.ownsRow base E sz (.slice A (n + m) c) (n + m) (xs ++ us) → Below base w w' → w.grownBy w' v.ownBlock → ((Value.slice A (n + m) c).ownBlock = v.ownBlock ∨ (Value.slice A (n + m) c).ownBlock = some w.heap.size) → wpList P ops Q rest (a.put o.dst (.slice A (n + m) c)) w') : wpList P ops Q (o :: rest) a w :=
  wpList_plain hgd fun _ hK => wp_spread s x T ho E z sz bytes hinfo ht hzs hsz base v n xs hs hown b2 m u us hx hsrc h1 hm hn hbase fun A c w' h2 h3 h4 h5 => hK _ _ (h A c w' h2 h3 h4 h5)

/-- The same at a step of a region that draws. -/
theorem step_spread {P : Program} {ops : Array Oper} {o : Oper} {a : Act} {K : Act → World → Prop} {Q : Exit → Act → World → Prop} {F : Prop} {w : World} (hgd : o.guard = none) (s x : Operand) (T : TypeId)
    (ho : o.op = .call { callee := .builtin .append, args := #[s, x], argTypes := #[T, T] }) (E : TypeId) (z : Value) (sz bytes : Nat)
    (hinfo : (P.info? E).map (fun i => (i.zero, i.size, i.bytes)) = some (some z, sz, bytes)) (ht : P.underlying T = some (.slice E)) (hzs : z.cells.size = sz) (hsz : 0 < sz)
    (base : Nat) (v : Value) (n : Nat) (xs : List Value) (hs : a.eval s = v) (hown : w.ownsRow base E sz v n xs) (b2 m : Nat) (u : Value) (us : List Value) (hx : a.eval x = u) (hsrc : w.ownsRow b2 E sz u m us)
    (h1 : ∀ x ∈ us, x.oneCell' = true) (hm : n + m ≤ 140737488355328) (hn : (n + m) * bytes ≤ 140737488355328) (hbase : base ≤ w.heap.size)
    (h : ∀ A c w', w'.ownsRow base E sz (.slice A (n + m) c) (n + m) (xs ++ us) → Below base w w' → w.grownBy w' v.ownBlock → ((Value.slice A (n + m) c).ownBlock = v.ownBlock ∨ (Value.slice A (n + m) c).ownBlock = some w.heap.size) → K (a.put o.dst (.slice A (n + m) c)) w') :
    if Region.wanted o (yielded ops a.tmps) = true then Oper.wp P o a w K Q else F := by
  have hw : Region.wanted o (yielded ops a.tmps) = true := by simp [Region.wanted, hgd]
  rw [if_pos hw]
  exact wp_spread s x T ho E z sz bytes hinfo ht hzs hsz base v n xs hs hown b2 m u us hx hsrc h1 hm hn hbase h

/-- A row's block is no block of other cells. -/
theorem own_ne {w : World} {base e sz : Nat} {v : Value} {n : Nat} {xs : List Value} (h : w.ownsRow base e sz v n xs) {g : Nat} {cs : Array Value} {t : TypeId} (hg : w.heap[g]? = some (.cells cs t (0, 0))) (ht : t ≠ e := by decide) : some g ≠ v.ownBlock := by
  intro he
  rcases h.2 with ⟨rfl, _⟩ | ⟨g', c, cur, rfl, _, h3, _⟩
  · simp [Value.ownBlock] at he
  · simp [Value.ownBlock] at he
    subst he
    rw [hg] at h3
    simp at h3
    exact ht h3.2

/-- Two values lie in different blocks. -/
def Apart (v u : Value) : Prop := ∀ g, v.ownBlock = some g → u.ownBlock ≠ some g

/-- A row of one-cell elements, nil or not: the slice written out; a cell of it where there is one. -/
theorem ownsRow_any {w : World} {base e : Nat} {v : Value} {n : Nat} {xs : List Value} (h : w.ownsRow base e 1 v n xs) :
    ∃ a c, v = .slice a n c ∧ ∀ j u, xs[j]? = some u → ∃ g, a = some ⟨g, 0, none⟩ ∧ base ≤ g ∧ g < w.heap.size ∧ w.cell? ⟨g, j, none⟩ = some u := by
  rcases h.2 with ⟨rfl, rfl⟩ | ⟨g, cap, cur, rfl, hb, hg, h3, h4, h5, h6⟩
  · refine ⟨none, 0, rfl, fun j u hu => ?_⟩
    have : xs = [] := by have := h.1; simpa using this
    rw [this] at hu
    simp at hu
  · refine ⟨_, cap, rfl, fun j u hu => ⟨g, rfl, hb, (Array.getElem?_eq_some_iff.1 hg).1, cell_of_heap hg ?_⟩⟩
    rw [← h6] at hu
    rw [List.getElem?_take] at hu
    split at hu
    · simpa using hu
    · simp at hu

end Go.Proofs.Ytcjpmgfobnaoeaa
