/- A tree that lies in blocks of its own: how it lies, what keeps it. -/
import Derived.Test.YtcjpmgfobnaoeaaA54
namespace Go.Proofs.Ytcjpmgfobnaoeaa
open Go.RowKit

mutual
/-- A tree whose rows lie in blocks of S. -/
def Tr.On (S : Nat → Prop) (w : World) (kv : Value) : Tr → Prop
  | .mk _ _ kids => ∃ a c, kv = .slice a kids.length c ∧ kids.length ≤ c ∧ TrsOn S w a 0 kids
def TrsOn (S : Nat → Prop) (w : World) (a : Option Addr) (i : Nat) : List Tr → Prop
  | [] => True
  | t :: ts => (∃ b kv, a = some ⟨b, 0, none⟩ ∧ S b ∧ b < w.heap.size ∧ w.cell? ⟨b, i * 3, none⟩ = some (.int .i64 t.sy) ∧ w.cell? ⟨b, i * 3 + 1, none⟩ = some (.int .i64 t.pr) ∧
      w.cell? ⟨b, i * 3 + 2, none⟩ = some kv ∧ Tr.On S w kv t) ∧ TrsOn S w a (i + 1) ts
end

theorem cell_same {w w' : World} {b i : Nat} {v : Value} (h : w'.heap[b]? = w.heap[b]?) (hc : w.cell? ⟨b, i, none⟩ = some v) : w'.cell? ⟨b, i, none⟩ = some v := by
  unfold World.cell? at *
  simp only [] at *
  rw [h]
  exact hc

mutual
theorem Tr.On.keep {S S' : Nat → Prop} {w w' : World} (hs : w.heap.size ≤ w'.heap.size) (hk : ∀ b, S b → S' b ∧ (b < w.heap.size → w'.heap[b]? = w.heap[b]?)) : ∀ {t : Tr} {kv : Value}, Tr.On S w kv t → Tr.On S' w' kv t
  | .mk _ _ kids, kv, h => by
    unfold Tr.On at *
    obtain ⟨a, c, h1, h2, h3⟩ := h
    exact ⟨a, c, h1, h2, TrsOn.keep hs hk h3⟩
theorem TrsOn.keep {S S' : Nat → Prop} {w w' : World} (hs : w.heap.size ≤ w'.heap.size) (hk : ∀ b, S b → S' b ∧ (b < w.heap.size → w'.heap[b]? = w.heap[b]?)) : ∀ {ts : List Tr} {a : Option Addr} {i : Nat}, TrsOn S w a i ts → TrsOn S' w' a i ts
  | [], _, _, _ => by unfold TrsOn; trivial
  | t :: ts, a, i, h => by
    unfold TrsOn at *
    obtain ⟨⟨b, kv, h1, h2, h0, h3, h4, h5, h6⟩, h7⟩ := h
    obtain ⟨k1, k2⟩ := hk b h2
    exact ⟨⟨b, kv, h1, k1, Nat.lt_of_lt_of_le h0 hs, cell_same (k2 h0) h3, cell_same (k2 h0) h4, cell_same (k2 h0) h5, Tr.On.keep hs hk h6⟩, TrsOn.keep hs hk h7⟩
end
mutual
theorem Tr.On.at {S : Nat → Prop} {w : World} : ∀ {t : Tr} {kv : Value}, Tr.On S w kv t → Tr.At w.heap.size w kv t
  | .mk _ _ kids, kv, h => by
    unfold Tr.On at h
    unfold Tr.At
    obtain ⟨a, c, h1, h2, h3⟩ := h
    exact ⟨a, c, h1, h2, TrsOn.at h3⟩
theorem TrsOn.at {S : Nat → Prop} {w : World} : ∀ {ts : List Tr} {a : Option Addr} {i : Nat}, TrsOn S w a i ts → TrsAt w.heap.size w a i ts
  | [], _, _, _ => by unfold TrsAt; trivial
  | t :: ts, a, i, h => by
    unfold TrsOn at h
    unfold TrsAt
    obtain ⟨⟨b, kv, h1, h2, h0, h3, h4, h5, h6⟩, h7⟩ := h
    exact ⟨⟨b, 0, kv, h1, h0, by rw [Nat.zero_add]; exact h3, by rw [Nat.zero_add]; exact h4, by rw [Nat.zero_add]; exact h5, Tr.On.at h6⟩, TrsOn.at h7⟩
end
theorem Tr.On.len {S : Nat → Prop} {w : World} {kv : Value} {t : Tr} (h : Tr.On S w kv t) : ∃ a c, kv = .slice a t.kids.length c := by
  cases t with
  | mk s p kids => unfold Tr.On at h; obtain ⟨a, c, h1, _⟩ := h; exact ⟨a, c, h1⟩

/-- Kids that are done: the tree and the value of its field Kids. -/
def kidC (p : Tr × Value) : List Value := [.int .i64 p.1.sy, .int .i64 p.1.pr, p.2]
theorem kidC_get : ∀ (l : List (Tr × Value)) (i : Nat) (h : i < l.length) (j : Nat), j < 3 → (l.flatMap kidC)[i * 3 + j]? = (kidC l[i])[j]?
  | s :: l, 0, _, j, hj => by
    rw [List.flatMap_cons, Nat.zero_mul, Nat.zero_add, List.getElem?_append_left (by simp [kidC]; omega)]
    rfl
  | s :: l, i + 1, h, j, hj => by
    rw [List.flatMap_cons, List.getElem?_append_right (by simp [kidC]; omega)]
    have := kidC_get l i (by simpa using h) j hj
    simp only [List.getElem_cons_succ]
    rw [← this]
    congr 1
    simp only [kidC, List.length_cons, List.length_nil]
    omega
theorem kidC_len (l : List (Tr × Value)) : (l.flatMap kidC).length = l.length * 3 := by
  induction l with
  | nil => rfl
  | cons s l ih => rw [List.flatMap_cons, List.length_append, ih]; simp [kidC]; omega

theorem trsOn_of {S : Nat → Prop} {w : World} {g : Nat} (hS : S g) (hg : g < w.heap.size) : ∀ (l : List (Tr × Value)) (i : Nat), (∀ j (h : j < l.length) k, k < 3 → ∀ u, (kidC l[j])[k]? = some u → w.cell? ⟨g, (i + j) * 3 + k, none⟩ = some u) →
    (∀ p ∈ l, p.1.On S w p.2) → TrsOn S w (some ⟨g, 0, none⟩) i (l.map Prod.fst)
  | [], i, _, _ => by unfold TrsOn; trivial
  | p :: l, i, hc, hp => by
    rw [List.map_cons]
    unfold TrsOn
    refine ⟨⟨g, p.2, rfl, hS, hg, hc 0 (by simp) 0 (by decide) _ rfl, hc 0 (by simp) 1 (by decide) _ rfl, hc 0 (by simp) 2 (by decide) _ rfl, hp p (by simp)⟩, trsOn_of hS hg l (i + 1) (fun j h k hk u hu => ?_) fun q hq => hp q (by simp [hq])⟩
    have := hc (j + 1) (by simpa using h) k hk u (by simpa using hu)
    rw [show i + (j + 1) = i + 1 + j by omega] at this
    exact this

/-- A row of kids that lie apart from it is a tree's. -/
theorem Tr.On.of_row {S : Nat → Prop} {w : World} {base n : Nat} {v : Value} {l : List (Tr × Value)} {t : Tr} (h : w.ownsRow base 24 3 v n (l.flatMap kidC)) (hl : l.map Prod.fst = t.kids) (hp : ∀ p ∈ l, p.1.On S w p.2) (hS : ∀ g, v.ownBlock = some g → S g) : t.On S w v := by
  have hn : n = l.length := by have := h.1; rw [kidC_len] at this; omega
  subst hn
  have hlen : t.kids.length = l.length := by rw [← hl]; simp
  have goal : ∀ kids : List Tr, t.kids = kids → (∃ a c, v = .slice a kids.length c ∧ kids.length ≤ c ∧ TrsOn S w a 0 kids) := by
    rintro kids rfl
    rcases h.2 with ⟨rfl, h0⟩ | ⟨g, c, cur, rfl, hb, hg, h3, h4, h5, h6⟩
    · refine ⟨none, 0, by rw [hlen, h0], by omega, ?_⟩
      have : t.kids = [] := List.eq_nil_of_length_eq_zero (by omega)
      rw [this]
      unfold TrsOn
      trivial
    · refine ⟨_, c, by rw [hlen], by omega, ?_⟩
      rw [← hl]
      refine trsOn_of (hS g rfl) (Array.getElem?_eq_some_iff.1 hg).1 l 0 (fun j hj k hk u hu => ?_) hp
      rw [Nat.zero_add]
      refine cell_of_heap hg ?_
      have := kidC_get l j hj k hk
      rw [hu, ← h6, List.getElem?_take] at this
      split at this
      · simpa using this
      · simp at this
  cases t with
  | mk s p kids => unfold Tr.On; exact goal kids rfl

end Go.Proofs.Ytcjpmgfobnaoeaa
