/- The data that the walks speak of: trees that came in, nodes that were made; how they lie in memory. Plain definitions and their small laws; no function of the program is walked here. -/
import Derived.Test.YtcjpmgfobnaoeaaProg
import Derived.WalkKit
import Derived.Below
import Derived.Lib.Hide
namespace Go.Proofs.Ytcjpmgfobnaoeaa
open Go.RowKit

/-! ### Trees that came in -/

/-- A tree as it came in. -/
inductive Tr where
  | mk (sy pr : Int) (kids : List Tr)

def Tr.sy : Tr → Int | .mk s _ _ => s
def Tr.pr : Tr → Int | .mk _ p _ => p
def Tr.kids : Tr → List Tr | .mk _ _ k => k

mutual
/-- 'kv' is the value of the field Kids of this tree; all lies below block B. -/
def Tr.At (B : Nat) (w : World) (kv : Value) : Tr → Prop
  | .mk _ _ kids => ∃ a c, kv = .slice a kids.length c ∧ kids.length ≤ c ∧ TrsAt B w a 0 kids
/-- The trees of a list lie one behind the other, from element i of the array on. -/
def TrsAt (B : Nat) (w : World) (a : Option Addr) (i : Nat) : List Tr → Prop
  | [] => True
  | t :: ts => (∃ b o kv, a = some ⟨b, o, none⟩ ∧ b < B ∧ w.cell? ⟨b, o + i * 3, none⟩ = some (.int .i64 t.sy) ∧ w.cell? ⟨b, o + i * 3 + 1, none⟩ = some (.int .i64 t.pr) ∧
      w.cell? ⟨b, o + i * 3 + 2, none⟩ = some kv ∧ Tr.At B w kv t) ∧ TrsAt B w a (i + 1) ts
end

theorem TrsAt.get {B : Nat} {w : World} {a : Option Addr} : ∀ {ts : List Tr} {i : Nat}, TrsAt B w a i ts → ∀ j (h : j < ts.length),
    ∃ b o kv, a = some ⟨b, o, none⟩ ∧ b < B ∧ w.cell? ⟨b, o + (i + j) * 3, none⟩ = some (.int .i64 (ts[j]).sy) ∧ w.cell? ⟨b, o + (i + j) * 3 + 1, none⟩ = some (.int .i64 (ts[j]).pr) ∧
      w.cell? ⟨b, o + (i + j) * 3 + 2, none⟩ = some kv ∧ Tr.At B w kv ts[j]
  | t :: ts, i, h, 0, _ => by
    unfold TrsAt at h
    obtain ⟨⟨b, o, kv, h1, h2, h3, h4, h5, h6⟩, _⟩ := h
    exact ⟨b, o, kv, h1, h2, h3, h4, h5, h6⟩
  | t :: ts, i, h, j + 1, hj => by
    unfold TrsAt at h
    have := TrsAt.get h.2 j (by simpa using hj)
    rw [show i + 1 + j = i + (j + 1) by omega] at this
    exact this

mutual
theorem Tr.At.keep {B : Nat} {w w' : World} (hb : Below B w w') : ∀ {t : Tr} {kv : Value}, Tr.At B w kv t → Tr.At B w' kv t
  | .mk _ _ kids, kv, h => by
    unfold Tr.At at *
    obtain ⟨a, c, h1, h2, h3⟩ := h
    exact ⟨a, c, h1, h2, TrsAt.keep hb h3⟩
theorem TrsAt.keep {B : Nat} {w w' : World} (hb : Below B w w') : ∀ {ts : List Tr} {a : Option Addr} {i : Nat}, TrsAt B w a i ts → TrsAt B w' a i ts
  | [], _, _, _ => by unfold TrsAt; trivial
  | t :: ts, a, i, h => by
    unfold TrsAt at *
    obtain ⟨⟨b, o, kv, h1, h2, h3, h4, h5, h6⟩, h7⟩ := h
    exact ⟨⟨b, o, kv, h1, h2, (hb.cell (p := ⟨b, _, none⟩) h2).trans h3, (hb.cell (p := ⟨b, _, none⟩) h2).trans h4, (hb.cell (p := ⟨b, _, none⟩) h2).trans h5, Tr.At.keep hb h6⟩, TrsAt.keep hb h7⟩
end

/-! ### Slices of numbers that came in: elements of sz cells, below block B -/

/-- The slice 'v' has the elements es, each of sz cells. -/
def SlcAt (B : Nat) (w : World) (sz : Nat) (v : Value) (es : List (List Value)) : Prop :=
  (∃ a c, v = .slice a 0 c ∧ es = []) ∨
  ∃ b o c, v = .slice (some ⟨b, o, none⟩) es.length c ∧ es.length ≤ c ∧ b < B ∧ ∀ i (h : i < es.length) j u, (es[i])[j]? = some u → w.cell? ⟨b, o + i * sz + j, none⟩ = some u

theorem SlcAt.keep {B : Nat} {w w' : World} (hb : Below B w w') {sz : Nat} {v : Value} {es : List (List Value)} (h : SlcAt B w sz v es) : SlcAt B w' sz v es := by
  rcases h with h | ⟨b, o, c, h1, h2, h3, h4⟩
  · exact .inl h
  · exact .inr ⟨b, o, c, h1, h2, h3, fun i hi j u hu => (hb.cell (p := ⟨b, _, none⟩) h3).trans (h4 i hi j u hu)⟩

theorem SlcAt.val {B : Nat} {w : World} {sz : Nat} {v : Value} {es : List (List Value)} (h : SlcAt B w sz v es) : ∃ a c, v = .slice a es.length c ∧ (0 < es.length → ∃ b o, a = some ⟨b, o, none⟩ ∧ b < B ∧ es.length ≤ c ∧
    ∀ i (h : i < es.length) j u, (es[i])[j]? = some u → w.cell? ⟨b, o + i * sz + j, none⟩ = some u) := by
  rcases h with ⟨a, c, rfl, rfl⟩ | ⟨b, o, c, rfl, h2, h3, h4⟩
  · exact ⟨a, c, rfl, fun h => by simp at h⟩
  · exact ⟨_, c, rfl, fun _ => ⟨b, o, rfl, h3, h2, h4⟩⟩

/-! ### Nodes that were made -/

/-- A node, with the block in which it lies, and the value of its field kids. -/
inductive Nd where
  | mk (b : Nat) (tk bt ld ht sy pr wd st lk : Int) (fm : Bool) (ks : Value) (kids : List Nd)

namespace Nd
def b : Nd → Nat | .mk b .. => b
def tk : Nd → Int | .mk _ x .. => x
def bt : Nd → Int | .mk _ _ x .. => x
def ld : Nd → Int | .mk _ _ _ x .. => x
def ht : Nd → Int | .mk _ _ _ _ x .. => x
def sy : Nd → Int | .mk _ _ _ _ _ x .. => x
def pr : Nd → Int | .mk _ _ _ _ _ _ x .. => x
def wd : Nd → Int | .mk _ _ _ _ _ _ _ x .. => x
def st : Nd → Int | .mk _ _ _ _ _ _ _ _ x .. => x
def lk : Nd → Int | .mk _ _ _ _ _ _ _ _ _ x .. => x
def fm : Nd → Bool | .mk _ _ _ _ _ _ _ _ _ _ x .. => x
def ks : Nd → Value | .mk _ _ _ _ _ _ _ _ _ _ _ x _ => x
def kids : Nd → List Nd | .mk _ _ _ _ _ _ _ _ _ _ _ _ x => x
/-- The pointer to it. -/
def ptr (n : Nd) : Value := .pointer (some ⟨n.b, 0, none⟩)
/-- Its cells. -/
def cs (n : Nd) : Array Value := #[.int .i64 n.tk, .int .i64 n.bt, .int .i64 n.ld, .int .i64 n.ht, .int .i64 n.sy, .int .i64 n.pr, .int .i64 n.wd, .int .i64 n.st, .int .i64 n.lk, .bool n.fm, n.ks]
end Nd

/-- A pointer that may be none. -/
def ptrO : Option Nd → Value
  | none => .pointer none
  | some n => n.ptr

mutual
/-- The blocks in which a node lies, with all below it. -/
def Nd.blocks : Nd → List Nat
  | .mk b _ _ _ _ _ _ _ _ _ _ ks kids => b :: (ks.ownBlock.toList ++ NdsBlocks kids)
def NdsBlocks : List Nd → List Nat
  | [] => []
  | n :: ns => n.blocks ++ NdsBlocks ns
end

mutual
/-- The node lies in the world, with all below it. -/
def Nd.In (w : World) : Nd → Prop
  | .mk b tk bt ld ht sy pr wd st lk fm ks kids =>
    w.heap[b]? = some (.cells (Nd.mk b tk bt ld ht sy pr wd st lk fm ks kids).cs 87 (0, 0)) ∧ w.ownsRow 0 33 1 ks kids.length (kids.map Nd.ptr) ∧ NdsIn w kids
def NdsIn (w : World) : List Nd → Prop
  | [] => True
  | n :: ns => n.In w ∧ NdsIn w ns
end

theorem NdsIn_iff {w : World} : ∀ {ns : List Nd}, NdsIn w ns ↔ ∀ n ∈ ns, n.In w
  | [] => by simp [NdsIn]
  | n :: ns => by simp [NdsIn, NdsIn_iff (ns := ns)]

theorem mem_NdsBlocks : ∀ {ns : List Nd} {k : Nat}, k ∈ NdsBlocks ns ↔ ∃ n ∈ ns, k ∈ n.blocks
  | [], k => by simp [NdsBlocks]
  | n :: ns, k => by simp [NdsBlocks, mem_NdsBlocks (ns := ns)]

theorem Nd.In.head {w : World} {n : Nd} (h : n.In w) : w.heap[n.b]? = some (.cells n.cs 87 (0, 0)) ∧ w.ownsRow 0 33 1 n.ks n.kids.length (n.kids.map Nd.ptr) ∧ ∀ k ∈ n.kids, k.In w := by
  cases n with
  | mk b tk bt ld ht sy pr wd st lk fm ks kids => unfold Nd.In at h; exact ⟨h.1, h.2.1, NdsIn_iff.1 h.2.2⟩

theorem Nd.In.mk' {w : World} {n : Nd} (h1 : w.heap[n.b]? = some (.cells n.cs 87 (0, 0))) (h2 : w.ownsRow 0 33 1 n.ks n.kids.length (n.kids.map Nd.ptr)) (h3 : ∀ k ∈ n.kids, k.In w) : n.In w := by
  cases n with
  | mk b tk bt ld ht sy pr wd st lk fm ks kids => unfold Nd.In; exact ⟨h1, h2, NdsIn_iff.2 h3⟩

theorem Nd.blocks_eq (n : Nd) : n.blocks = n.b :: (n.ks.ownBlock.toList ++ NdsBlocks n.kids) := by
  cases n; rfl

theorem ownsRow_of_block {w w' : World} {base e sz : Nat} {v : Value} {n : Nat} {xs : List Value} (h : w.ownsRow base e sz v n xs) (hk : ∀ k, v.ownBlock = some k → w'.heap[k]? = w.heap[k]?) : w'.ownsRow base e sz v n xs := by
  refine ⟨h.1, ?_⟩
  rcases h.2 with hn | ⟨g, cap, cur, rfl, hb, hg, rest⟩
  · exact .inl hn
  · exact .inr ⟨g, cap, cur, rfl, hb, by rw [hk g rfl]; exact hg, rest⟩

mutual
/-- A node stays where its blocks do. -/
theorem Nd.In.frame {w w' : World} : ∀ {n : Nd}, n.In w → (∀ k ∈ n.blocks, w'.heap[k]? = w.heap[k]?) → n.In w'
  | .mk b tk bt ld ht sy pr wd st lk fm ks kids, h, hk => by
    unfold Nd.In at *
    unfold Nd.blocks at hk
    refine ⟨by rw [hk b (by simp)]; exact h.1, ownsRow_of_block h.2.1 fun k e => hk k (by simp [e]), NdsIn.frame h.2.2 fun k hm => hk k (by simp [hm])⟩
theorem NdsIn.frame {w w' : World} : ∀ {ns : List Nd}, NdsIn w ns → (∀ k ∈ NdsBlocks ns, w'.heap[k]? = w.heap[k]?) → NdsIn w' ns
  | [], _, _ => by unfold NdsIn; trivial
  | n :: ns, h, hk => by
    unfold NdsIn at *
    unfold NdsBlocks at hk
    exact ⟨Nd.In.frame h.1 fun k hm => hk k (by simp [hm]), NdsIn.frame h.2 fun k hm => hk k (by simp [hm])⟩
end

mutual
/-- Its blocks are blocks of the world. -/
theorem Nd.In.lt {w : World} : ∀ {n : Nd}, n.In w → ∀ k ∈ n.blocks, k < w.heap.size
  | .mk b tk bt ld ht sy pr wd st lk fm ks kids, h, k, hk => by
    unfold Nd.In at h
    unfold Nd.blocks at hk
    simp only [List.mem_cons, List.mem_append, Option.mem_toList] at hk
    rcases hk with rfl | hk | hk
    · exact (Array.getElem?_eq_some_iff.1 h.1).1
    · exact (h.2.1.lt k hk).2
    · exact NdsIn.lt h.2.2 k hk
theorem NdsIn.lt {w : World} : ∀ {ns : List Nd}, NdsIn w ns → ∀ k ∈ NdsBlocks ns, k < w.heap.size
  | [], _, k, hk => by unfold NdsBlocks at hk; simp at hk
  | n :: ns, h, k, hk => by
    unfold NdsIn at h
    unfold NdsBlocks at hk
    rcases List.mem_append.1 hk with hk | hk
    · exact Nd.In.lt h.1 k hk
    · exact NdsIn.lt h.2 k hk
end

theorem Nd.In.below {w w' : World} {n : Nd} (h : n.In w) (hb : Below w.heap.size w w') : n.In w' := h.frame fun k hk => hb.block k (h.lt k hk)

theorem cell_of_heap {w : World} {b i : Nat} {c : Array Value} {e : TypeId} {fr : Nat × Nat} {v : Value} (h : w.heap[b]? = some (.cells c e fr)) (hv : c[i]? = some v) : w.cell? ⟨b, i, none⟩ = some v := by
  simp [World.cell?, h, hv]

theorem frozen_of_heap {w : World} {b i : Nat} {c : Array Value} {e : TypeId} (h : w.heap[b]? = some (.cells c e (0, 0))) : w.frozen? ⟨b, i, none⟩ = false := by
  simp [World.frozen?, h]

/-- The node's cells, as the walk asks for them. -/
structure NdCells (w : World) (n : Nd) : Prop where
  c0 : w.cell? ⟨n.b, 0, none⟩ = some (.int .i64 n.tk)
  c1 : w.cell? ⟨n.b, 1, none⟩ = some (.int .i64 n.bt)
  c2 : w.cell? ⟨n.b, 2, none⟩ = some (.int .i64 n.ld)
  c3 : w.cell? ⟨n.b, 3, none⟩ = some (.int .i64 n.ht)
  c4 : w.cell? ⟨n.b, 4, none⟩ = some (.int .i64 n.sy)
  c5 : w.cell? ⟨n.b, 5, none⟩ = some (.int .i64 n.pr)
  c6 : w.cell? ⟨n.b, 6, none⟩ = some (.int .i64 n.wd)
  c7 : w.cell? ⟨n.b, 7, none⟩ = some (.int .i64 n.st)
  c8 : w.cell? ⟨n.b, 8, none⟩ = some (.int .i64 n.lk)
  c9 : w.cell? ⟨n.b, 9, none⟩ = some (.bool n.fm)
  c10 : w.cell? ⟨n.b, 10, none⟩ = some n.ks

theorem Nd.In.cells {w : World} {n : Nd} (h : n.In w) : NdCells w n :=
  have h1 := h.head.1
  ⟨cell_of_heap h1 rfl, cell_of_heap h1 rfl, cell_of_heap h1 rfl, cell_of_heap h1 rfl, cell_of_heap h1 rfl, cell_of_heap h1 rfl, cell_of_heap h1 rfl, cell_of_heap h1 rfl, cell_of_heap h1 rfl, cell_of_heap h1 rfl, cell_of_heap h1 rfl⟩

end Go.Proofs.Ytcjpmgfobnaoeaa
