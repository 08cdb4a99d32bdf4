/- Merged out of own texts: A0, A1, A2, A3, A4, A5, A6, A7, A8, A9, A10, A11, A12, A13, A14, A15, A16, A19, RowKit, A77, A68, A17, A18, A23, A24, A25, A26, A28, A31, A30, A32, A34, A33, A35. -/
import Derived.Test.YtcjpmgfobnaoeaaProg
import Derived.WalkKit
import Derived.Below
import Derived.Lib.Hide
import Derived.Deep.QuietTactic
import Derived.BigQuiet
import Derived.WalkSpells
import Derived.Deep.LoopGhost
import Derived.Deep.AppendLies
import Derived.WalkMore
import Derived.Deep.DeepCutAuto
import Derived.Deep.CutBlock
import Derived.Deep.RegionHeld3
import Derived.BigRegion
import Derived.Deep.RegionLaw
import Derived.ChangeArms
import Derived.DataReads
import Derived.Test.YtcjpmgfobnaoeaaRows
import Derived.ProofKit
import Derived.OpenShut
import Derived.ShutString
import Derived.ChangeOld
import Derived.Test.YtcjpmgfobnaoeaaPNodesTellx4
import Derived.Test.YtcjpmgfobnaoeaaPNodesTellx5
import Derived.Test.YtcjpmgfobnaoeaaPNodesTellx7
import Derived.Test.YtcjpmgfobnaoeaaPNodesTellx9
import Derived.LaidEqlPtr
import Derived.Laws.StructEq
import Derived.RangeFuncNested
import Derived.RangeFuncBound
import Derived.RangeFuncCalls
import Derived.RangeFuncLeaves
import Derived.Shelf.Abstract
import Derived.Shelf.RegionOpen
import Derived.OwnWalkIn
import Derived.TacticsInMore
import Derived.LoopNIn
import Derived.LoopIn
import Derived.Sort.LoopGhostIn
import Derived.Maps.OwnIn
import Derived.Sort.CutIn
/- The data that the walks speak of: trees that came in, nodes that were made; how they lie in memory. Plain definitions and their small laws; no function of the program is walked here. -/
namespace Go.Proofs.Ytcjpmgfobnaoeaa
set_option linter.unusedVariables false
set_option linter.unusedSimpArgs false
open Go.RowKit

/-! ### Trees that came in -/

/-! ### Slices of numbers that came in: elements of sz cells, below block B -/

/-- The slice 'v' has the elements es, each of sz cells. -/
def SlcAt (B : Nat) (w : World) (sz : Nat) (v : Value) (es : List (List Value)) : Prop :=
  (∃ a c, v = .slice a 0 c ∧ es = []) ∨
  ∃ b o c, v = .slice (some ⟨b, o, none⟩) es.length c ∧ es.length ≤ c ∧ b < B ∧ ∀ i (h : i < es.length) j u, (es[i])[j]? = some u → w.cell? ⟨b, o + i * sz + j, none⟩ = some u

theorem SlcAt.val {B : Nat} {w : World} {sz : Nat} {v : Value} {es : List (List Value)} (h : SlcAt B w sz v es) : ∃ a c, v = .slice a es.length c ∧ (0 < es.length → ∃ b o, a = some ⟨b, o, none⟩ ∧ b < B ∧ es.length ≤ c ∧
    ∀ i (h : i < es.length) j u, (es[i])[j]? = some u → w.cell? ⟨b, o + i * sz + j, none⟩ = some u) := by
  rcases h with ⟨a, c, rfl, rfl⟩ | ⟨b, o, c, rfl, h2, h3, h4⟩
  · exact ⟨a, c, rfl, fun h => by simp at h⟩
  · exact ⟨_, c, rfl, fun _ => ⟨b, o, rfl, h3, h2, h4⟩⟩

/-! ### Nodes that were made -/

/-- A node, with the block in which it lies, and the value of its field kids. -/
inductive Nd where
  | mk (b : Nat) (tk bt ld ht sy pr wd st lk : Int) (fm : Bool) (ks : Value) (kids : List Nd)

namespace Nd
def b : Nd → Nat | .mk b .. => b
def tk : Nd → Int | .mk _ x .. => x
def bt : Nd → Int | .mk _ _ x .. => x
def ld : Nd → Int | .mk _ _ _ x .. => x
def ht : Nd → Int | .mk _ _ _ _ x .. => x
def sy : Nd → Int | .mk _ _ _ _ _ x .. => x
def pr : Nd → Int | .mk _ _ _ _ _ _ x .. => x
def wd : Nd → Int | .mk _ _ _ _ _ _ _ x .. => x
def st : Nd → Int | .mk _ _ _ _ _ _ _ _ x .. => x
def lk : Nd → Int | .mk _ _ _ _ _ _ _ _ _ x .. => x
def fm : Nd → Bool | .mk _ _ _ _ _ _ _ _ _ _ x .. => x
def ks : Nd → Value | .mk _ _ _ _ _ _ _ _ _ _ _ x _ => x
def kids : Nd → List Nd | .mk _ _ _ _ _ _ _ _ _ _ _ _ x => x
/-- The pointer to it. -/
def ptr (n : Nd) : Value := .pointer (some ⟨n.b, 0, none⟩)
/-- Its cells. -/
def cs (n : Nd) : Array Value := #[.int .i64 n.tk, .int .i64 n.bt, .int .i64 n.ld, .int .i64 n.ht, .int .i64 n.sy, .int .i64 n.pr, .int .i64 n.wd, .int .i64 n.st, .int .i64 n.lk, .bool n.fm, n.ks]
end Nd

mutual
/-- The blocks in which a node lies, with all below it. -/
def Nd.blocks : Nd → List Nat
  | .mk b _ _ _ _ _ _ _ _ _ _ ks kids => b :: (ks.ownBlock.toList ++ NdsBlocks kids)
def NdsBlocks : List Nd → List Nat
  | [] => []
  | n :: ns => n.blocks ++ NdsBlocks ns
end

mutual
/-- The node lies in the world, with all below it. -/
def Nd.In (w : World) : Nd → Prop
  | .mk b tk bt ld ht sy pr wd st lk fm ks kids =>
    w.heap[b]? = some (.cells (Nd.mk b tk bt ld ht sy pr wd st lk fm ks kids).cs 87 (0, 0)) ∧ w.ownsRow 0 33 1 ks kids.length (kids.map Nd.ptr) ∧ NdsIn w kids
def NdsIn (w : World) : List Nd → Prop
  | [] => True
  | n :: ns => n.In w ∧ NdsIn w ns
end

theorem NdsIn_iff {w : World} : ∀ {ns : List Nd}, NdsIn w ns ↔ ∀ n ∈ ns, n.In w
  | [] => by simp [NdsIn]
  | n :: ns => by simp [NdsIn, NdsIn_iff (ns := ns)]

theorem Nd.In.head {w : World} {n : Nd} (h : n.In w) : w.heap[n.b]? = some (.cells n.cs 87 (0, 0)) ∧ w.ownsRow 0 33 1 n.ks n.kids.length (n.kids.map Nd.ptr) ∧ ∀ k ∈ n.kids, k.In w := by
  cases n with
  | mk b tk bt ld ht sy pr wd st lk fm ks kids => unfold Nd.In at h; exact ⟨h.1, h.2.1, NdsIn_iff.1 h.2.2⟩

theorem Nd.In.mk' {w : World} {n : Nd} (h1 : w.heap[n.b]? = some (.cells n.cs 87 (0, 0))) (h2 : w.ownsRow 0 33 1 n.ks n.kids.length (n.kids.map Nd.ptr)) (h3 : ∀ k ∈ n.kids, k.In w) : n.In w := by
  cases n with
  | mk b tk bt ld ht sy pr wd st lk fm ks kids => unfold Nd.In; exact ⟨h1, h2, NdsIn_iff.2 h3⟩

theorem Nd.blocks_eq (n : Nd) : n.blocks = n.b :: (n.ks.ownBlock.toList ++ NdsBlocks n.kids) := by
  cases n; rfl

theorem ownsRow_of_block {w w' : World} {base e sz : Nat} {v : Value} {n : Nat} {xs : List Value} (h : w.ownsRow base e sz v n xs) (hk : ∀ k, v.ownBlock = some k → w'.heap[k]? = w.heap[k]?) : w'.ownsRow base e sz v n xs := by
  refine ⟨h.1, ?_⟩
  rcases h.2 with hn | ⟨g, cap, cur, rfl, hb, hg, rest⟩
  · exact .inl hn
  · exact .inr ⟨g, cap, cur, rfl, hb, by rw [hk g rfl]; exact hg, rest⟩

mutual
/-- A node stays where its blocks do. -/
theorem Nd.In.frame {w w' : World} : ∀ {n : Nd}, n.In w → (∀ k ∈ n.blocks, w'.heap[k]? = w.heap[k]?) → n.In w'
  | .mk b tk bt ld ht sy pr wd st lk fm ks kids, h, hk => by
    unfold Nd.In at *
    unfold Nd.blocks at hk
    refine ⟨by rw [hk b (by simp)]; exact h.1, ownsRow_of_block h.2.1 fun k e => hk k (by simp [e]), NdsIn.frame h.2.2 fun k hm => hk k (by simp [hm])⟩
theorem NdsIn.frame {w w' : World} : ∀ {ns : List Nd}, NdsIn w ns → (∀ k ∈ NdsBlocks ns, w'.heap[k]? = w.heap[k]?) → NdsIn w' ns
  | [], _, _ => by unfold NdsIn; trivial
  | n :: ns, h, hk => by
    unfold NdsIn at *
    unfold NdsBlocks at hk
    exact ⟨Nd.In.frame h.1 fun k hm => hk k (by simp [hm]), NdsIn.frame h.2 fun k hm => hk k (by simp [hm])⟩
end

mutual
/-- Its blocks are blocks of the world. -/
theorem Nd.In.lt {w : World} : ∀ {n : Nd}, n.In w → ∀ k ∈ n.blocks, k < w.heap.size
  | .mk b tk bt ld ht sy pr wd st lk fm ks kids, h, k, hk => by
    unfold Nd.In at h
    unfold Nd.blocks at hk
    simp only [List.mem_cons, List.mem_append, Option.mem_toList] at hk
    rcases hk with rfl | hk | hk
    · exact (Array.getElem?_eq_some_iff.1 h.1).1
    · exact (h.2.1.lt k hk).2
    · exact NdsIn.lt h.2.2 k hk
theorem NdsIn.lt {w : World} : ∀ {ns : List Nd}, NdsIn w ns → ∀ k ∈ NdsBlocks ns, k < w.heap.size
  | [], _, k, hk => by unfold NdsBlocks at hk; simp at hk
  | n :: ns, h, k, hk => by
    unfold NdsIn at h
    unfold NdsBlocks at hk
    rcases List.mem_append.1 hk with hk | hk
    · exact Nd.In.lt h.1 k hk
    · exact NdsIn.lt h.2 k hk
end

theorem Nd.In.below {w w' : World} {n : Nd} (h : n.In w) (hb : Below w.heap.size w w') : n.In w' := h.frame fun k hk => hb.block k (h.lt k hk)

theorem cell_of_heap {w : World} {b i : Nat} {c : Array Value} {e : TypeId} {fr : Nat × Nat} {v : Value} (h : w.heap[b]? = some (.cells c e fr)) (hv : c[i]? = some v) : w.cell? ⟨b, i, none⟩ = some v := by
  simp [World.cell?, h, hv]

theorem frozen_of_heap {w : World} {b i : Nat} {c : Array Value} {e : TypeId} (h : w.heap[b]? = some (.cells c e (0, 0))) : w.frozen? ⟨b, i, none⟩ = false := by
  simp [World.frozen?, h]

/-- The node's cells, as the walk asks for them. -/
structure NdCells (w : World) (n : Nd) : Prop where
  c0 : w.cell? ⟨n.b, 0, none⟩ = some (.int .i64 n.tk)
  c1 : w.cell? ⟨n.b, 1, none⟩ = some (.int .i64 n.bt)
  c2 : w.cell? ⟨n.b, 2, none⟩ = some (.int .i64 n.ld)
  c3 : w.cell? ⟨n.b, 3, none⟩ = some (.int .i64 n.ht)
  c4 : w.cell? ⟨n.b, 4, none⟩ = some (.int .i64 n.sy)
  c5 : w.cell? ⟨n.b, 5, none⟩ = some (.int .i64 n.pr)
  c6 : w.cell? ⟨n.b, 6, none⟩ = some (.int .i64 n.wd)
  c7 : w.cell? ⟨n.b, 7, none⟩ = some (.int .i64 n.st)
  c8 : w.cell? ⟨n.b, 8, none⟩ = some (.int .i64 n.lk)
  c9 : w.cell? ⟨n.b, 9, none⟩ = some (.bool n.fm)
  c10 : w.cell? ⟨n.b, 10, none⟩ = some n.ks

theorem Nd.In.cells {w : World} {n : Nd} (h : n.In w) : NdCells w n :=
  have h1 := h.head.1
  ⟨cell_of_heap h1 rfl, cell_of_heap h1 rfl, cell_of_heap h1 rfl, cell_of_heap h1 rfl, cell_of_heap h1 rfl, cell_of_heap h1 rfl, cell_of_heap h1 rfl, cell_of_heap h1 rfl, cell_of_heap h1 rfl, cell_of_heap h1 rfl, cell_of_heap h1 rfl⟩

end Go.Proofs.Ytcjpmgfobnaoeaa

/- The contracts of what a node tells of itself. -/
namespace Go.Proofs.Ytcjpmgfobnaoeaa
set_option linter.unusedVariables false
set_option linter.unusedSimpArgs false
open Go.RowKit

theorem made_nil (w : World) : Calls Try.prog 70 #[.pointer none] w fun e w' => e = .returned (.bool false) ∧ w' = w := by
  go_enter Try.func70, Try.ntmps70
  go_wp2
  go_ret
  exact ⟨rfl, rfl⟩

theorem made_some (b : Nat) (h : Int) (w : World) (hc : w.cell? ⟨b, 3, none⟩ = some (.int .i64 h)) : Calls Try.prog 70 #[.pointer (some ⟨b, 0, none⟩)] w fun e w' => e = .returned (.bool (decide (0 < h))) ∧ w' = w := by
  go_enter Try.func70, Try.ntmps70
  go_wp2
  go_ret
  exact ⟨rfl, rfl⟩

theorem made_yes (n : Nd) (w : World) (h : n.In w) (h0 : 0 < n.ht) : Calls Try.prog 70 #[n.ptr] w fun e w' => e = .returned (.bool true) ∧ w' = w :=
  (made_some n.b n.ht w h.cells.c3).mono fun e w' ⟨h1, h2⟩ => ⟨by rw [h1, decide_eq_true h0], h2⟩
theorem made_no (n : Nd) (w : World) (h : n.In w) (h0 : n.ht ≤ 0) : Calls Try.prog 70 #[n.ptr] w fun e w' => e = .returned (.bool false) ∧ w' = w :=
  (made_some n.b n.ht w h.cells.c3).mono fun e w' ⟨h1, h2⟩ => ⟨by rw [h1, decide_eq_false (by omega)], h2⟩

theorem field85_0 (a b c d : Int) (w : World) : (Instr.field 85 (.agg #[.int .i64 a, .int .i64 b, .int .i64 c, .int .i64 d]) 0).run Try.prog w = .ok (.int .i64 a) w := by kernel_rfl
theorem field85_1 (a b c d : Int) (w : World) : (Instr.field 85 (.agg #[.int .i64 a, .int .i64 b, .int .i64 c, .int .i64 d]) 1).run Try.prog w = .ok (.int .i64 b) w := by kernel_rfl
theorem field85_2 (a b c d : Int) (w : World) : (Instr.field 85 (.agg #[.int .i64 a, .int .i64 b, .int .i64 c, .int .i64 d]) 2).run Try.prog w = .ok (.int .i64 c) w := by kernel_rfl
theorem field85_3 (a b c d : Int) (w : World) : (Instr.field 85 (.agg #[.int .i64 a, .int .i64 b, .int .i64 c, .int .i64 d]) 3).run Try.prog w = .ok (.int .i64 d) w := by kernel_rfl
attribute [local go_sem] field85_0 field85_1 field85_2 field85_3

theorem sum_some (b : Nat) (k1 k2 k3 k4 : Int) (w : World) (h0 : w.cell? ⟨b, 0, none⟩ = some (.int .i64 k1)) (h1 : w.cell? ⟨b, 1, none⟩ = some (.int .i64 k2)) (h2 : w.cell? ⟨b, 2, none⟩ = some (.int .i64 k3)) (h3 : w.cell? ⟨b, 3, none⟩ = some (.int .i64 k4)) :
    Calls Try.prog 66 #[.pointer (some ⟨b, 0, none⟩)] w fun e w' => e = .returned (.agg #[.int .i64 k1, .int .i64 k2, .int .i64 k3, .int .i64 k4]) ∧ Below w.heap.size w w' := by
  have lb : b < w.heap.size := World.block_lt_of_cell? w _ h0
  go_enter Try.func66, Try.ntmps66
  go_wp2
  exact bodyPost_ret (v := .agg #[.int .i64 k1, .int .i64 k2, .int .i64 k3, .int .i64 k4]) (by simp [results, Try.results66, go_sem]) rfl ⟨rfl, (Below.refl _ _).alloc (Nat.le_refl _) _⟩

theorem tokens_some (n : Nd) (w : World) (h : n.In w) : Calls Try.prog 24 #[n.ptr] w fun e w' => e = .returned (.int .i64 n.tk) ∧ Below w.heap.size w w' := by
  have hc := h.cells
  unfold Nd.ptr
  go_enter Try.func24, Try.ntmps24
  go_wp2_with (go_at_call 66; refine (sum_some n.b _ _ _ _ _ hc.c0 hc.c1 hc.c2 hc.c3).mono ?_; rintro e w' ⟨rfl, hb⟩)
  go_ret
  exact ⟨rfl, hb⟩

theorem bytes_some (n : Nd) (w : World) (h : n.In w) : Calls Try.prog 36 #[n.ptr] w fun e w' => e = .returned (.int .i64 n.bt) ∧ Below w.heap.size w w' := by
  have hc := h.cells
  unfold Nd.ptr
  go_enter Try.func36, Try.ntmps36
  go_wp2_with (go_at_call 66; refine (sum_some n.b _ _ _ _ _ hc.c0 hc.c1 hc.c2 hc.c3).mono ?_; rintro e w' ⟨rfl, hb⟩)
  go_ret
  exact ⟨rfl, hb⟩

theorem lead_some (n : Nd) (w : World) (h : n.In w) : Calls Try.prog 37 #[n.ptr] w fun e w' => e = .returned (.int .i64 n.ld) ∧ Below w.heap.size w w' := by
  have hc := h.cells
  unfold Nd.ptr
  go_enter Try.func37, Try.ntmps37
  go_wp2_with (go_at_call 66; refine (sum_some n.b _ _ _ _ _ hc.c0 hc.c1 hc.c2 hc.c3).mono ?_; rintro e w' ⟨rfl, hb⟩)
  go_ret
  exact ⟨rfl, hb⟩

theorem height_some (n : Nd) (w : World) (h : n.In w) : Calls Try.prog 62 #[n.ptr] w fun e w' => e = .returned (.int .i64 n.ht) ∧ Below w.heap.size w w' := by
  have hc := h.cells
  unfold Nd.ptr
  go_enter Try.func62, Try.ntmps62
  go_wp2_with (go_at_call 66; refine (sum_some n.b _ _ _ _ _ hc.c0 hc.c1 hc.c2 hc.c3).mono ?_; rintro e w' ⟨rfl, hb⟩)
  go_ret
  exact ⟨rfl, hb⟩

/-- What is none: nil, or a node that was not made. -/
def Dud (w : World) (p : Value) : Prop := p = .pointer none ∨ ∃ n : Nd, p = n.ptr ∧ n.In w ∧ n.ht ≤ 0

theorem made_dud {w : World} {p : Value} (h : Dud w p) : Calls Try.prog 70 #[p] w fun e w' => e = .returned (.bool false) ∧ w' = w := by
  rcases h with rfl | ⟨n, rfl, h1, h2⟩
  · exact made_nil w
  · exact made_no n w h1 h2

theorem sym_some (n : Nd) (w : World) (h : n.In w) (h0 : 0 < n.ht) : Calls Try.prog 32 #[n.ptr] w fun e w' => e = .returned (.int .i64 n.sy) ∧ w' = w := by
  have hc := h.cells.c4
  have hm : Calls Try.prog 70 #[.pointer (some ⟨n.b, 0, none⟩)] w fun e w' => e = .returned (.bool true) ∧ w' = w := made_yes n w h h0
  unfold Nd.ptr
  go_enter Try.func32, Try.ntmps32
  go_wp2_with (go_at_call 70; refine hm.mono ?_; rintro e w' ⟨rfl, rfl⟩)
  go_ret
  exact ⟨rfl, rfl⟩

theorem prod_some (n : Nd) (w : World) (h : n.In w) (h0 : 0 < n.ht) : Calls Try.prog 44 #[n.ptr] w fun e w' => e = .returned (.int .i64 n.pr) ∧ w' = w := by
  have hc := h.cells.c5
  have hm : Calls Try.prog 70 #[.pointer (some ⟨n.b, 0, none⟩)] w fun e w' => e = .returned (.bool true) ∧ w' = w := made_yes n w h h0
  unfold Nd.ptr
  go_enter Try.func44, Try.ntmps44
  go_wp2_with (go_at_call 70; refine hm.mono ?_; rintro e w' ⟨rfl, rfl⟩)
  go_ret
  exact ⟨rfl, rfl⟩

theorem below_alloc (w : World) (o : Obj) : Below w.heap.size w (w.alloc o) := (Below.refl _ _).alloc (Nat.le_refl _) _

theorem stamp_some (n : Nd) (w : World) (h : n.In w) (h0 : 0 < n.ht) : Calls Try.prog 61 #[n.ptr] w fun e w' => e = .returned (.agg #[.int .i64 n.st, .int .i64 n.lk, .bool n.fm]) ∧ Below w.heap.size w w' := by
  have hc7 := h.cells.c7
  have hc8 := h.cells.c8
  have hc9 := h.cells.c9
  have lb : n.b < w.heap.size := World.block_lt_of_cell? w _ hc7
  have hm : ∀ o, Calls Try.prog 70 #[.pointer (some ⟨n.b, 0, none⟩)] (w.alloc o) fun e w' => e = .returned (.bool true) ∧ w' = w.alloc o := fun o => made_yes n _ (h.below (below_alloc _ _)) h0
  unfold Nd.ptr
  go_enter Try.func61, Try.ntmps61
  go_wp2_with (go_at_call 70; refine (hm _).mono ?_; rintro e w' ⟨rfl, rfl⟩)
  exact bodyPost_ret (v := .agg #[.int .i64 n.st, .int .i64 n.lk, .bool n.fm]) (by simp [results, Try.results61, go_sem]) rfl ⟨rfl, (Below.refl _ _).alloc (Nat.le_refl _) _⟩

set_option maxHeartbeats 1000000 in
theorem token_leaf (n : Nd) (w : World) (h : n.In w) (h0 : 0 < n.ht) (h1 : n.pr < 0) : Calls Try.prog 60 #[n.ptr] w fun e w' => e = .returned (.tuple #[.agg #[.int .i64 n.sy, .int .i64 n.ld, .int .i64 n.wd], .bool true]) ∧ Below w.heap.size w w' := by
  have hc2 := h.cells.c2
  have hc4 := h.cells.c4
  have hc5 := h.cells.c5
  have hc6 := h.cells.c6
  have lb : n.b < w.heap.size := World.block_lt_of_cell? w _ hc5
  have hm : ∀ o, Calls Try.prog 70 #[.pointer (some ⟨n.b, 0, none⟩)] (w.alloc o) fun e w' => e = .returned (.bool true) ∧ w' = w.alloc o := fun o => made_yes n _ (h.below (below_alloc _ _)) h0
  unfold Nd.ptr
  go_enter Try.func60, Try.ntmps60
  go_wp2_with (go_at_call 70; refine (hm _).mono ?_; rintro e w' ⟨rfl, rfl⟩)
  go_region
  go_wp2
  exact bodyPost_ret (v := .tuple #[.agg #[.int .i64 n.sy, .int .i64 n.ld, .int .i64 n.wd], .bool true]) (by simp [results, Try.results60, go_sem]) rfl ⟨rfl, ((Below.refl _ _).alloc (Nat.le_refl _) _).drew⟩
theorem token_node (n : Nd) (w : World) (h : n.In w) (h0 : 0 < n.ht) (h1 : 0 ≤ n.pr) : Calls Try.prog 60 #[n.ptr] w fun e w' => e = .returned (.tuple #[.agg #[.int .i64 0, .int .i64 0, .int .i64 0], .bool false]) ∧ Below w.heap.size w w' := by
  have hc5 := h.cells.c5
  have lb : n.b < w.heap.size := World.block_lt_of_cell? w _ hc5
  have hm : ∀ o, Calls Try.prog 70 #[.pointer (some ⟨n.b, 0, none⟩)] (w.alloc o) fun e w' => e = .returned (.bool true) ∧ w' = w.alloc o := fun o => made_yes n _ (h.below (below_alloc _ _)) h0
  unfold Nd.ptr
  go_enter Try.func60, Try.ntmps60
  go_wp2_with (go_at_call 70; refine (hm _).mono ?_; rintro e w' ⟨rfl, rfl⟩)
  exact bodyPost_ret (v := .tuple #[.agg #[.int .i64 0, .int .i64 0, .int .i64 0], .bool false]) (by simp [results, Try.results60, go_sem]) rfl ⟨rfl, (Below.refl _ _).alloc (Nat.le_refl _) _⟩

/-! ### slices.Clone at pointers to nodes -/
theorem info33 : (Try.prog.info? 33).map (fun i => (i.zero, i.size, i.bytes)) = some (some (.pointer none), 1, 8) := by kernel_rfl

theorem clone_nil (n c : Nat) (w : World) : Calls Try.prog 73 #[.slice none n c] w fun e w' => e = .returned (.slice none 0 0) ∧ w' = w := by
  have q45 : ∀ (w : World) (a : Option Addr) (n c n' c' : Nat), (binOp .eql 45 (.slice a n c) (.slice none n' c')).run Try.prog w = .ok (.bool a.isNone) w := fun w a n c n' c' => Lib.run_eql_slice_nil w _ _ a n c n' c' Try.underlying45
  go_enter Try.func73, Try.ntmps73
  go_wp2
  go_ret
  exact ⟨rfl, rfl⟩

set_option maxHeartbeats 1000000 in
theorem clone_some (ad : Addr) (n c : Nat) (xs : List Value) (w : World) (hl : xs.length = n) (hx : ∀ j u, xs[j]? = some u → w.cell? (ad.add j) = some u) (h1 : ∀ u ∈ xs, u.oneCell' = true) (hb : n * 8 ≤ 140737488355328) :
    Calls Try.prog 73 #[.slice (some ad) n c] w fun e w' => ∃ v', e = .returned v' ∧ w'.ownsRow w.heap.size 33 1 v' n xs ∧ v' ≠ .slice none 0 0 ∧ Below w.heap.size w w' := by
  have q45 : ∀ (w : World) (a : Option Addr) (n c n' c' : Nat), (binOp .eql 45 (.slice a n c) (.slice none n' c')).run Try.prog w = .ok (.bool a.isNone) w := fun w a n c n' c' => Lib.run_eql_slice_nil w _ _ a n c n' c' Try.underlying45
  obtain ⟨i0, hi, hz0, hz1, hz2⟩ := info_parts info33
  have HX := Lib.hid hx
  clear hx
  have HL := Lib.hid hl
  clear hl
  go_enter Try.func73, Try.ntmps73
  go_wp2_with (at_builtin; refine wpList_append_own _ rfl _ _ 45 rfl w.heap.size 33 i0 (.pointer none) 1 8 Try.underlying45 hi hz0 hz1 hz2 rfl (by decide) _ _ _ rfl (World.ownsRow_made w #[] 0 (Nat.le_refl _) (Nat.zero_le _) rfl) ad n c xs rfl ?qc1 ?qc2 ?qc3 ?qc4 ?qc5 ?qc6 ?_)
  case qc1 => rw [HL.out, Nat.mul_one]
  case qc2 =>
    intro j u hj
    exact Lib.cell?_alloc_some _ (HX.out j u hj)
  case qc3 => exact h1
  case qc4 => unfold maxLen; omega
  case qc5 => omega
  case qc6 => simp
  intro v' w1 hown hgrow hnil
  go_wp2
  go_ret
  refine ⟨v', rfl, by simpa using hown, ?_, ?_⟩
  · exact hnil
  · exact ((Below.refl _ w).alloc (Nat.le_refl _) _).grown hgrow (by simp) (by intro k hk; simp [Value.ownBlock] at hk; omega)

theorem ownsRow_cell {w : World} {base e : Nat} {v : Value} {n : Nat} {xs : List Value} (h : w.ownsRow base e 1 v n xs) (h0 : v ≠ .slice none 0 0) :
    ∃ g c, v = .slice (some ⟨g, 0, none⟩) n c ∧ n ≤ c ∧ base ≤ g ∧ g < w.heap.size ∧ ∀ j u, xs[j]? = some u → w.cell? ⟨g, j, none⟩ = some u := by
  rcases h.2 with ⟨h1, _⟩ | ⟨g, cap, cur, rfl, hb, hg, h3, h4, h5, h6⟩
  · exact absurd h1 h0
  · refine ⟨g, cap, rfl, h3, hb, (Array.getElem?_eq_some_iff.1 hg).1, fun j u hu => cell_of_heap hg ?_⟩
    rw [← h6] at hu
    rw [List.getElem?_take] at hu
    split at hu
    · simpa using hu
    · simp at hu

theorem oneCell_ptrs {ns : List Nd} : ∀ u ∈ ns.map Nd.ptr, u.oneCell' = true := by
  intro u hu
  obtain ⟨n, _, rfl⟩ := List.mem_map.1 hu
  rfl

/-- Kids: the pointers to the kids, in a row of the caller's own. -/
theorem kids_some (n : Nd) (w : World) (h : n.In w) (h0 : 0 < n.ht) (hl : n.kids.length ≤ 1000000) : Calls Try.prog 34 #[n.ptr] w fun e w' =>
    ∃ v', e = .returned v' ∧ w'.ownsRow w.heap.size 33 1 v' n.kids.length (n.kids.map Nd.ptr) ∧ Below w.heap.size w w' := by
  have hc := h.cells.c10
  have hm : Calls Try.prog 70 #[.pointer (some ⟨n.b, 0, none⟩)] w fun e w' => e = .returned (.bool true) ∧ w' = w := made_yes n w h h0
  have hr := h.head.2.1
  by_cases hs : n.ks = .slice none 0 0
  · have hk : n.kids = [] := by
      rcases hr.2 with ⟨_, h2⟩ | ⟨g, cap, cur, h1, _⟩
      · simpa using h2
      · rw [hs] at h1; simp at h1
    rw [hs] at hc
    rw [hk]
    clear hr hs hk
    unfold Nd.ptr
    go_enter Try.func34, Try.ntmps34
    go_wp2_with (first | (go_at_call 70; refine hm.mono ?_; rintro e w' ⟨rfl, rfl⟩) | (go_at_call 73; refine (clone_nil 0 0 _).mono ?_; rintro e w' ⟨rfl, rfl⟩))
    go_ret
    exact ⟨_, rfl, World.ownsRow_nil _ _ _ _, Below.refl _ _⟩
  · obtain ⟨g, c, h1, h2, h3, h4, h5⟩ := ownsRow_cell hr hs
    rw [h1] at hc
    have hlen : (n.kids.map Nd.ptr).length = n.kids.length := by simp
    have hcl : ∀ W, W = w → Calls Try.prog 73 #[.slice (some ⟨g, 0, none⟩) n.kids.length c] W fun e w' => ∃ v', e = .returned v' ∧ w'.ownsRow w.heap.size 33 1 v' n.kids.length (n.kids.map Nd.ptr) ∧ v' ≠ .slice none 0 0 ∧ Below w.heap.size w w' := by
      rintro W rfl
      exact clone_some ⟨g, 0, none⟩ _ c _ _ hlen (fun j u hu => by rw [Addr.add_lit, Nat.zero_add]; exact h5 j u hu) oneCell_ptrs (by omega)
    have HCL := Lib.hid hcl
    clear hr hs h1 h2 h3 h4 h5 hlen hcl
    unfold Nd.ptr
    go_enter Try.func34, Try.ntmps34
    go_wp2_with (first | (go_at_call 70; refine hm.mono ?_; rintro e w' ⟨rfl, rfl⟩) | (go_at_call 73; refine (HCL.out _ rfl).mono ?_; rintro e w' ⟨v', rfl, ho, _, hb⟩))
    go_ret
    exact ⟨v', rfl, ho, hb⟩

end Go.Proofs.Ytcjpmgfobnaoeaa

/- A region that draws its order and whose callees make memory, but turn nothing that is there: one walk in the text's order, over the class of such worlds. -/
namespace Go.Proofs.Ytcjpmgfobnaoeaa
set_option linter.unusedVariables false
set_option linter.unusedSimpArgs false
open Go.RowKit

/-- The worlds in which nothing of what w has is turned. -/
def Sb (w : World) : Type := { s : World // Below w.heap.size w s }
def Sb.w {w : World} (s : Sb w) : World := s.1
theorem Sb.below {w : World} (s : Sb w) : Below w.heap.size w s.w := s.2
theorem Sb.mk' {w : World} {W : World} (h : Below w.heap.size w W) : ∃ s : Sb w, W = s.w := ⟨⟨W, h⟩, rfl⟩
theorem Sb.cell {w : World} (s : Sb w) {b i : Nat} {v : Value} (h : w.cell? ⟨b, i, none⟩ = some v) : s.w.cell? ⟨b, i, none⟩ = some v :=
  (s.below.cell (p := ⟨b, i, none⟩) (World.block_lt_of_cell? w _ h)).trans h
theorem Calls.sb {P : Program} {f : FuncId} {args : Array Value} {w : World} {s : Sb w} {v : Value} (h : Calls P f args s.w fun e w' => e = .returned v ∧ Below s.w.heap.size s.w w') :
    Calls P f args s.w fun e w' => e = .returned v ∧ ∃ s' : Sb w, w' = s'.w :=
  h.mono fun _ _ ⟨he, hb⟩ => ⟨he, Sb.mk' (s.below.trans (hb.mono s.below.size))⟩
theorem Calls.sb_same {P : Program} {f : FuncId} {args : Array Value} {w : World} {s : Sb w} {v : Value} (h : Calls P f args s.w fun e w' => e = .returned v ∧ w' = s.w) :
    Calls P f args s.w fun e w' => e = .returned v ∧ ∃ s' : Sb w, w' = s'.w :=
  h.mono fun _ _ ⟨he, hb⟩ => ⟨he, s, hb⟩

instance (w : World) : Nonempty (Sb w) := ⟨⟨w, Below.refl _ _⟩⟩

theorem wp_region_sb {P : Program} {id : Nat} {Q : Exit → Act → World → Prop} {a : Act} {w : World} {l : List Oper} (hm : P.follows .mixedOrders = true) (hB : Region.lexB .any l.toArray = true)
    (h : wpQuiet P l.toArray (fun W => ∃ s : Sb w, W = s.w) (fun a' => ∀ s : Sb w, Q .normal a' s.w) l a) : (Code.region id l.toArray true).wp P Q a w :=
  wp_region_quiet (C := fun W => ∃ s : Sb w, W = s.w) hm hB (Sb.mk' (Below.refl _ _).drew) (by
    have e : (fun a' => ∀ s : Sb w, Q .normal a' s.w) = (fun a' => ∀ w', (∃ s : Sb w, w' = s.w) → Q .normal a' w') := by
      funext a'
      exact propext ⟨fun h w' ⟨s, hs⟩ => hs ▸ h s, fun h s => h _ ⟨s, rfl⟩⟩
    rw [← e]
    simpa using h)

/-! ### The cursor -/
end Go.Proofs.Ytcjpmgfobnaoeaa

/- Which nodes are well made, and what follows of their numbers. Plain. -/
namespace Go.Proofs.Ytcjpmgfobnaoeaa
set_option linter.unusedVariables false
set_option linter.unusedSimpArgs false

def sumTk (l : List Nd) : Int := (l.map Nd.tk).sum
def sumBt (l : List Nd) : Int := (l.map Nd.bt).sum
def maxHt : List Nd → Int
  | [] => 0
  | n :: ns => max n.ht (maxHt ns)
def headLd : List Nd → Int
  | [] => 0
  | n :: _ => n.ld

theorem sumTk_nil : sumTk [] = 0 := rfl
theorem sumTk_cons (n : Nd) (l : List Nd) : sumTk (n :: l) = n.tk + sumTk l := by simp [sumTk]
theorem sumBt_nil : sumBt [] = 0 := rfl
theorem sumBt_cons (n : Nd) (l : List Nd) : sumBt (n :: l) = n.bt + sumBt l := by simp [sumBt]

mutual
/-- A node that was made by Leaf and Make. -/
def Nd.WF : Nd → Prop
  | .mk _ tk bt ld ht sy pr wd st lk _ _ kids =>
    ((pr = -1 ∧ kids = [] ∧ tk = 1 ∧ ht = 1 ∧ bt = ld + wd ∧ 0 ≤ ld ∧ 0 ≤ wd ∧ bt ≤ 65536 ∧ 0 ≤ sy ∧ sy < 32 ∧ 0 ≤ st ∧ lk = -1) ∨
     (0 ≤ pr ∧ kids ≠ [] ∧ tk = sumTk kids ∧ bt = sumBt kids ∧ ld = headLd kids ∧ ht = maxHt kids + 1 ∧ wd = 0 ∧ tk ≤ 262144 ∧ bt ≤ 65536 ∧ 0 ≤ sy ∧ 0 ≤ st ∧ 0 ≤ lk)) ∧ NdsWF kids
def NdsWF : List Nd → Prop
  | [] => True
  | n :: ns => n.WF ∧ NdsWF ns
end

theorem NdsWF_iff : ∀ {ns : List Nd}, NdsWF ns ↔ ∀ n ∈ ns, n.WF
  | [] => by simp [NdsWF]
  | n :: ns => by simp [NdsWF, NdsWF_iff (ns := ns)]

theorem Nd.WF.cases {n : Nd} (h : n.WF) :
    (n.pr = -1 ∧ n.kids = [] ∧ n.tk = 1 ∧ n.ht = 1 ∧ n.bt = n.ld + n.wd ∧ 0 ≤ n.ld ∧ 0 ≤ n.wd ∧ n.bt ≤ 65536 ∧ 0 ≤ n.sy ∧ n.sy < 32 ∧ 0 ≤ n.st ∧ n.lk = -1) ∨
    (0 ≤ n.pr ∧ n.kids ≠ [] ∧ n.tk = sumTk n.kids ∧ n.bt = sumBt n.kids ∧ n.ld = headLd n.kids ∧ n.ht = maxHt n.kids + 1 ∧ n.wd = 0 ∧ n.tk ≤ 262144 ∧ n.bt ≤ 65536 ∧ 0 ≤ n.sy ∧ 0 ≤ n.st ∧ 0 ≤ n.lk) := by
  cases n with
  | mk b tk bt ld ht sy pr wd st lk fm ks kids => unfold Nd.WF at h; exact h.1

theorem Nd.WF.kid {n : Nd} (h : n.WF) : ∀ k ∈ n.kids, k.WF := by
  cases n with
  | mk b tk bt ld ht sy pr wd st lk fm ks kids => unfold Nd.WF at h; exact NdsWF_iff.1 h.2

/-- Induction on a node, all of its kids given. -/
theorem Nd.ind {p : Nd → Prop} (h : ∀ n : Nd, (∀ k ∈ n.kids, p k) → p n) : ∀ n : Nd, p n := by
  intro n
  refine Nd.rec (motive_1 := p) (motive_2 := fun l => ∀ k ∈ l, p k) ?_ ?_ ?_ n
  · intro b tk bt ld ht sy pr wd st lk fm ks kids ih
    exact h _ ih
  · intro k hk
    simp at hk
  · intro n ns h1 h2 k hk
    rcases List.mem_cons.1 hk with rfl | hk
    · exact h1
    · exact h2 k hk

theorem sumTk_ge {l : List Nd} (h : ∀ k ∈ l, 1 ≤ k.tk) : (l.length : Int) ≤ sumTk l ∧ ∀ k ∈ l, k.tk ≤ sumTk l := by
  induction l with
  | nil => simp [sumTk]
  | cons n ns ih =>
    obtain ⟨h1, h2⟩ := ih fun k hk => h k (by simp [hk])
    have hn := h n (by simp)
    rw [sumTk_cons]
    refine ⟨by simp; omega, fun k hk => ?_⟩
    rcases List.mem_cons.1 hk with rfl | hk
    · omega
    · have := h2 k hk; omega

theorem sumBt_ge {l : List Nd} (h : ∀ k ∈ l, 0 ≤ k.bt) : 0 ≤ sumBt l ∧ ∀ k ∈ l, k.bt ≤ sumBt l := by
  induction l with
  | nil => simp [sumBt]
  | cons n ns ih =>
    obtain ⟨h1, h2⟩ := ih fun k hk => h k (by simp [hk])
    have hn := h n (by simp)
    rw [sumBt_cons]
    refine ⟨by omega, fun k hk => ?_⟩
    rcases List.mem_cons.1 hk with rfl | hk
    · omega
    · have := h2 k hk; omega

theorem maxHt_ge {l : List Nd} : 0 ≤ maxHt l ∧ ∀ k ∈ l, k.ht ≤ maxHt l := by
  induction l with
  | nil => simp [maxHt]
  | cons n ns ih =>
    unfold maxHt
    refine ⟨by omega, fun k hk => ?_⟩
    rcases List.mem_cons.1 hk with rfl | hk
    · omega
    · have := ih.2 k hk; omega

/-- What holds of every well made node's numbers. -/
structure NdOk (n : Nd) : Prop where
  tk1 : 1 ≤ n.tk
  tk2 : n.tk ≤ 262144
  bt0 : 0 ≤ n.bt
  bt1 : n.bt ≤ 65536
  ld0 : 0 ≤ n.ld
  ld1 : n.ld ≤ n.bt
  wd0 : 0 ≤ n.wd
  ht1 : 1 ≤ n.ht
  sy0 : 0 ≤ n.sy
  len : (n.kids.length : Int) ≤ n.tk
  klen : n.kids.length ≤ 262144
  pr1 : -1 ≤ n.pr
  kht : ∀ k ∈ n.kids, k.ht < n.ht
  ktk : ∀ k ∈ n.kids, k.tk ≤ n.tk
  kbt : ∀ k ∈ n.kids, k.bt ≤ n.bt

theorem Nd.WF.ok : ∀ n : Nd, n.WF → NdOk n := by
  refine Nd.ind ?_
  intro n ih h
  have ih' : ∀ k ∈ n.kids, NdOk k := fun k hk => ih k hk (h.kid k hk)
  rcases h.cases with ⟨h1, h2, h3, h4, h5, h6, h7, h8, h9, h10, h11, h12⟩ | ⟨h1, h2, h3, h4, h5, h6, h7, h8, h9, h10, h11, h12⟩
  · refine ⟨by omega, by omega, by omega, by omega, by omega, by omega, by omega, by omega, by omega, by rw [h2]; simp; omega, by rw [h2]; simp, by omega, ?_, ?_, ?_⟩ <;> (rw [h2]; simp)
  · obtain ⟨t1, t2⟩ := sumTk_ge fun k hk => (ih' k hk).tk1
    obtain ⟨b1, b2⟩ := sumBt_ge fun k hk => (ih' k hk).bt0
    obtain ⟨m1, m2⟩ := maxHt_ge (l := n.kids)
    have hld : 0 ≤ n.ld ∧ n.ld ≤ n.bt := by
      rw [h5, h4]
      cases hk : n.kids with
      | nil => exact absurd hk h2
      | cons k ks =>
        have := ih' k (by rw [hk]; simp)
        have hb := b2 k (by rw [hk]; simp)
        rw [hk] at hb
        have := this.ld0
        have := (ih' k (by rw [hk]; simp)).ld1
        rw [show headLd (k :: ks) = k.ld from rfl]
        omega
    have hl : 1 ≤ n.kids.length := by
      cases hk : n.kids with
      | nil => exact absurd hk h2
      | cons k ks => simp
    refine ⟨by omega, by omega, by omega, by omega, hld.1, hld.2, by omega, by omega, by omega, by omega, by omega, by omega, ?_, ?_, ?_⟩
    · intro k hk; have := m2 k hk; omega
    · intro k hk; have := t2 k hk; omega
    · intro k hk; have := b2 k hk; omega

theorem Nd.WF.sum {n : Nd} (h : n.WF) : sumTk n.kids ≤ n.tk ∧ sumBt n.kids ≤ n.bt := by
  rcases h.cases with ⟨h1, h2, h3, h4, h5, h6, h7, h8, h9, h10, h11, h12⟩ | ⟨h1, h2, h3, h4, h5, h6, h7, h8, h9, h10, h11, h12⟩
  · rw [h2, sumTk_nil, sumBt_nil]; omega
  · omega

theorem drop_cons {α : Type} {l : List α} {i : Nat} (h : i < l.length) : l.drop i = l[i] :: l.drop (i + 1) := List.drop_eq_getElem_cons h

end Go.Proofs.Ytcjpmgfobnaoeaa

/- Laws for the walk: one element more, or another row's elements, behind a row of the call's own. -/
namespace Go.Proofs.Ytcjpmgfobnaoeaa
set_option linter.unusedVariables false
set_option linter.unusedSimpArgs false
open Go.RowKit

theorem ownsRow_base {w : World} {b b' e sz : Nat} {v : Value} {n : Nat} {xs : List Value} (h : w.ownsRow b e sz v n xs) (hb : b' ≤ b) : w.ownsRow b' e sz v n xs := by
  refine ⟨h.1, ?_⟩
  rcases h.2 with h | ⟨g, c, cur, h1, h2, h3⟩
  · exact .inl h
  · exact .inr ⟨g, c, cur, h1, Nat.le_trans hb h2, h3⟩

/-- What stands behind an append: the row lies at g; below base nothing is turned; nothing is turned but the old row. -/
structure Grew (base : Nat) (v : Value) (w w' : World) (g : Nat) : Prop where
  below : Below base w w'
  ge : base ≤ g
  lt : g < w'.heap.size
  at_ : v.ownBlock = some g ∨ w.heap.size ≤ g
  far : ∀ k, k < w.heap.size → some k ≠ v.ownBlock → w'.heap[k]? = w.heap[k]?

theorem grew_of {base e sz n m : Nat} {v : Value} {xs ys : List Value} {w w' : World} {g c : Nat} (hown : w.ownsRow base e sz v n xs) (hown' : w'.ownsRow base e sz (.slice (some ⟨g, 0, none⟩) m c) m ys) (hg : w.grownBy w' v.ownBlock)
    (hat : v.ownBlock = some g ∨ g = w.heap.size) (hlt : g < w'.heap.size) (hbase : base ≤ w.heap.size) : Grew base v w w' g where
  below := (Below.refl _ _).grown hg hbase fun k hk => (hown.lt k hk).1
  ge := (hown'.lt g rfl).1
  lt := hlt
  at_ := hat.imp_right fun e => Nat.le_of_eq e.symm
  far := hg.block

theorem news_lit (w : World) (us : List Value) (E : TypeId) : ∀ (j : Nat) u, us[j]? = some u → (w.alloc (.cells us.toArray E)).cell? ((⟨w.heap.size, 0, none⟩ : Addr).add j) = some u :=
  World.news_of_block (cs := us.toArray) (heap_alloc_new w _)

/-- 'append(s, x)', s a row of the call's own, x a literal that was just laid. -/
theorem wpList_push {P : Program} {ops : Array Oper} {rest : List Oper} {o : Oper} {a : Act} {Q : Exit → Act → World → Prop} {w : World} (hgd : o.guard = none) (s x : Operand) (T : TypeId)
    (ho : o.op = .call { callee := .builtin .append, args := #[s, x], argTypes := #[T, T] }) (E : TypeId) (z : Value) (sz bytes : Nat)
    (hinfo : (P.info? E).map (fun i => (i.zero, i.size, i.bytes)) = some (some z, sz, bytes)) (ht : P.underlying T = some (.slice E)) (hzs : z.cells.size = sz) (hsz : 0 < sz)
    (base : Nat) (v : Value) (n : Nat) (xs : List Value) (hs : a.eval s = v) (hown : w.ownsRow base E sz v n xs) (us : List Value) (hx : a.eval x = .slice (some ⟨w.heap.size, 0, none⟩) 1 1)
    (hus : us.length = 1 * sz) (h1 : ∀ u ∈ us, u.oneCell' = true) (hm : n + 1 ≤ 140737488355328) (hn : (n + 1) * bytes ≤ 140737488355328) (hbase : base ≤ w.heap.size)
    (h : ∀ g c w', w'.ownsRow base E sz (.slice (some ⟨g, 0, none⟩) (n + 1) c) (n + 1) (xs ++ us) → Grew base v w w' g →
      wpList P ops Q rest (a.put o.dst (.slice (some ⟨g, 0, none⟩) (n + 1) c)) w') :
    wpList P ops Q (o :: rest) a (w.alloc (.cells us.toArray E)) := by
  obtain ⟨i0, hi, hz0, hz1, hz2⟩ := info_parts hinfo
  refine wpList_append_lies _ hgd s x T ho base E i0 z sz bytes ht hi hz0 hz1 hz2 hzs hsz v n xs hs (hown.alloc _) ⟨w.heap.size, 0, none⟩ 1 1 us hx hus (news_lit w us E) h1 (by omega) (by unfold maxLen; omega) hn (by simp; omega) _ rfl ?_
  intro g c w' h1' h2 h3 h4
  refine h g c w' h1' ?_
  have G := grew_of (hown.alloc _) h1' h2 h3 h4 (by simp; omega)
  exact ⟨((Below.refl _ _).alloc hbase _).trans G.below, G.ge, G.lt, by
    rcases h3 with h3 | h3
    · exact .inl h3
    · exact .inr (by simp at h3; omega), fun k hk hne => (G.far k (by simp; omega) hne).trans (Below.heap_alloc _ _ _ hk)⟩

/-- A row's block is no block of other cells. -/
theorem own_ne {w : World} {base e sz : Nat} {v : Value} {n : Nat} {xs : List Value} (h : w.ownsRow base e sz v n xs) {g : Nat} {cs : Array Value} {t : TypeId} (hg : w.heap[g]? = some (.cells cs t (0, 0))) (ht : t ≠ e := by decide) : some g ≠ v.ownBlock := by
  intro he
  rcases h.2 with ⟨rfl, _⟩ | ⟨g', c, cur, rfl, _, h3, _⟩
  · simp [Value.ownBlock] at he
  · simp [Value.ownBlock] at he
    subst he
    rw [hg] at h3
    simp at h3
    exact ht h3.2

/-- A row of one-cell elements, nil or not: the slice written out; a cell of it where there is one. -/
theorem ownsRow_any {w : World} {base e : Nat} {v : Value} {n : Nat} {xs : List Value} (h : w.ownsRow base e 1 v n xs) :
    ∃ a c, v = .slice a n c ∧ ∀ j u, xs[j]? = some u → ∃ g, a = some ⟨g, 0, none⟩ ∧ base ≤ g ∧ g < w.heap.size ∧ w.cell? ⟨g, j, none⟩ = some u := by
  rcases h.2 with ⟨rfl, rfl⟩ | ⟨g, cap, cur, rfl, hb, hg, h3, h4, h5, h6⟩
  · refine ⟨none, 0, rfl, fun j u hu => ?_⟩
    have : xs = [] := by have := h.1; simpa using this
    rw [this] at hu
    simp at hu
  · refine ⟨_, cap, rfl, fun j u hu => ⟨g, rfl, hb, (Array.getElem?_eq_some_iff.1 hg).1, cell_of_heap hg ?_⟩⟩
    rw [← h6] at hu
    rw [List.getElem?_take] at hu
    split at hu
    · simpa using hu
    · simp at hu

end Go.Proofs.Ytcjpmgfobnaoeaa


/- The chapter's answer for the cursor. -/
namespace Go.Proofs.Ytcjpmgfobnaoeaa
set_option linter.unusedVariables false
set_option linter.unusedSimpArgs false
open Go.RowKit

theorem ret_bool {a b : Bool} (h : a = b) : Ending.returned (.bool a) = .returned (.bool b) := by rw [h]
/-! ### The chapter's answer for the cursor -/
end Go.Proofs.Ytcjpmgfobnaoeaa

/- begins: the nodes that begin at a token, as the law finds them. -/
namespace Go.Proofs.Ytcjpmgfobnaoeaa
set_option linter.unusedVariables false
set_option linter.unusedSimpArgs false
open Go.RowKit

mutual
/-- How many nodes there are. -/
def Nd.cnt : Nd → Nat
  | .mk _ _ _ _ _ _ _ _ _ _ _ _ kids => 1 + NdsCnt kids
def NdsCnt : List Nd → Nat
  | [] => 0
  | n :: ns => n.cnt + NdsCnt ns
end
theorem Nd.cnt_eq (n : Nd) : n.cnt = 1 + NdsCnt n.kids := by cases n; rfl

end Go.Proofs.Ytcjpmgfobnaoeaa

/- The builder's stamps and tokens. -/
namespace Go.Proofs.Ytcjpmgfobnaoeaa
set_option linter.unusedVariables false
set_option linter.unusedSimpArgs false
open Go.RowKit

theorem setCell_heap {w : World} {g i : Nat} {c : Array Value} {e : TypeId} {fr : Nat × Nat} (h : w.heap[g]? = some (.cells c e fr)) (v : Value) : (w.setCell ⟨g, i, none⟩ v).heap[g]? = some (.cells (c.setIfInBounds i v) e fr) := by
  simp [World.setCell, Array.getElem?_modify, h]

/-- A stamp's cells; a token's. -/
def stCells (s : Int × Int × Bool) : List Value := [.int .i64 s.1, .int .i64 s.2.1, .bool s.2.2]
def tkCells (t : Int × Int × Int) : List Value := [.int .i64 t.1, .int .i64 t.2.1, .int .i64 t.2.2]

end Go.Proofs.Ytcjpmgfobnaoeaa

/- Leaf; the symbols of kids held against a body. -/
namespace Go.Proofs.Ytcjpmgfobnaoeaa
set_option linter.unusedVariables false
set_option linter.unusedSimpArgs false
open Go.RowKit

theorem heap_new2 (w : World) (a b : Obj) : ((w.alloc a).alloc b).heap[w.heap.size + 1]? = some b := by
  have := heap_alloc_new (w.alloc a) b
  simpa using this
theorem heap_new3 (w : World) (a b c : Obj) : (((w.alloc a).alloc b).alloc c).heap[w.heap.size + 1 + 1]? = some c := by
  have := heap_alloc_new ((w.alloc a).alloc b) c
  simpa using this

/-- Why a leaf is refused; 0: it is not. -/
def leafE (k l wd st : Int) : Int := if k < 0 ∨ 32 ≤ k ∨ st < 0 ∨ l < 0 ∨ wd < 0 then 2 else if 65536 < l ∨ 65536 - l < wd then 3 else 0

/-- A leaf's node. -/
def leafNd (g : Nat) (k l wd st : Int) (fm : Bool) : Nd := .mk g 1 (l + wd) l 1 k (-1) wd st (-1) fm (.slice none 0 0) []

set_option maxHeartbeats 1000000 in
theorem leaf_bad (k l wd st : Int) (fm : Bool) (w : World) (h : leafE k l wd st ≠ 0) : Calls Try.prog 45 #[.agg #[.int .i64 k, .int .i64 l, .int .i64 wd], .int .i64 st, .bool fm] w fun e w' =>
    e = .returned (.tuple #[.pointer none, .int .i64 (leafE k l wd st)]) ∧ Below w.heap.size w w' := by
  by_cases h2 : k < 0 ∨ 32 ≤ k ∨ st < 0 ∨ l < 0 ∨ wd < 0
  · rw [leafE, if_pos h2]
    have H := Lib.hid h2
    clear h h2
    go_enter Try.func45, Try.ntmps45
    go_wp2
    all_goals first
      | (go_ret2; exact ⟨rfl, (Below.refl _ _).alloc (Nat.le_refl _) _⟩)
      | (exfalso; have := H.out; omega)
  · have h3 : 65536 < l ∨ 65536 - l < wd := by
      unfold leafE at h
      rw [if_neg h2] at h
      by_cases h3 : 65536 < l ∨ 65536 - l < wd
      · exact h3
      · rw [if_neg h3] at h; exact absurd rfl h
    rw [leafE, if_neg h2, if_pos h3]
    have H := Lib.hid h3
    have h21 : 0 ≤ k := by omega
    have h22 : k < 32 := by omega
    have h23 : 0 ≤ st := by omega
    have h24 : 0 ≤ l := by omega
    have h25 : 0 ≤ wd := by omega
    clear h h2 h3
    go_enter Try.func45, Try.ntmps45
    go_wp2
    all_goals first
      | (go_ret2; exact ⟨rfl, (Below.refl _ _).alloc (Nat.le_refl _) _⟩)
      | (exfalso; have := H.out; omega)

theorem leaf_ok (k l wd st : Int) (fm : Bool) (w : World) (h : leafE k l wd st = 0) : Calls Try.prog 45 #[.agg #[.int .i64 k, .int .i64 l, .int .i64 wd], .int .i64 st, .bool fm] w fun e w' =>
    ∃ g, e = .returned (.tuple #[.pointer (some ⟨g, 0, none⟩), .int .i64 0]) ∧ w'.heap[g]? = some (.cells (leafNd g k l wd st fm).cs 87 (0, 0)) ∧ w.heap.size ≤ g ∧ Below w.heap.size w w' := by
  have h21 : 0 ≤ k ∧ k < 32 ∧ 0 ≤ st ∧ 0 ≤ l ∧ 0 ≤ wd ∧ l ≤ 65536 ∧ wd ≤ 65536 - l := by
    unfold leafE at h
    split at h
    · simp at h
    · split at h
      · simp at h
      · omega
  obtain ⟨h1, h2, h3, h4, h5, h6, h7⟩ := h21
  clear h
  go_enter Try.func45, Try.ntmps45
  go_wp2
  go_ret2
  refine ⟨_, rfl, ?_, ?_, ((((Below.refl _ _).alloc (Nat.le_refl _) _).alloc (by simp) _).alloc (by simp; omega) _)⟩
  · exact heap_new3 _ _ _ _
  · omega

theorem leafNd_in {g : Nat} {k l wd st : Int} {fm : Bool} {w : World} (h : w.heap[g]? = some (.cells (leafNd g k l wd st fm).cs 87 (0, 0))) : (leafNd g k l wd st fm).In w :=
  Nd.In.mk' h (World.ownsRow_nil _ _ _ _) (by intro k hk; simp [leafNd, Nd.kids] at hk)

theorem leafNd_wf {g : Nat} {k l wd st : Int} {fm : Bool} (h : leafE k l wd st = 0) : (leafNd g k l wd st fm).WF := by
  have h21 : 0 ≤ k ∧ k < 32 ∧ 0 ≤ st ∧ 0 ≤ l ∧ 0 ≤ wd ∧ l ≤ 65536 ∧ wd ≤ 65536 - l := by
    unfold leafE at h
    split at h
    · simp at h
    · split at h
      · simp at h
      · omega
  unfold leafNd Nd.WF
  refine ⟨.inl ⟨rfl, rfl, rfl, rfl, rfl, by omega, by omega, by omega, by omega, by omega, by omega, rfl⟩, ?_⟩
  unfold NdsWF
  trivial

theorem leafNd_blocks {g : Nat} {k l wd st : Int} {fm : Bool} : (leafNd g k l wd st fm).blocks = [g] := by
  simp [leafNd, Nd.blocks, NdsBlocks, Value.ownBlock]

/-! ### slices.EqualFunc at a body and kids -/
theorem symEq_call (s : Int) (n : Nd) (w : World) (h : n.In w) : Calls Try.prog 72 #[.int .i64 s, n.ptr] w fun e w' => e = .returned (.bool (n.sy == s)) ∧ w' = w := by
  have hc := h.cells.c4
  unfold Nd.ptr
  go_enter Try.func72, Try.ntmps72
  go_wp2
  go_ret
  exact ⟨rfl, rfl⟩

/-- Ints that lie in a slice. -/
def IntsAt (w : World) (v : Value) (xs : List Int) : Prop := ∃ a c, v = .slice a xs.length c ∧ ∀ j (h : j < xs.length), ∃ b o, a = some ⟨b, o, none⟩ ∧ w.cell? ⟨b, o + j, none⟩ = some (.int .i64 xs[j])
/-- Pointers that lie in a slice. -/
def PtrsAt (w : World) (v : Value) (ns : List Nd) : Prop := ∃ a c, v = .slice a ns.length c ∧ ∀ j (h : j < ns.length), ∃ b o, a = some ⟨b, o, none⟩ ∧ w.cell? ⟨b, o + j, none⟩ = some (ns[j]).ptr

set_option maxHeartbeats 1000000 in
theorem eqSyms_call (v u : Value) (xs : List Int) (ns : List Nd) (w : World) (hv : IntsAt w v xs) (hu : PtrsAt w u ns) (hn : ∀ n ∈ ns, n.In w) (hl : xs.length ≤ 1000000) (_ : ns.length ≤ 1000000) :
    Calls Try.prog 71 #[v, u, .func (.func 72) #[] #[]] w fun e w' => e = .returned (.bool (decide (xs = ns.map Nd.sy))) ∧ w' = w := by
  obtain ⟨a, c, rfl, hx⟩ := hv
  obtain ⟨a2, c2, rfl, hy⟩ := hu
  have HX := Lib.hid hx
  have HY := Lib.hid hy
  have HN := Lib.hid hn
  clear hx hy hn
  by_cases h0 : xs.length = ns.length
  · have hq : (xs.length : Int) = (ns.length : Int) := by omega
    have hq2 : ((xs.length : Int) != (ns.length : Int)) = false := by simp [h0]
    have HQ := Lib.hid h0
    clear h0 hq
    go_enter Try.func71, Try.ntmps71
    go_wp2
    go_loop [17] (fun iv => ∃ i : Nat, iv = .int .i64 i ∧ i ≤ xs.length ∧ Hid (xs.take i = (ns.map Nd.sy).take i)) (fun iv => xs.length - (intOf iv).toNat)
    case atStart => exact ⟨0, rfl, by omega, by simp [Hid]⟩
    case round =>
      obtain ⟨i, rfl, hi, HI⟩ := hrel
      by_cases hlt : i < xs.length
      · have hlt2 : i < ns.length := by have := HQ.out; omega
        obtain ⟨b1, o1, rfl, hc1⟩ := HX.out i hlt
        obtain ⟨b2, o2, rfl, hc2⟩ := HY.out i hlt2
        obtain ⟨x, hx⟩ : ∃ x, x = xs[i] := ⟨_, rfl⟩
        obtain ⟨n, hn⟩ : ∃ n, n = ns[i] := ⟨_, rfl⟩
        rw [← hx] at hc1
        rw [← hn] at hc2
        have hnin : n.In w := HN.out n (by rw [hn]; exact List.getElem_mem hlt2)
        have hc2' : w.cell? ⟨b2, o2 + i, none⟩ = some (.pointer (some ⟨n.b, 0, none⟩)) := hc2
        have HXI := Lib.hid hx
        have HNI := Lib.hid hn
        have HIN := Lib.hid hnin
        have hltI : (i : Int) < (xs.length : Int) := by omega
        have hltI2 : (i : Int) < (ns.length : Int) := by omega
        clear hx hn hnin hc2
        by_cases he : n.sy = x
        · have hcall : Calls Try.prog 72 #[.int .i64 x, .pointer (some ⟨n.b, 0, none⟩)] w fun e w' => e = .returned (.bool true) ∧ w' = w := by
            have := symEq_call x n w HIN.out
            rw [show (n.sy == x) = true by simpa using he] at this
            exact this
          have HE := Lib.hid he
          clear he
          go_wp2_with (go_at_call 72; refine hcall.mono ?_; rintro e w' ⟨rfl, rfl⟩)
          go_round
          case rel =>
            refine ⟨i + 1, by go_num, by omega, ?_⟩
            have h1 := HI.out
            have h2 := HE.out
            rw [HXI.out, HNI.out] at h2
            show xs.take (i + 1) = (ns.map Nd.sy).take (i + 1)
            rw [List.take_succ_eq_append_getElem hlt, List.take_succ_eq_append_getElem (by simpa using hlt2), h1, ← h2]
            simp
          case measure => simp [intOf]; omega
        · have hcall : Calls Try.prog 72 #[.int .i64 x, .pointer (some ⟨n.b, 0, none⟩)] w fun e w' => e = .returned (.bool false) ∧ w' = w := by
            have := symEq_call x n w HIN.out
            rw [show (n.sy == x) = false by simpa using he] at this
            exact this
          have HE := Lib.hid he
          clear he
          go_wp2_with (go_at_call 72; refine hcall.mono ?_; rintro e w' ⟨rfl, rfl⟩)
          go_ret
          refine ⟨ret_bool ?_, rfl⟩
          symm
          rw [decide_eq_false_iff_not]
          intro h
          have h2 := HE.out
          rw [HXI.out, HNI.out] at h2
          apply h2
          have : xs[i] = (ns.map Nd.sy)[i]'(by simpa using hlt2) := by simp only [h]
          rw [this]
          simp
      · have hge : ¬ ((i : Int) < (xs.length : Int)) := by omega
        have HE := Lib.hid (show xs = ns.map Nd.sy by
          have := HI.out
          rw [List.take_of_length_le (by omega), List.take_of_length_le (by simp; have := HQ.out; omega)] at this
          exact this)
        clear HI
        go_wp2
        go_ret
        exact ⟨ret_bool (by rw [decide_eq_true HE.out]), rfl⟩
  · have hq2 : ((xs.length : Int) != (ns.length : Int)) = true := by simp; omega
    have HQ := Lib.hid h0
    clear h0
    go_enter Try.func71, Try.ntmps71
    go_wp2
    go_ret
    refine ⟨ret_bool ?_, rfl⟩
    symm
    rw [decide_eq_false_iff_not]
    intro h
    exact HQ.out (by rw [h]; simp)
end Go.Proofs.Ytcjpmgfobnaoeaa

/- Make: the node, or why it is refused. -/
namespace Go.Proofs.Ytcjpmgfobnaoeaa
set_option linter.unusedVariables false
set_option linter.unusedSimpArgs false
open Go.RowKit

/-- Why Make refuses; 0: it does not. -/
def makeE (head : Int) (body : List Int) (prod st lk : Int) (kids : List Nd) : Int :=
  if prod < 0 ∨ head < 0 ∨ st < 0 ∨ lk < 0 ∨ body = [] then 2 else if body ≠ kids.map Nd.sy then 200 else if 65536 < sumBt kids ∨ 262144 < sumTk kids then 3 else 0

/-- The node that is made. -/
def makeNd (g : Nat) (ks : Value) (head prod st lk : Int) (fm : Bool) (kids : List Nd) : Nd := .mk g (sumTk kids) (sumBt kids) (headLd kids) (maxHt kids + 1) head prod 0 st lk fm ks kids

/-- What Make leaves. -/
def MakeSays (w : World) (head : Int) (body : List Int) (prod st lk : Int) (fm : Bool) (kids : List Nd) (e : Ending) (w' : World) : Prop :=
  Below w.heap.size w w' ∧
  ((makeE head body prod st lk kids ≠ 0 ∧ e = .returned (.tuple #[.pointer none, .int .i64 (makeE head body prod st lk kids)])) ∨
   (makeE head body prod st lk kids = 0 ∧ ∃ g ks, e = .returned (.tuple #[.pointer (some ⟨g, 0, none⟩), .int .i64 0]) ∧ w.heap.size ≤ g ∧ w'.heap[g]? = some (.cells (makeNd g ks head prod st lk fm kids).cs 87 (0, 0)) ∧
      w'.ownsRow w.heap.size 33 1 ks kids.length (kids.map Nd.ptr)))

theorem makeE_2 {head : Int} {body : List Int} {prod st lk : Int} {kids : List Nd} (h : prod < 0 ∨ head < 0 ∨ st < 0 ∨ lk < 0 ∨ body = []) : makeE head body prod st lk kids = 2 := by unfold makeE; rw [if_pos h]
theorem makeE_200 {head : Int} {body : List Int} {prod st lk : Int} {kids : List Nd} (h : ¬ (prod < 0 ∨ head < 0 ∨ st < 0 ∨ lk < 0 ∨ body = [])) (h2 : body ≠ kids.map Nd.sy) : makeE head body prod st lk kids = 200 := by unfold makeE; rw [if_neg h, if_pos h2]
theorem makeE_3 {head : Int} {body : List Int} {prod st lk : Int} {kids : List Nd} (h : ¬ (prod < 0 ∨ head < 0 ∨ st < 0 ∨ lk < 0 ∨ body = [])) (h2 : body = kids.map Nd.sy) (h3 : 65536 < sumBt kids ∨ 262144 < sumTk kids) : makeE head body prod st lk kids = 3 := by unfold makeE; rw [if_neg h, if_neg (by simpa using h2), if_pos h3]
theorem makeE_0 {head : Int} {body : List Int} {prod st lk : Int} {kids : List Nd} (h : ¬ (prod < 0 ∨ head < 0 ∨ st < 0 ∨ lk < 0 ∨ body = [])) (h2 : body = kids.map Nd.sy) (h3 : ¬ (65536 < sumBt kids ∨ 262144 < sumTk kids)) : makeE head body prod st lk kids = 0 := by unfold makeE; rw [if_neg h, if_neg (by simpa using h2), if_neg h3]

theorem sumTk_app (l m : List Nd) : sumTk (l ++ m) = sumTk l + sumTk m := by simp [sumTk]
theorem sumBt_app (l m : List Nd) : sumBt (l ++ m) = sumBt l + sumBt m := by simp [sumBt]
theorem sumTk_append (l : List Nd) (k : Nd) : sumTk (l ++ [k]) = sumTk l + k.tk := by simp [sumTk]
theorem sumBt_append (l : List Nd) (k : Nd) : sumBt (l ++ [k]) = sumBt l + k.bt := by simp [sumBt]
theorem maxHt_append (l : List Nd) (k : Nd) (h : 0 ≤ k.ht) : maxHt (l ++ [k]) = max (maxHt l) k.ht := by
  induction l with
  | nil => simp [maxHt]; omega
  | cons n ns ih => simp only [List.cons_append, maxHt, ih]; omega

/-- The height after so many kids. -/
def htI (kids : List Nd) (i : Nat) : Int := if i = 0 then 0 else maxHt (kids.take i) + 1
theorem htI_succ {kids : List Nd} {i : Nat} (h : i < kids.length) (h0 : 1 ≤ (kids[i]).ht) : htI kids (i + 1) = max (htI kids i) ((kids[i]).ht + 1) := by
  unfold htI
  rw [if_neg (by omega), List.take_succ_eq_append_getElem h, maxHt_append _ _ (by omega)]
  by_cases h1 : i = 0
  · subst h1; simp [maxHt]; omega
  · rw [if_neg h1]; omega
theorem sum_take_le {kids : List Nd} (h : ∀ k ∈ kids, k.WF) (i : Nat) : sumTk (kids.take i) ≤ sumTk kids ∧ sumBt (kids.take i) ≤ sumBt kids ∧ 0 ≤ sumTk (kids.take i) ∧ 0 ≤ sumBt (kids.take i) := by
  have e : kids = kids.take i ++ kids.drop i := (List.take_append_drop i kids).symm
  have h1 := (sumTk_ge (l := kids.drop i) fun k hk => (Nd.WF.ok k (h k (List.mem_of_mem_drop hk))).tk1).1
  have h2 := (sumBt_ge (l := kids.drop i) fun k hk => (Nd.WF.ok k (h k (List.mem_of_mem_drop hk))).bt0).1
  have h3 := (sumTk_ge (l := kids.take i) fun k hk => (Nd.WF.ok k (h k (List.mem_of_mem_take hk))).tk1).1
  have h4 := (sumBt_ge (l := kids.take i) fun k hk => (Nd.WF.ok k (h k (List.mem_of_mem_take hk))).bt0).1
  have e1 : sumTk kids = sumTk (kids.take i) + sumTk (kids.drop i) := by rw [← sumTk_app, ← e]
  have e2 : sumBt kids = sumBt (kids.take i) + sumBt (kids.drop i) := by rw [← sumBt_app, ← e]
  omega

theorem set3 {w wr : World} {g B : Nat} {c : Array Value} (hg : wr.heap[g]? = some (.cells c 87 (0, 0))) (hb : Below B w wr) (hB : B ≤ g) (x y z : Value) (n : Nat) :
    ((((wr.drewN n).setCell ⟨g, 1, none⟩ x).setCell ⟨g, 0, none⟩ y).setCell ⟨g, 3, none⟩ z).drew.drew.heap[g]? = some (.cells (((c.setIfInBounds 1 x).setIfInBounds 0 y).setIfInBounds 3 z) 87 (0, 0)) ∧
    Below B w ((((wr.drewN n).setCell ⟨g, 1, none⟩ x).setCell ⟨g, 0, none⟩ y).setCell ⟨g, 3, none⟩ z).drew.drew ∧
    ∀ {ks : Value} {m : Nat} {xs : List Value}, wr.ownsRow B 33 1 ks m xs → ((((wr.drewN n).setCell ⟨g, 1, none⟩ x).setCell ⟨g, 0, none⟩ y).setCell ⟨g, 3, none⟩ z).drew.drew.ownsRow B 33 1 ks m xs := by
  have h0 : (wr.drewN n).heap[g]? = some (.cells c 87 (0, 0)) := hg
  have hd : Below B w (wr.drewN n) := ⟨hb.os, hb.tape, hb.output, hb.size, hb.block⟩
  refine ⟨setCell_heap (setCell_heap (setCell_heap h0 x) y) z, (((hd.setCell (p := ⟨g, 1, none⟩) hB _).setCell (p := ⟨g, 0, none⟩) hB _).setCell (p := ⟨g, 3, none⟩) hB _).drew.drew, ?_⟩
  intro ks m xs h
  refine ownsRow_of_block h fun k hk => ?_
  have hkg : k ≠ g := fun e => own_ne h hg (by decide) (by rw [hk, e])
  show ((((wr.drewN n).setCell ⟨g, 1, none⟩ x).setCell ⟨g, 0, none⟩ y).setCell ⟨g, 3, none⟩ z).heap[k]? = _
  rw [Below.heap_setCell _ _ _ _ hkg, Below.heap_setCell _ _ _ _ hkg, Below.heap_setCell _ _ _ _ hkg]
  rfl

set_option maxHeartbeats 4000000 in
set_option maxRecDepth 100000 in
theorem make_any (head : Int) (bv : Value) (body : List Int) (right : Bool) (prod st lk : Int) (fm : Bool) (kv : Value) (kids : List Nd) (w : World) (hb : IntsAt w bv body) (hk : PtrsAt w kv kids) (hin : ∀ n ∈ kids, n.In w)
    (hwf : ∀ n ∈ kids, n.WF) (hht : ∀ n ∈ kids, n.ht ≤ 1000000) (hbl : body.length ≤ 1000000) (hkl : kids.length ≤ 1000000) :
    Calls Try.prog 33 #[.agg #[.int .i64 head, bv, .bool right], .int .i64 prod, .agg #[.int .i64 st, .int .i64 lk, .bool fm], kv] w (MakeSays w head body prod st lk fm kids) := by
  have hb' := hb
  have hk' := hk
  obtain ⟨ba, bc, rfl, hbx⟩ := hb
  obtain ⟨ka, kc, rfl, hkx⟩ := hk
  have HB := Lib.hid hb'
  have HK := Lib.hid hk'
  have HBX := Lib.hid hbx
  have HKX := Lib.hid hkx
  have HIN := Lib.hid hin
  have HWF := Lib.hid hwf
  have HHT := Lib.hid hht
  have hbox : ∀ W, W = (w.alloc (.cells #[.int .i64 head, .slice ba body.length bc, .bool right] 54)).alloc (.cells #[.int .i64 st, .int .i64 lk, .bool fm] 57) → Below w.heap.size w W ∧
      W.heap[w.heap.size]? = some (.cells #[.int .i64 head, .slice ba body.length bc, .bool right] 54 (0, 0)) ∧ W.heap[w.heap.size + 1]? = some (.cells #[.int .i64 st, .int .i64 lk, .bool fm] 57 (0, 0)) := by
    rintro W rfl
    exact ⟨((Below.refl _ _).alloc (Nat.le_refl _) _).alloc (by simp) _, by rw [Below.heap_alloc _ _ _ (by simp)]; exact heap_alloc_new _ _, heap_new2 _ _ _⟩
  have HBOX := Lib.hid hbox
  clear hb' hk' hbx hkx hin hwf hht hbox
  go_enter Try.func33, Try.ntmps33
  apply wp_seq_k
  intro K1 h1
  have H1 := Lib.hid h1
  clear h1
  go_wp2_with fail
  refine H1.out _ _ ?_
  clear H1 K1
  obtain ⟨hB1, hq1, hq2⟩ := HBOX.out _ rfl
  generalize (w.alloc (.cells #[.int .i64 head, .slice ba body.length bc, .bool right] 54)).alloc (.cells #[.int .i64 st, .int .i64 lk, .bool fm] 57) = W at *
  have HQ := Lib.hid (And.intro hq1 hq2)
  clear HBOX hq1 hq2
  go_upto_block 0 with fail
  go_cut [17] (fun _ wx => wx = W)
  case first =>
    go_wp2_with fail
    go_loop [17] (fun iv => ∃ i : Nat, iv = .int .i64 i ∧ i ≤ kids.length) (fun iv => kids.length - (intOf iv).toNat)
    case atStart => exact ⟨0, rfl, by omega⟩
    case round =>
      obtain ⟨i, rfl, hi⟩ := hrel
      by_cases hlt : i < kids.length
      · obtain ⟨b2, o2, rfl, hc2⟩ := HKX.out i hlt
        have hlb : b2 < w.heap.size := World.block_lt_of_cell? w _ hc2
        obtain ⟨n, hn⟩ : ∃ n, n = kids[i] := ⟨_, rfl⟩
        rw [← hn] at hc2
        have hmem : n ∈ kids := by rw [hn]; exact List.getElem_mem hlt
        have hc2' : W.cell? ⟨b2, o2 + i, none⟩ = some (.pointer (some ⟨n.b, 0, none⟩)) := (hB1.cell (p := ⟨b2, o2 + i, none⟩) hlb).trans hc2
        have hcall : Calls Try.prog 70 #[.pointer (some ⟨n.b, 0, none⟩)] W fun e w' => e = .returned (.bool true) ∧ w' = W := made_yes n W ((HIN.out n hmem).below hB1) (by have := (Nd.WF.ok n (HWF.out n hmem)).ht1; omega)
        have hltI : (i : Int) < (kids.length : Int) := by omega
        clear hn hmem hc2
        go_wp2_with (go_at_call 70; refine hcall.mono ?_; rintro e w' ⟨rfl, rfl⟩)
        go_round
        case rel => exact ⟨i + 1, by go_num, by omega⟩
        case measure => simp [intOf]; omega
      · have hge : ¬ ((i : Int) < (kids.length : Int)) := by omega
        go_wp2_with fail
        go_meet
        first | rfl | trivial
  case rest =>
    subst hcut
    obtain ⟨hq1, hq2⟩ := HQ.out
    have p0 : wc.cell? ⟨w.heap.size, 0, none⟩ = some (.int .i64 head) := cell_of_heap hq1 rfl
    have p1 : wc.cell? ⟨w.heap.size, 1, none⟩ = some (.slice ba body.length bc) := cell_of_heap hq1 rfl
    have s0 : wc.cell? ⟨w.heap.size + 1, 0, none⟩ = some (.int .i64 st) := cell_of_heap hq2 rfl
    have s1 : wc.cell? ⟨w.heap.size + 1, 1, none⟩ = some (.int .i64 lk) := cell_of_heap hq2 rfl
    have s2 : wc.cell? ⟨w.heap.size + 1, 2, none⟩ = some (.bool fm) := cell_of_heap hq2 rfl
    clear hq1 hq2
    by_cases hE2 : prod < 0 ∨ head < 0 ∨ st < 0 ∨ lk < 0 ∨ body = []
    · have hres := makeE_2 (kids := kids) hE2
      have HE := Lib.hid (show prod < 0 ∨ head < 0 ∨ st < 0 ∨ lk < 0 ∨ body.length = 0 by rcases hE2 with h | h | h | h | h <;> simp [h])
      have HR := Lib.hid hres
      clear hE2 hres
      go_wp2_with fail
      all_goals first
        | (go_ret2; exact ⟨hB1, .inl ⟨by rw [HR.out]; decide, by rw [HR.out]; first | done | rfl⟩⟩)
        | (exfalso; have h5 := HE.out; simp only [beq_eq_false_iff_ne, ne_eq] at *; omega)
    · have hE2' : 0 ≤ prod ∧ 0 ≤ head ∧ 0 ≤ st ∧ 0 ≤ lk ∧ 0 < body.length := by
        refine ⟨by omega, by omega, by omega, by omega, ?_⟩
        cases body with
        | nil => simp at hE2
        | cons x xs => simp
      obtain ⟨hp, hh, hst, hlk, hbn⟩ := hE2'
      have hbq : ((body.length : Int) == 0) = false := beq_eq_false_iff_ne.2 (by omega)
      have HE2 := Lib.hid hE2
      clear hE2
      have heq : Calls Try.prog 71 #[.slice ba body.length bc, .slice ka kids.length kc, .func (.func 72) #[] #[]] wc fun e w' => e = .returned (.bool (decide (body = kids.map Nd.sy))) ∧ w' = wc := by
        refine eqSyms_call _ _ body kids wc ?_ ?_ (fun n hn => (HIN.out n hn).below hB1) hbl hkl
        · obtain ⟨a, c, h1, h2⟩ := HB.out
          refine ⟨a, c, h1, fun j hj => ?_⟩
          obtain ⟨b, o, h3, h4⟩ := h2 j hj
          exact ⟨b, o, h3, (hB1.cell (p := ⟨b, o + j, none⟩) (World.block_lt_of_cell? w _ h4)).trans h4⟩
        · obtain ⟨a, c, h1, h2⟩ := HK.out
          refine ⟨a, c, h1, fun j hj => ?_⟩
          obtain ⟨b, o, h3, h4⟩ := h2 j hj
          exact ⟨b, o, h3, (hB1.cell (p := ⟨b, o + j, none⟩) (World.block_lt_of_cell? w _ h4)).trans h4⟩
      by_cases hE200 : body = kids.map Nd.sy
      · rw [decide_eq_true hE200] at heq
        have HE200 := Lib.hid hE200
        have hlen : body.length = kids.length := by rw [hE200]; simp
        have hkn : 0 < kids.length := by omega
        obtain ⟨b2, o2, rfl, hc0⟩ := HKX.out 0 hkn
        clear hE200 hlen
        go_upto_region 11 with (go_at_call 71; refine heq.mono ?_; rintro e w' ⟨rfl, rfl⟩)
        obtain ⟨n0, hn0⟩ : ∃ n0, n0 = kids[0] := ⟨_, rfl⟩
        rw [← hn0] at hc0
        have hm0 : n0 ∈ kids := by rw [hn0]; exact List.getElem_mem hkn
        have hld0 : headLd kids = n0.ld := by
          rw [hn0]
          cases kids with
          | nil => simp at hkn
          | cons x xs => rfl
        have hn0w := HIN.out n0 hm0
        have hcl := fun W (hW : Below w.heap.size w W) => clone_some ⟨b2, o2, none⟩ kids.length kc (kids.map Nd.ptr) W (by simp) (fun j u hu => by
          have hj : j < kids.length := by have := (List.getElem?_eq_some_iff.1 hu).1; simpa using this
          obtain ⟨b, o, h1, h2⟩ := HKX.out j hj
          injection h1 with h1
          injection h1 with h3 h4
          subst h3 h4
          rw [Addr.add_lit]
          rw [List.getElem?_map, List.getElem?_eq_getElem hj] at hu
          injection hu with hu
          rw [← hu]
          exact (hW.cell (p := ⟨b2, o2 + j, none⟩) (World.block_lt_of_cell? w _ h2)).trans h2) oneCell_ptrs (by omega)
        have HCL := Lib.hid hcl
        have HC0 := Lib.hid hc0
        have HN0 := Lib.hid hn0w
        have HLD := Lib.hid hld0
        clear hn0 hm0 hcl hc0 hn0w hld0 heq
        go_cut [12] (fun v wx => ∃ g ks, v = .pointer (some ⟨g, 0, none⟩) ∧ Below w.heap.size w wx ∧ w.heap.size ≤ g ∧
          wx.heap[g]? = some (.cells (Nd.mk g 0 0 0 0 head prod 0 st lk fm ks []).cs 87 (0, 0)) ∧ wx.ownsRow w.heap.size 33 1 ks kids.length (kids.map Nd.ptr))
        case first =>
          go_region_held3 (fun W => W.cell? ⟨w.heap.size, 0, none⟩ = some (.int .i64 head) ∧ W.cell? ⟨w.heap.size + 1, 0, none⟩ = some (.int .i64 st) ∧ W.cell? ⟨w.heap.size + 1, 1, none⟩ = some (.int .i64 lk) ∧ W.cell? ⟨w.heap.size + 1, 2, none⟩ = some (.bool fm))
            (first | exact ⟨p0, s0, s1, s2⟩ | exact ⟨p0', s0', s1', s2'⟩ | go_keep)
            (first | (go_at_call 73; refine (HCL.out _ hB1.drew).mono ?_; rintro e w7 ⟨v7, rfl, ho7, hv7, hb7⟩; have p0' := (hb7.cell (p := ⟨w.heap.size, 0, none⟩) (World.block_lt_of_cell? _ _ p0)).trans p0; have s0' := (hb7.cell (p := ⟨w.heap.size + 1, 0, none⟩) (World.block_lt_of_cell? _ _ s0)).trans s0; have s1' := (hb7.cell (p := ⟨w.heap.size + 1, 1, none⟩) (World.block_lt_of_cell? _ _ s1)).trans s1; have s2' := (hb7.cell (p := ⟨w.heap.size + 1, 2, none⟩) (World.block_lt_of_cell? _ _ s2)).trans s2; obtain ⟨g7, c7, rfl, _⟩ := ownsRow_cell ho7 hv7))
          go_wp2_with fail
          go_meet
          have hb7' : Below w.heap.size w w7 := hB1.drew.trans (hb7.mono hB1.size)
          exact ⟨_, _, rfl, hb7'.alloc hb7'.size _, hb7'.size, heap_alloc_new _ _, (ownsRow_base ho7 hB1.size).alloc _⟩
        case rest =>
          obtain ⟨g, ks, rfl, hBg, hgw, hgc, hks⟩ := hcut
          have n0in := HN0.out.below hBg
          have n0c := n0in.cells.c2
          have l2 : b2 < w.heap.size := World.block_lt_of_cell? w _ HC0.out
          have kc0 : wc.cell? ⟨b2, o2, none⟩ = some (.pointer (some ⟨n0.b, 0, none⟩)) := (hBg.cell (p := ⟨b2, o2, none⟩) l2).trans HC0.out
          have gc2 : wc.cell? ⟨g, 2, none⟩ = some (.int .i64 0) := cell_of_heap hgc rfl
          have gz2 : wc.frozen? ⟨g, 2, none⟩ = false := frozen_of_heap hgc
          have hkI : (0 : Int) < (kids.length : Int) := by omega
          have HGC := Lib.hid (And.intro hgc hks)
          clear hgc hks n0in p0 p1 s0 s1 s2
          go_wp2_with fail
          have hgc2 := setCell_heap (i := 2) HGC.out.1 (.int .i64 n0.ld)
          have hBg2 : Below w.heap.size w (wc.setCell ⟨g, 2, none⟩ (.int .i64 n0.ld)) := hBg.setCell (p := ⟨g, 2, none⟩) hgw _
          have hks2 : (wc.setCell ⟨g, 2, none⟩ (.int .i64 n0.ld)).ownsRow w.heap.size 33 1 ks kids.length (kids.map Nd.ptr) := ownsRow_of_block HGC.out.2 (fun k hk => Below.heap_setCell _ _ _ _ (fun e => own_ne HGC.out.2 HGC.out.1 (by decide) (by rw [hk, e])))
          go_loopw [74] (fun iv wx => ∃ i : Nat, iv = .int .i64 i ∧ i ≤ kids.length ∧ wx.heap[g]? = some (.cells (Nd.mk g (sumTk (kids.take i)) (sumBt (kids.take i)) (headLd kids) (htI kids i) head prod 0 st lk fm ks []).cs 87 (0, 0)) ∧ Below w.heap.size w wx ∧
             wx.ownsRow w.heap.size 33 1 ks kids.length (kids.map Nd.ptr) ∧ Hid (sumTk (kids.take i) ≤ 262144 ∧ sumBt (kids.take i) ≤ 65536)) (fun iv _ => kids.length - (intOf iv).toNat)
          case atStart =>
            refine ⟨0, rfl, by omega, ?_, hBg2, hks2, by simp [Hid, sumTk, sumBt]⟩
            rw [hgc2, HLD.out]
            simp [Nd.cs, Nd.tk, Nd.bt, Nd.ld, Nd.ht, Nd.sy, Nd.pr, Nd.wd, Nd.st, Nd.lk, Nd.fm, Nd.ks, sumTk, sumBt, htI]
          case round =>
            obtain ⟨i, rfl, hi, hgi, hBx, hkx, HI⟩ := hrel
            by_cases hlt : i < kids.length
            · obtain ⟨kd, hkd⟩ : ∃ kd, kd = kids[i] := ⟨_, rfl⟩
              have hmem : kd ∈ kids := by rw [hkd]; exact List.getElem_mem hlt
              obtain ⟨b3, o3, he, hc3⟩ := HKX.out i hlt
              injection he with he
              injection he with he1 he2
              subst he1 he2
              rw [← hkd] at hc3
              have kci : wr.cell? ⟨b2, o2 + i, none⟩ = some (.pointer (some ⟨kd.b, 0, none⟩)) := (hBx.cell (p := ⟨b2, o2 + i, none⟩) l2).trans hc3
              have kin := (HIN.out kd hmem)
              have klt : kd.b < w.heap.size := kin.lt _ (by rw [Nd.blocks_eq]; simp)
              have kin2 := kin.below hBx
              have k0 := kin2.cells.c0
              have k1 := kin2.cells.c1
              have k3 := kin2.cells.c3
              have g0 : wr.cell? ⟨g, 0, none⟩ = some (.int .i64 (sumTk (kids.take i))) := cell_of_heap hgi rfl
              have g1 : wr.cell? ⟨g, 1, none⟩ = some (.int .i64 (sumBt (kids.take i))) := cell_of_heap hgi rfl
              have g3 : wr.cell? ⟨g, 3, none⟩ = some (.int .i64 (htI kids i)) := cell_of_heap hgi rfl
              have z0 : wr.frozen? ⟨g, 0, none⟩ = false := frozen_of_heap hgi
              have z1 : wr.frozen? ⟨g, 1, none⟩ = false := frozen_of_heap hgi
              have z3 : wr.frozen? ⟨g, 3, none⟩ = false := frozen_of_heap hgi
              have hne : ¬ kd.b = g := by omega
              have hne' : ¬ g = kd.b := by omega
              have hkok := Nd.WF.ok kd (HWF.out kd hmem)
              have hs := sum_take_le HWF.out i
              have hs1 := sum_take_le HWF.out (i + 1)
              have hhs := htI_succ hlt (by rw [← hkd]; exact hkok.ht1)
              have hts : sumTk (kids.take (i + 1)) = sumTk (kids.take i) + kd.tk := by rw [List.take_succ_eq_append_getElem hlt, sumTk_append, hkd]
              have hbs : sumBt (kids.take (i + 1)) = sumBt (kids.take i) + kd.bt := by rw [List.take_succ_eq_append_getElem hlt, sumBt_append, hkd]
              rw [← hkd] at hhs
              have hh0 : 0 ≤ htI kids i ∧ htI kids i ≤ 1000001 := by
                unfold htI
                split
                · omega
                · have : ∀ l : List Nd, (∀ n ∈ l, n.ht ≤ 1000000) → maxHt l ≤ 1000000 := by
                    intro l hl
                    induction l with
                    | nil => simp [maxHt]
                    | cons x xs ih => have := hl x (by simp); have := ih (fun n hn => hl n (by simp [hn])); simp only [maxHt]; omega
                  have h1 := this (kids.take i) (fun n hn => HHT.out n (List.mem_of_mem_take hn))
                  have h2 := (maxHt_ge (l := kids.take i)).1
                  omega
              have hkh := HHT.out kd hmem
              have HHS := Lib.hid hhs
              have HTS := Lib.hid hts
              have HBS := Lib.hid hbs
              have HS1 := Lib.hid hs1
              have HS0 := Lib.hid hs
              have HGI := Lib.hid hgi
              have HKX2 := Lib.hid hkx
              have b1 := hkok.bt0
              have b2' := hkok.bt1
              have t1 := hkok.tk1
              have t2 := hkok.tk2
              have h1' := hkok.ht1
              have hI1 := HI.out.1
              have hI2 := HI.out.2
              have hs3 := hs.2.2.1
              have hs4 := hs.2.2.2
              clear hkd hmem hc3 kin kin2 hhs hts hbs hs1 hs hgi hkx hkok
              obtain ⟨hh1, hh2⟩ := hh0
              generalize hT : sumTk (kids.take i) = T at *
              generalize hBt : sumBt (kids.take i) = Bt at *
              generalize hH : htI kids i = H at *
              have HT := Lib.hid (And.intro hT (And.intro hBt hH))
              have hltI : (i : Int) < (kids.length : Int) := by omega
              clear hT hBt hH
              by_cases hA : 65536 - Bt < kd.bt
              · have hres := makeE_3 HE2.out HE200.out (Or.inl (show 65536 < sumBt kids by have := HBS.out; have := HS1.out; omega))
                have HR := Lib.hid hres
                have hAd : decide (65536 - Bt < kd.bt) = true := decide_eq_true hA
                clear hres
                go_wp2_with fail
                go_quiet (fail)
                go_wp2_with fail
                go_ret2
                exact ⟨⟨hBx.os, hBx.tape, hBx.output, hBx.size, hBx.block⟩, .inl ⟨by rw [HR.out]; decide, by rw [HR.out]; first | done | rfl⟩⟩
              · have hA' : kd.bt ≤ 65536 - Bt := by omega
                have hAd : decide (65536 - Bt < kd.bt) = false := decide_eq_false hA
                by_cases hC : 262144 - T < kd.tk
                · have hres := makeE_3 HE2.out HE200.out (Or.inr (show 262144 < sumTk kids by have := HTS.out; have := HS1.out; omega))
                  have HR := Lib.hid hres
                  have hCd : decide (262144 - T < kd.tk) = true := decide_eq_true hC
                  clear hres hA
                  go_wp2_with fail
                  go_quiet (fail)
                  go_wp2_with fail
                  go_ret2
                  exact ⟨⟨hBx.os, hBx.tape, hBx.output, hBx.size, hBx.block⟩, .inl ⟨by rw [HR.out]; decide, by rw [HR.out]; first | done | rfl⟩⟩
                · have hC' : kd.tk ≤ 262144 - T := by omega
                  have hCd : decide (262144 - T < kd.tk) = false := decide_eq_false hC
                  clear hA hC
                  by_cases hM : H < kd.ht + 1
                  · have HM := Lib.hid (show htI kids (i + 1) = kd.ht + 1 by rw [HHS.out]; omega)
                    go_wp2_with fail
                    go_quiet (fail)
                    go_wp2_with fail
                    go_region
                    go_wp2_with fail
                    go_region
                    go_wp2_with fail
                    go_region
                    go_wp2_with fail
                    obtain ⟨e1, e2, e3⟩ := set3 HGI.out hBx hgw (.int .i64 (Bt + kd.bt)) (.int .i64 (T + kd.tk)) (.int .i64 (kd.ht + 1)) (nq + 1)
                    refine ⟨⟨i + 1, by go_num, by omega, ?_, e2, e3 HKX2.out, ?_⟩, by simp [intOf]; omega⟩
                    · rw [e1, HTS.out, HBS.out, HM.out]; rfl
                    · rw [HTS.out, HBS.out]; exact ⟨by omega, by omega⟩
                  · have HM := Lib.hid (show htI kids (i + 1) = H by rw [HHS.out]; omega)
                    have hM' : kd.ht + 1 ≤ H := by omega
                    clear hM
                    go_wp2_with fail
                    go_quiet (fail)
                    go_wp2_with fail
                    go_region
                    go_wp2_with fail
                    go_region
                    go_wp2_with fail
                    go_region
                    go_wp2_with fail
                    obtain ⟨e1, e2, e3⟩ := set3 HGI.out hBx hgw (.int .i64 (Bt + kd.bt)) (.int .i64 (T + kd.tk)) (.int .i64 H) (nq + 1)
                    refine ⟨⟨i + 1, by go_num, by omega, ?_, e2, e3 HKX2.out, ?_⟩, by simp [intOf]; omega⟩
                    · rw [e1, HTS.out, HBS.out, HM.out]; rfl
                    · rw [HTS.out, HBS.out]; exact ⟨by omega, by omega⟩
            · have hge : ¬ ((i : Int) < (kids.length : Int)) := by omega
              have hil : i = kids.length := by omega
              rw [hil, List.take_length] at hgi HI
              have hres := makeE_0 HE2.out HE200.out (show ¬ (65536 < sumBt kids ∨ 262144 < sumTk kids) by have := HI.out; omega)
              have hht2 : htI kids kids.length = maxHt kids + 1 := by unfold htI; rw [if_neg (by omega), List.take_length]
              rw [hht2] at hgi
              have HR := Lib.hid hres
              have HGI := Lib.hid hgi
              clear hres hht2 hgi hil
              go_wp2_with fail
              go_ret2
              exact ⟨hBx, .inr ⟨HR.out, g, ks, rfl, hgw, HGI.out, hkx⟩⟩
      · rw [decide_eq_false hE200] at heq
        have hres := makeE_200 (prod := prod) (head := head) (st := st) (lk := lk) HE2.out hE200
        have HR := Lib.hid hres
        clear hE200 hres
        go_wp2_with (go_at_call 71; refine heq.mono ?_; rintro e w' ⟨rfl, rfl⟩)
        go_ret2
        exact ⟨hB1, .inl ⟨by rw [HR.out]; decide, by rw [HR.out]; first | done | rfl⟩⟩
end Go.Proofs.Ytcjpmgfobnaoeaa



/- The builder's answer: a tree out of data, without addresses. Plain. -/
namespace Go.Proofs.Ytcjpmgfobnaoeaa
set_option linter.unusedVariables false
set_option linter.unusedSimpArgs false

/-- A node as the document has it: no addresses, no sums. -/
inductive Pn where
  | mk (sy pr tl tw st lk : Int) (fm : Bool) (kids : List Pn)

namespace Pn
def sy : Pn → Int | .mk x .. => x
def pr : Pn → Int | .mk _ x .. => x
def tl : Pn → Int | .mk _ _ x .. => x
def tw : Pn → Int | .mk _ _ _ x .. => x
def st : Pn → Int | .mk _ _ _ _ x .. => x
def lk : Pn → Int | .mk _ _ _ _ _ x .. => x
def fm : Pn → Bool | .mk _ _ _ _ _ _ x _ => x
def kids : Pn → List Pn | .mk _ _ _ _ _ _ _ x => x
end Pn

mutual
/-- Its tokens: kind, lead, width. -/
def Pn.leaves : Pn → List (Int × Int × Int)
  | .mk sy pr tl tw _ _ _ kids => if pr < 0 then [(sy, tl, tw)] else PnsLeaves kids
def PnsLeaves : List Pn → List (Int × Int × Int)
  | [] => []
  | n :: ns => n.leaves ++ PnsLeaves ns
end
mutual
def Pn.height : Pn → Int
  | .mk _ _ _ _ _ _ _ kids => PnsHeight kids + 1
def PnsHeight : List Pn → Int
  | [] => 0
  | n :: ns => max n.height (PnsHeight ns)
end
/-- The bytes of tokens. -/
def bytesOf (l : List (Int × Int × Int)) : Int := (l.map fun t => t.2.1 + t.2.2).sum
def Pn.bytes (n : Pn) : Int := bytesOf n.leaves
def Pn.lead (n : Pn) : Int := match n.leaves with | [] => 0 | t :: _ => t.2.1

theorem bytesOf_append (a b : List (Int × Int × Int)) : bytesOf (a ++ b) = bytesOf a + bytesOf b := by simp [bytesOf]

mutual
/-- The node that Go's node stands for. -/
def Nd.plain : Nd → Pn
  | .mk _ _ _ ld _ sy pr wd st lk fm _ kids => .mk sy pr (if pr < 0 then ld else 0) wd st lk fm (NdsPlain kids)
def NdsPlain : List Nd → List Pn
  | [] => []
  | n :: ns => n.plain :: NdsPlain ns
end
theorem NdsPlain_eq : ∀ l : List Nd, NdsPlain l = l.map Nd.plain
  | [] => rfl
  | n :: ns => by unfold NdsPlain; rw [NdsPlain_eq ns]; rfl
theorem Nd.plain_eq (n : Nd) : n.plain = .mk n.sy n.pr (if n.pr < 0 then n.ld else 0) n.wd n.st n.lk n.fm (n.kids.map Nd.plain) := by
  cases n; unfold Nd.plain; rw [NdsPlain_eq]; rfl
theorem PnsLeaves_eq : ∀ l : List Pn, PnsLeaves l = l.flatMap Pn.leaves
  | [] => rfl
  | n :: ns => by unfold PnsLeaves; rw [PnsLeaves_eq ns]; rfl
theorem plain_sy (n : Nd) : n.plain.sy = n.sy := by rw [n.plain_eq]; rfl

theorem leaves_leaf {n : Nd} (h : n.pr < 0) : n.plain.leaves = [(n.sy, n.ld, n.wd)] := by
  rw [n.plain_eq]; unfold Pn.leaves; rw [if_pos h, if_pos h]
theorem leaves_node {n : Nd} (h : 0 ≤ n.pr) : n.plain.leaves = PnsLeaves (n.kids.map Nd.plain) := by
  rw [n.plain_eq]; unfold Pn.leaves; rw [if_neg (by omega)]

/-- What a node adds up is what its tokens add up to. -/
theorem Nd.WF.adds : ∀ n : Nd, n.WF → n.tk = n.plain.leaves.length ∧ n.bt = n.plain.bytes ∧ n.ld = n.plain.lead ∧ n.ht = n.plain.height := by
  refine Nd.ind ?_
  intro n ih h
  have hk : ∀ l : List Nd, (∀ k ∈ l, k ∈ n.kids) → sumTk l = (PnsLeaves (l.map Nd.plain)).length ∧ sumBt l = bytesOf (PnsLeaves (l.map Nd.plain)) ∧ maxHt l = PnsHeight (l.map Nd.plain) := by
    intro l
    induction l with
    | nil => intro _; simp [sumTk, sumBt, maxHt, PnsLeaves, PnsHeight, bytesOf]
    | cons k ks ihl =>
      intro hl
      obtain ⟨a1, a2, a3⟩ := ihl fun k hk => hl k (by simp [hk])
      have hkm := hl k (by simp)
      obtain ⟨b1, b2, b3, b4⟩ := ih k hkm (h.kid k hkm)
      simp only [List.map_cons]
      unfold PnsLeaves PnsHeight
      rw [sumTk_cons, sumBt_cons, bytesOf_append, List.length_append]
      refine ⟨by omega, ?_, ?_⟩
      · rw [a2, b2]; rfl
      · show max k.ht (maxHt ks) = _
        rw [a3, b4]
  obtain ⟨c1, c2, c3⟩ := hk n.kids fun _ h => h
  have hh : n.plain.height = PnsHeight (n.kids.map Nd.plain) + 1 := by rw [n.plain_eq]; unfold Pn.height; rfl
  rcases h.cases with ⟨h1, h2, h3, h4, h5, h6, h7, h8, h9, h10, h11, h12⟩ | ⟨h1, h2, h3, h4, h5, h6, h7, h8, h9, h10, h11, h12⟩
  · have hl := leaves_leaf (n := n) (by omega)
    refine ⟨by rw [hl]; simp; omega, by unfold Pn.bytes; rw [hl]; simp [bytesOf]; omega, by unfold Pn.lead; rw [hl], ?_⟩
    rw [hh, h2]
    simp [PnsHeight]
    omega
  · have hl := leaves_node (n := n) h1
    refine ⟨by rw [hl, h3, c1], by unfold Pn.bytes; rw [hl, h4, c2], ?_, by rw [hh, h6, c3]⟩
    rw [h5]
    unfold Pn.lead
    rw [hl]
    cases hkk : n.kids with
    | nil => exact absurd hkk h2
    | cons k ks =>
      have hkm : k ∈ n.kids := by rw [hkk]; simp
      obtain ⟨b1, b2, b3, b4⟩ := ih k hkm (h.kid k hkm)
      have hne : k.plain.leaves ≠ [] := by
        intro e
        rw [e] at b1
        have := (Nd.WF.ok k (h.kid k hkm)).tk1
        simp at b1
        omega
      simp only [List.map_cons]
      unfold PnsLeaves
      show k.ld = _
      rw [b3]
      unfold Pn.lead
      cases hlv : k.plain.leaves with
      | nil => exact absurd hlv hne
      | cons t ts => rfl

/-! ### The builder -/
/-- A leaf, or why there is none. -/
def leafP (k l wd st : Int) (fm : Bool) : Except Int Pn :=
  if k < 0 ∨ 32 ≤ k ∨ st < 0 ∨ l < 0 ∨ wd < 0 then .error 2 else if 65536 < l ∨ 65536 - l < wd then .error 3 else .ok (.mk k (-1) l wd st (-1) fm [])

/-- A node, or why there is none. -/
def makeP (head : Int) (body : List Int) (prod st lk : Int) (fm : Bool) (kids : List Pn) : Except Int Pn :=
  if prod < 0 ∨ head < 0 ∨ st < 0 ∨ lk < 0 ∨ body = [] then .error 2 else if body ≠ kids.map Pn.sy then .error 200 else
    if 65536 < bytesOf (PnsLeaves kids) ∨ 262144 < ((PnsLeaves kids).length : Int) then .error 3 else .ok (.mk head prod 0 0 st lk fm kids)

end Go.Proofs.Ytcjpmgfobnaoeaa

/- The leaf that the builder makes. -/
namespace Go.Proofs.Ytcjpmgfobnaoeaa
set_option linter.unusedVariables false
set_option linter.unusedSimpArgs false
open Go.RowKit

theorem leafP_err {k l wd st : Int} {fm : Bool} (h : leafE k l wd st ≠ 0) : leafP k l wd st fm = .error (leafE k l wd st) := by
  unfold leafP leafE at *
  split
  · rfl
  · rename_i h1
    rw [if_neg h1] at h
    split
    · rfl
    · rename_i h2; rw [if_neg h2] at h; exact absurd rfl h
theorem leafP_ok {g : Nat} {k l wd st : Int} {fm : Bool} (h : leafE k l wd st = 0) : leafP k l wd st fm = .ok (leafNd g k l wd st fm).plain := by
  unfold leafP
  unfold leafE at h
  split at h
  · simp at h
  · rename_i h1
    split at h
    · simp at h
    · rename_i h2
      rw [if_neg h1, if_neg h2]
      rfl

theorem sums_plain {kids : List Nd} (h : ∀ k ∈ kids, k.WF) : sumTk kids = (PnsLeaves (kids.map Nd.plain)).length ∧ sumBt kids = bytesOf (PnsLeaves (kids.map Nd.plain)) := by
  induction kids with
  | nil => simp [sumTk, sumBt, PnsLeaves, bytesOf]
  | cons k ks ih =>
    obtain ⟨a1, a2⟩ := ih fun x hx => h x (by simp [hx])
    obtain ⟨b1, b2, _, _⟩ := (Nd.WF.adds k) (h k (by simp))
    simp only [List.map_cons]
    unfold PnsLeaves
    rw [sumTk_cons, sumBt_cons, bytesOf_append, List.length_append]
    refine ⟨by omega, ?_⟩
    rw [a2, b2]
    rfl

theorem map_plain_sy (kids : List Nd) : (kids.map Nd.plain).map Pn.sy = kids.map Nd.sy := by
  rw [List.map_map]
  apply List.map_congr_left
  intro n _
  exact plain_sy n

theorem makeP_err {head : Int} {body : List Int} {prod st lk : Int} {fm : Bool} {kids : List Nd} (hw : ∀ k ∈ kids, k.WF) (h : makeE head body prod st lk kids ≠ 0) : makeP head body prod st lk fm (kids.map Nd.plain) = .error (makeE head body prod st lk kids) := by
  obtain ⟨h1, h2⟩ := sums_plain hw
  unfold makeP makeE at *
  rw [map_plain_sy, ← h1, ← h2]
  split
  · rfl
  · rename_i g1
    rw [if_neg g1] at h
    split
    · rfl
    · rename_i g2
      rw [if_neg g2] at h
      split
      · rfl
      · rename_i g3
        rw [if_neg g3] at h
        exact absurd rfl h
theorem makeP_ok {g : Nat} {ks : Value} {head : Int} {body : List Int} {prod st lk : Int} {fm : Bool} {kids : List Nd} (hw : ∀ k ∈ kids, k.WF) (h : makeE head body prod st lk kids = 0) :
    makeP head body prod st lk fm (kids.map Nd.plain) = .ok (makeNd g ks head prod st lk fm kids).plain := by
  obtain ⟨h1, h2⟩ := sums_plain hw
  unfold makeP
  unfold makeE at h
  rw [map_plain_sy, ← h1, ← h2]
  split at h
  · simp at h
  · rename_i g1
    split at h
    · simp at h
    · rename_i g2
      split at h
      · simp at h
      · rename_i g3
        rw [if_neg g1, if_neg g2, if_neg g3]
        unfold makeNd
        rw [Nd.plain_eq]
        have hp : ¬ prod < 0 := by omega
        simp [Nd.sy, Nd.pr, Nd.wd, Nd.st, Nd.lk, Nd.fm, Nd.kids, hp]

theorem makeNd_in {g : Nat} {ks : Value} {head prod st lk : Int} {fm : Bool} {kids : List Nd} {w : World} {B : Nat} (h : w.heap[g]? = some (.cells (makeNd g ks head prod st lk fm kids).cs 87 (0, 0))) (hk : w.ownsRow B 33 1 ks kids.length (kids.map Nd.ptr)) (hi : ∀ k ∈ kids, k.In w) :
    (makeNd g ks head prod st lk fm kids).In w := Nd.In.mk' h (ownsRow_base hk (Nat.zero_le _)) hi

theorem makeNd_wf {g : Nat} {ks : Value} {head : Int} {body : List Int} {prod st lk : Int} {fm : Bool} {kids : List Nd} (hw : ∀ k ∈ kids, k.WF) (h : makeE head body prod st lk kids = 0) : (makeNd g ks head prod st lk fm kids).WF := by
  unfold makeE at h
  split at h
  · simp at h
  · rename_i g1
    split at h
    · simp at h
    · rename_i g2
      split at h
      · simp at h
      · rename_i g3
        unfold makeNd Nd.WF
        refine ⟨.inr ⟨by omega, ?_, rfl, rfl, rfl, rfl, rfl, by omega, by omega, by omega, by omega, by omega⟩, NdsWF_iff.2 hw⟩
        intro e
        subst e
        simp at g2
        exact g1 (by simp [g2])

theorem ptrs_at {w : World} {B : Nat} {v : Value} {ns : List Nd} (h : w.ownsRow B 33 1 v ns.length (ns.map Nd.ptr)) : PtrsAt w v ns := by
  obtain ⟨a, c, rfl, hc⟩ := ownsRow_any h
  refine ⟨a, c, rfl, fun j hj => ?_⟩
  obtain ⟨g, h1, _, _, h2⟩ := hc j (ns[j]).ptr (by simp [hj])
  exact ⟨g, 0, h1, by rw [Nat.zero_add]; exact h2⟩

end Go.Proofs.Ytcjpmgfobnaoeaa

/- The node that the builder makes. -/
namespace Go.Proofs.Ytcjpmgfobnaoeaa
set_option linter.unusedVariables false
set_option linter.unusedSimpArgs false
open Go.RowKit

theorem ht_le_cnt : ∀ n : Nd, n.WF → n.ht ≤ n.cnt := by
  refine Nd.ind ?_
  intro n ih h
  have hm : ∀ l : List Nd, (∀ k ∈ l, k.ht ≤ (k.cnt : Int)) → maxHt l ≤ (NdsCnt l : Int) := by
    intro l
    induction l with
    | nil => intro _; simp [maxHt, NdsCnt]
    | cons x xs ih2 =>
      intro hl
      have h1 := hl x (by simp)
      have h2 := ih2 fun k hk => hl k (by simp [hk])
      simp only [maxHt, NdsCnt]
      omega
  have h1 := hm n.kids fun k hk => ih k hk (h.kid k hk)
  rw [Nd.cnt_eq]
  rcases h.cases with ⟨_, h2, _, h4, _⟩ | ⟨_, _, _, _, _, h6, _⟩ <;> omega

theorem MakeSays.ok {w w' : World} {head : Int} {body : List Int} {prod st lk : Int} {fm : Bool} {kids : List Nd} {e : Ending} (h : MakeSays w head body prod st lk fm kids e w') (hE : makeE head body prod st lk kids = 0) :
    Below w.heap.size w w' ∧ ∃ g ks, e = .returned (.tuple #[.pointer (some ⟨g, 0, none⟩), .int .i64 0]) ∧ w.heap.size ≤ g ∧ w'.heap[g]? = some (.cells (makeNd g ks head prod st lk fm kids).cs 87 (0, 0)) ∧
      w'.ownsRow w.heap.size 33 1 ks kids.length (kids.map Nd.ptr) := by
  rcases h.2 with ⟨h1, _⟩ | ⟨_, h2⟩
  · exact absurd hE h1
  · exact ⟨h.1, h2⟩
theorem MakeSays.bad {w w' : World} {head : Int} {body : List Int} {prod st lk : Int} {fm : Bool} {kids : List Nd} {e : Ending} (h : MakeSays w head body prod st lk fm kids e w') (hE : ¬ makeE head body prod st lk kids = 0) :
    Below w.heap.size w w' ∧ e = .returned (.tuple #[.pointer none, .int .i64 (makeE head body prod st lk kids)]) := by
  rcases h.2 with ⟨_, h1⟩ | ⟨h2, _⟩
  · exact ⟨h.1, h1⟩
  · exact absurd h2 hE

end Go.Proofs.Ytcjpmgfobnaoeaa


/- What came in, read as data: trees, tokens, stamps. -/
namespace Go.Proofs.Ytcjpmgfobnaoeaa
set_option linter.unusedVariables false
set_option linter.unusedSimpArgs false
open Go.RowKit

/-- A struct's fields: type and offset of each. -/
def fieldsOf : Option TypeDesc → Option (List (TypeId × Nat))
  | some (.struct fs) => some (fs.toList.map fun f => (f.type, f.offset))
  | _ => none

theorem open_struct {H : Type} {enc : TypeId × Value → H} {P : Program} {w : World} {sp : Nat → Bool} {held : Bool} {t : TypeId} {fuel : Nat} {cs : List Value} {x : DataW H × List MemPlace} {l : List (TypeId × Nat)}
    (hf : fieldsOf (P.underlying t) = some l) (h : DataW.trod enc P w 0 sp held fuel t cs = some x) :
    ∃ n, fuel = n + 1 ∧ cs.length = P.cellsOf t ∧ ∀ ty off, (ty, off) ∈ l → ∃ y, DataW.trod enc P w 0 sp held n ty ((cs.drop off).take (P.cellsOf ty)) = some y := by
  unfold fieldsOf at hf
  split at hf
  · rename_i fs hu
    obtain ⟨xs, n, h1, _, h3, h4, h5⟩ := DataW.trod_struct hu h
    refine ⟨n, h1, h3, fun ty off hm => ?_⟩
    simp only [Option.some.injEq] at hf
    rw [← hf] at hm
    obtain ⟨f, hfm, he⟩ := List.mem_map.1 hm
    obtain ⟨i, hi, hfi⟩ := List.getElem_of_mem hfm
    have hi' : i < fs.size := by simpa using hi
    have hq := h5 i f (by rw [Array.getElem?_eq_getElem hi']; simpa using hfi)
    simp only [Prod.mk.injEq] at he
    obtain ⟨rfl, rfl⟩ := he
    exact ⟨xs[i]'(by omega), by rw [hq, List.getElem?_eq_getElem (by omega)]⟩
  · simp at hf

theorem len3 {α : Type} {l : List α} (h : l.length = 3) : ∃ a b c, l = [a, b, c] := by
  rcases l with _ | ⟨a, _ | ⟨b, _ | ⟨c, _ | ⟨d, l⟩⟩⟩⟩ <;> simp at h
  exact ⟨a, b, c, rfl⟩
/-- A slice whose elements are what f says. -/
theorem open_slc {α : Type} {H : Type} {enc : TypeId × Value → H} {P : Program} {w : World} {sp : Nat → Bool} {held : Bool} {T E : TypeId} {fuel sz : Nat} {cs : List Value} {x : DataW H × List MemPlace}
    (hT : P.underlying T = some (.slice E)) (hE : P.cellsOf E = sz) (hsz : 0 < sz) (R : List Value → α → Prop)
    (hel : ∀ n, n < fuel → ∀ cs x, DataW.trod enc P w 0 sp held n E cs = some x → ∃ y : α, R cs y) (h : DataW.trod enc P w 0 sp held fuel T cs = some x) :
    ∃ (a : Option Addr) (c : Nat) (es : List α), cs = [.slice a es.length c] ∧ es.length ≤ c ∧ c ≤ maxLen ∧
      ∀ i (hi : i < es.length), ∃ b o cs, a = some ⟨b, o, none⟩ ∧ b < w.heap.size ∧ cs.length = sz ∧ (∀ j u, cs[j]? = some u → w.cell? ⟨b, o + i * sz + j, none⟩ = some u) ∧ R cs es[i] := by
  rcases DataW.trod_slice hT h with ⟨rfl, _⟩ | ⟨a, len, cap, elems, rest, n, rfl, rfl, _, _, hl, hm, hlen, hel2, _, _⟩
  · exact ⟨none, 0, [], rfl, by simp, by decide, fun i hi => by simp at hi⟩
  · have hex : ∀ i, i < len → ∃ y : α, ∃ cs, w.cells? 0 (a.add (i * sz)) sz = some cs ∧ R cs y := by
      intro i hi
      have h1 := hel2 i hi
      rw [hE, List.getElem?_eq_getElem (by omega)] at h1
      simp only [Option.bind_eq_some_iff] at h1
      obtain ⟨cs, hc, hy⟩ := h1
      obtain ⟨y, hR⟩ := hel n (by omega) cs _ hy
      exact ⟨y, cs, hc, hR⟩
    have hlist : ∃ es : List α, es.length = len ∧ ∀ i (hi : i < es.length), ∃ cs, w.cells? 0 (a.add (i * sz)) sz = some cs ∧ R cs es[i] := by
      refine ⟨List.ofFn fun i : Fin len => (hex i.1 i.2).choose, by simp, fun i hi => ?_⟩
      have hi' : i < len := by simpa using hi
      rw [List.getElem_ofFn]
      exact (hex i hi').choose_spec
    obtain ⟨es, hel3, hes⟩ := hlist
    refine ⟨some a, cap, es, by rw [hel3], by omega, hm, fun i hi => ?_⟩
    obtain ⟨cs, hc, hR⟩ := hes i hi
    obtain ⟨_, hcl, hcj⟩ := World.cells?_some hc
    have h0 : 0 < cs.length := by omega
    have hq := hcj 0 hsz
    rw [List.getElem?_eq_getElem h0] at hq
    obtain ⟨b, o, spot⟩ := a
    have hs : spot = none := by
      obtain ⟨cs0, hc0, _⟩ := hes 0 (by omega)
      obtain ⟨_, hcl0, hcj0⟩ := World.cells?_some hc0
      have hq0 := hcj0 0 hsz
      rw [List.getElem?_eq_getElem (show 0 < cs0.length by omega)] at hq0
      simpa [Addr.add] using World.cell?_spot hq0
    subst hs
    rw [Addr.add_lit, Addr.add_lit] at hq
    refine ⟨b, o, cs, rfl, World.block_lt_of_cell? w _ hq, hcl, fun j u hu => ?_, hR⟩
    have hj : j < cs.length := (List.getElem?_eq_some_iff.1 hu).1
    have := hcj j (by omega)
    rw [hu, Addr.add_lit, Addr.add_lit] at this
    exact this

theorem fields72 : fieldsOf (Try.prog.underlying 72) = some [(3, 0), (3, 1), (3, 2)] := by kernel_rfl
theorem fields57 : fieldsOf (Try.prog.underlying 57) = some [(3, 0), (3, 1), (4, 2)] := by kernel_rfl
theorem und25 : Try.prog.underlying 25 = some (.slice 72) := by kernel_rfl
theorem und3 : Try.prog.underlying 3 = some (.int .i64) := by kernel_rfl
theorem und4 : Try.prog.underlying 4 = some .bool := by kernel_rfl
theorem cells72 : Try.prog.cellsOf 72 = 3 := by kernel_rfl
theorem cells57 : Try.prog.cellsOf 57 = 3 := by kernel_rfl
theorem cells25 : Try.prog.cellsOf 25 = 1 := by kernel_rfl
theorem cells3 : Try.prog.cellsOf 3 = 1 := by kernel_rfl
theorem cells4 : Try.prog.cellsOf 4 = 1 := by kernel_rfl

section
variable {H : Type} {enc : TypeId × Value → H} {w : World} {sp : Nat → Bool} {held : Bool} {fuel : Nat} {cs : List Value} {x : DataW H × List MemPlace}

/-- A slice of structs of three cells. -/
theorem slc_at {α : Type} {T E : TypeId} (f : α → List Value) (hT : Try.prog.underlying T = some (.slice E)) (hE : Try.prog.cellsOf E = 3)
    (hel : ∀ n cs x, DataW.trod enc Try.prog w 0 sp held n E cs = some x → ∃ y : α, cs = f y) (h : DataW.trod enc Try.prog w 0 sp held fuel T cs = some x) :
    ∃ v, ∃ es : List α, cs = [v] ∧ SlcAt w.heap.size w 3 v (es.map f) := by
  obtain ⟨a, c, es, rfl, hc, hm, hq⟩ := open_slc hT hE (by decide) (fun cs (y : α) => cs = f y) (fun n _ cs x hx => hel n cs x hx) h
  refine ⟨_, es, rfl, ?_⟩
  by_cases h0 : es = []
  · subst h0; exact .inl ⟨a, c, rfl, rfl⟩
  · have hp : 0 < es.length := List.length_pos_iff.2 h0
    obtain ⟨b, o, cs, ha, hb, _⟩ := hq 0 hp
    subst ha
    refine .inr ⟨b, o, c, by rw [List.length_map], by simpa using hc, hb, fun i hi j u hu => ?_⟩
    have hi' : i < es.length := by simpa using hi
    obtain ⟨b', o', cs', e1, _, _, e4, e5⟩ := hq i hi'
    have e2 : b' = b ∧ o' = o := by simpa using e1.symm
    obtain ⟨rfl, rfl⟩ := e2
    refine e4 j u ?_
    rw [List.getElem_map] at hu
    rw [e5]
    exact hu

theorem open_tok : ∀ n cs x, DataW.trod enc Try.prog w 0 sp held n 72 cs = some x → ∃ y : Int × Int × Int, cs = tkCells y := by
  intro n cs x h
  obtain ⟨n, rfl, hl, hfs⟩ := open_struct fields72 h
  rw [cells72] at hl
  obtain ⟨c0, c1, c2, rfl⟩ := len3 hl
  · obtain ⟨y0, h0⟩ := hfs 3 0 (by simp)
    obtain ⟨y1, h1⟩ := hfs 3 1 (by simp)
    obtain ⟨y2, h2⟩ := hfs 3 2 (by simp)
    rw [cells3] at h0 h1 h2
    simp only [List.drop_zero, List.drop_succ_cons, List.take_succ_cons, List.take_zero] at h0 h1 h2
    obtain ⟨a, e0, _, _⟩ := DataW.trod_int und3 h0
    obtain ⟨b, e1, _, _⟩ := DataW.trod_int und3 h1
    obtain ⟨c, e2, _, _⟩ := DataW.trod_int und3 h2
    simp only [List.cons.injEq, and_true] at e0 e1 e2
    subst e0 e1 e2
    exact ⟨(a, b, c), rfl⟩
theorem open_stamp : ∀ n cs x, DataW.trod enc Try.prog w 0 sp held n 57 cs = some x → ∃ y : Int × Int × Bool, cs = stCells y := by
  intro n cs x h
  obtain ⟨n, rfl, hl, hfs⟩ := open_struct fields57 h
  rw [cells57] at hl
  obtain ⟨c0, c1, c2, rfl⟩ := len3 hl
  · obtain ⟨y0, h0⟩ := hfs 3 0 (by simp)
    obtain ⟨y1, h1⟩ := hfs 3 1 (by simp)
    obtain ⟨y2, h2⟩ := hfs 4 2 (by simp)
    rw [cells3] at h0 h1
    rw [cells4] at h2
    simp only [List.drop_zero, List.drop_succ_cons, List.take_succ_cons, List.take_zero] at h0 h1 h2
    obtain ⟨a, e0, _, _⟩ := DataW.trod_int und3 h0
    obtain ⟨b, e1, _, _⟩ := DataW.trod_int und3 h1
    obtain ⟨c, e2, _⟩ := DataW.trod_bool und4 h2
    simp only [List.cons.injEq, and_true] at e0 e1 e2
    subst e0 e1 e2
    exact ⟨(a, b, c), rfl⟩

end

end Go.Proofs.Ytcjpmgfobnaoeaa

/- What every row's proof of this seat needs: the program's own knobs, a struct by value, the data that came in. -/
namespace Go.Proofs.Ytcjpmgfobnaoeaa
set_option linter.unusedVariables false
set_option linter.unusedSimpArgs false
open Go.ChangeShapes Go.WideShapes Go.ChangeAt Go.RowKit

theorem own : ownKnob Try.prog.godebug = none := by kernel_rfl
theorem laidOut : laidOutB Try.prog = true := by kernel_rfl
theorem is_struct {u : Option TypeDesc} {l : List (TypeId × Nat)} (h : fieldsOf u = some l) : ∃ fs, u = some (.struct fs) := by
  unfold fieldsOf at h
  split at h
  · exact ⟨_, rfl⟩
  · simp at h
section
variable {H : Type} {enc : TypeId × Value → H} {w : World} {sp : Nat → Bool} {held : Bool} {r : Reach} {b0 : Nat}

end

end Go.Proofs.Ytcjpmgfobnaoeaa

/- Make, where one of the kids is none. -/
namespace Go.Proofs.Ytcjpmgfobnaoeaa
set_option linter.unusedVariables false
set_option linter.unusedSimpArgs false
open Go.RowKit

theorem Dud.keep {w w' : World} {p : Value} (h : Dud w p) (hb : Below w.heap.size w w') : Dud w' p := by
  rcases h with h | ⟨n, h1, h2, h3⟩
  · exact .inl h
  · exact .inr ⟨n, h1, h2.below hb, h3⟩

set_option maxRecDepth 100000 in
set_option maxHeartbeats 4000000 in
theorem make_bad (head : Int) (ba : Option Addr) (bl bc : Nat) (right : Bool) (prod st lk : Int) (fm : Bool) (g c : Nat) (kids : List Nd) (j : Nat) (p : Value) (w : World) (hj : j < kids.length) (hl : kids.length ≤ 1000000)
    (hk : ∀ i (h : i < kids.length), i ≠ j → w.cell? ⟨g, i, none⟩ = some (kids[i]).ptr) (hp : w.cell? ⟨g, j, none⟩ = some p) (hd : Dud w p) (hin : ∀ n ∈ kids, n.In w) (hht : ∀ n ∈ kids, 0 < n.ht) :
    Calls Try.prog 33 #[.agg #[.int .i64 head, .slice ba bl bc, .bool right], .int .i64 prod, .agg #[.int .i64 st, .int .i64 lk, .bool fm], .slice (some ⟨g, 0, none⟩) kids.length c] w fun e w' => e = .returned (.tuple #[.pointer none, .int .i64 1]) ∧ Below w.heap.size w w' := by
  have hg := World.block_lt_of_cell? w _ hp
  have hW : ∀ W, W = (w.alloc (.cells #[.int .i64 head, .slice ba bl bc, .bool right] 54)).alloc (.cells #[.int .i64 st, .int .i64 lk, .bool fm] 57) → Below w.heap.size w W := by
    rintro W rfl
    exact ((Below.refl _ _).alloc (Nat.le_refl _) _).alloc (by simp) _
  have HW := Lib.hid hW
  have HK := Lib.hid hk
  have HP := Lib.hid hp
  have HD := Lib.hid hd
  have HIN := Lib.hid (And.intro hin hht)
  clear hW hk hp hd hin hht
  go_enter Try.func33, Try.ntmps33
  apply wp_seq_k
  intro K1 h1
  have H1 := Lib.hid h1
  clear h1
  go_wp2_with fail
  refine H1.out _ _ ?_
  clear H1 K1
  have hB := HW.out _ rfl
  generalize (w.alloc (.cells #[.int .i64 head, .slice ba bl bc, .bool right] 54)).alloc (.cells #[.int .i64 st, .int .i64 lk, .bool fm] 57) = W at *
  clear HW
  go_wp2_with fail
  go_loop [17] (fun iv => ∃ i : Nat, iv = .int .i64 i ∧ i ≤ j) (fun iv => kids.length - (intOf iv).toNat)
  case atStart => exact ⟨0, rfl, by omega⟩
  case round =>
    obtain ⟨i, rfl, hi⟩ := hrel
    have hlt : i < kids.length := by omega
    have hltI : (i : Int) < (kids.length : Int) := by omega
    have hi0 : (0 : Int) ≤ (i : Int) := Int.natCast_nonneg _
    have hwi : IntKind.i64.wrap ((i : Int) + 1) = ((i + 1 : Nat) : Int) := by rw [IntKind.wrap_i64]; omega
    by_cases hij : i = j
    · subst hij
      have hc : W.cell? ⟨g, i, none⟩ = some p := (hB.cell (p := ⟨g, i, none⟩) hg).trans HP.out
      have hm := made_dud (HD.out.keep hB)
      go_wp2_with (go_at_call 70; refine hm.mono ?_; rintro e w' ⟨rfl, rfl⟩)
      go_ret2
      exact ⟨rfl, hB⟩
    · have hc := (hB.cell (p := ⟨g, i, none⟩) hg).trans (HK.out i hlt hij)
      have hmem : kids[i] ∈ kids := List.getElem_mem hlt
      have hm := made_yes kids[i] W ((HIN.out.1 _ hmem).below hB) (HIN.out.2 _ hmem)
      obtain ⟨kd, hkd⟩ : ∃ kd, kids[i] = kd := ⟨_, rfl⟩
      rw [hkd] at hc hm
      unfold Nd.ptr at hc hm
      clear hmem hkd
      go_wp2_with (go_at_call 70; refine hm.mono ?_; rintro e w' ⟨rfl, rfl⟩)
      go_round
      case rel => exact ⟨i + 1, by go_num, by omega⟩
      case measure => simp [intOf]; omega

end Go.Proofs.Ytcjpmgfobnaoeaa

/- Plain: what the printed functions of the reference come to on a tree out of data. -/
namespace Go.Proofs.Ytcjpmgfobnaoeaa
set_option linter.unusedVariables false
set_option linter.unusedSimpArgs false
open PNodesTell (S79 S72 S57 S66 S64 S24 rd_T79 rd_T72)
open Go.RowKit Go.Proofs.YtcjpmgfobnaoeaaW.PrintWords Go.Proofs.YtcjpmgfobnaoeaaW.PrintMore

theorem Pn.ind {P : Pn → Prop} (h : ∀ n : Pn, (∀ k ∈ n.kids, P k) → P n) : ∀ n, P n := by
  intro n
  refine Pn.rec (motive_1 := P) (motive_2 := fun l => ∀ k ∈ l, P k) ?_ ?_ ?_ n
  · intro sy pr tl tw st lk fm kids hk
    exact h _ hk
  · intro k hk; cases hk
  · intro n l hn hl k hk
    rcases List.mem_cons.1 hk with rfl | hk
    · exact hn
    · exact hl k hk

/-- A token as the printed functions have it. -/
def t72 (t : Int × Int × Int) : S72 := ⟨t.1, t.2.1, t.2.2⟩
mutual
/-- A node as the printed functions have it. -/
def Pn.s79 : Pn → S79
  | .mk sy pr tl tw st lk fm kids => ⟨sy, pr, if pr < 0 then ⟨sy, tl, tw⟩ else ⟨0, 0, 0⟩, ⟨st, lk, fm⟩, PnsS79 kids⟩
def PnsS79 : List Pn → List S79
  | [] => []
  | n :: ns => n.s79 :: PnsS79 ns
end
theorem PnsS79_eq : ∀ l : List Pn, PnsS79 l = l.map Pn.s79
  | [] => rfl
  | n :: ns => by unfold PnsS79; rw [PnsS79_eq ns]; rfl
theorem Pn.s79_eq (n : Pn) : n.s79 = ⟨n.sy, n.pr, if n.pr < 0 then ⟨n.sy, n.tl, n.tw⟩ else ⟨0, 0, 0⟩, ⟨n.st, n.lk, n.fm⟩, n.kids.map Pn.s79⟩ := by
  cases n; unfold Pn.s79; rw [PnsS79_eq]; rfl
theorem Pn.leaves_eq (n : Pn) : n.leaves = if n.pr < 0 then [(n.sy, n.tl, n.tw)] else PnsLeaves n.kids := by
  cases n; unfold Pn.leaves; rfl
theorem Pn.height_eq (n : Pn) : n.height = PnsHeight n.kids + 1 := by
  cases n; unfold Pn.height; rfl

theorem rd79 {l : List Pn} {i : Nat} (h : i < l.length) : rd_T79 (l.map Pn.s79) (i : Int) = (l[i]).s79 := by
  simp [rd_T79, List.getD_eq_getElem?_getD, h]
theorem rd72 {l : List (Int × Int × Int)} {i : Nat} (h : i < l.length) : rd_T72 (l.map t72) (i : Int) = t72 l[i] := by
  simp [rd_T72, List.getD_eq_getElem?_getD, h]
theorem drop_pn {α : Type} {l : List α} {i : Nat} (h : i < l.length) : l.drop i = l[i] :: l.drop (i + 1) := by
  rw [List.drop_eq_getElem_cons h]
theorem wrap_nat {i : Nat} (h : i ≤ 1000000000) : wrap64 ((i : Int) + 1) = ((i + 1 : Nat) : Int) := by unfold wrap64; omega

abbrev lvF (k : Nat) (s : S79) := PNodesTell.rootstockref20_Leaves.f k s.f0 s.f1 s.f2.f0 s.f2.f1 s.f2.f2 s.f3.f0 s.f3.f1 s.f3.f2 s.f4
abbrev byF (k : Nat) (s : S79) := PNodesTell.rootstockref20_Bytes.f k s.f0 s.f1 s.f2.f0 s.f2.f1 s.f2.f2 s.f3.f0 s.f3.f1 s.f3.f2 s.f4
abbrev ldF (k : Nat) (s : S79) := PNodesTell.rootstockref20_Lead.f k s.f0 s.f1 s.f2.f0 s.f2.f1 s.f2.f2 s.f3.f0 s.f3.f1 s.f3.f2 s.f4
abbrev htF (k : Nat) (s : S79) := PNodesTell.rootstockref20_Height.f k s.f0 s.f1 s.f2.f0 s.f2.f1 s.f2.f2 s.f3.f0 s.f3.f1 s.f3.f2 s.f4
/-- What the checks of the chapter leave of a tree. -/
structure Pn.Ok1 (n : Pn) : Prop where
  cases_ : (n.pr < 0 ∧ n.kids = [] ∧ n.pr = -1 ∧ 0 ≤ n.tl ∧ 0 ≤ n.tw ∧ n.tl + n.tw ≤ 65536) ∨ (0 ≤ n.pr ∧ n.kids ≠ [] ∧ n.tl = 0 ∧ n.tw = 0 ∧ bytesOf (PnsLeaves n.kids) ≤ 65536 ∧ (PnsLeaves n.kids).length ≤ 262144)
mutual
def Pn.Ok : Pn → Prop
  | .mk sy pr tl tw st lk fm kids => Pn.Ok1 (.mk sy pr tl tw st lk fm kids) ∧ PnsOk kids
def PnsOk : List Pn → Prop
  | [] => True
  | n :: ns => n.Ok ∧ PnsOk ns
end
theorem PnsOk_iff : ∀ {l : List Pn}, PnsOk l ↔ ∀ n ∈ l, n.Ok
  | [] => by simp [PnsOk]
  | n :: ns => by simp [PnsOk, PnsOk_iff (l := ns)]
theorem Pn.Ok.one {n : Pn} (h : n.Ok) : n.Ok1 := by cases n; unfold Pn.Ok at h; exact h.1
theorem Pn.Ok.kid {n : Pn} (h : n.Ok) : ∀ k ∈ n.kids, k.Ok := by cases n; unfold Pn.Ok at h; exact PnsOk_iff.1 h.2
theorem Pn.Ok.mk' {n : Pn} (h : n.Ok1) (hk : ∀ k ∈ n.kids, k.Ok) : n.Ok := by cases n; unfold Pn.Ok; exact ⟨h, PnsOk_iff.2 hk⟩

/-- What is known of the tokens. -/
structure Pn.Toks (n : Pn) : Prop where
  pos : 1 ≤ n.leaves.length
  max : n.leaves.length ≤ 262144
  lo : ∀ t ∈ n.leaves, 0 ≤ t.2.1 ∧ 0 ≤ t.2.2
  by0 : 0 ≤ n.bytes
  by1 : n.bytes ≤ 65536
theorem bytesOf_nn {l : List (Int × Int × Int)} (h : ∀ t ∈ l, 0 ≤ t.2.1 ∧ 0 ≤ t.2.2) : 0 ≤ bytesOf l := by
  induction l with
  | nil => simp [bytesOf]
  | cons t l ih =>
    have := ih fun s hs => h s (by simp [hs])
    have := h t (by simp)
    simp only [bytesOf, List.map_cons, List.sum_cons] at *
    omega
theorem Pn.Ok.toks : ∀ n : Pn, n.Ok → n.Toks := by
  refine Pn.ind ?_
  intro n ih h
  rcases h.one.cases_ with ⟨h1, h2, h3, h4, h5, h6⟩ | ⟨h1, h2, h3, h4, h5, h6⟩
  · have hl : n.leaves = [(n.sy, n.tl, n.tw)] := by rw [n.leaves_eq, if_pos h1]
    refine ⟨by rw [hl]; simp, by rw [hl]; simp, by rw [hl]; intro t ht; obtain rfl := List.mem_singleton.1 ht; exact ⟨h4, h5⟩, ?_, ?_⟩ <;> (unfold Pn.bytes; rw [hl]; simp [bytesOf]; omega)
  · have hl : n.leaves = PnsLeaves n.kids := by rw [n.leaves_eq, if_neg (by omega)]
    have hlo : ∀ t ∈ n.leaves, 0 ≤ t.2.1 ∧ 0 ≤ t.2.2 := by
      rw [hl, PnsLeaves_eq]
      intro t ht
      obtain ⟨k, hk, ht⟩ := List.mem_flatMap.1 ht
      exact (ih k hk (h.kid k hk)).lo t ht
    refine ⟨?_, by rw [hl]; exact h6, hlo, by unfold Pn.bytes; exact bytesOf_nn hlo, by unfold Pn.bytes; rw [hl]; exact h5⟩
    rw [hl]
    cases hk : n.kids with
    | nil => exact absurd hk h2
    | cons k ks =>
      have := (ih k (by rw [hk]; simp) (h.kid k (by rw [hk]; simp))).pos
      unfold PnsLeaves
      rw [List.length_append]
      omega

theorem PnsLeaves_drop {l : List Pn} {i : Nat} (h : i < l.length) : PnsLeaves (l.drop i) = (l[i]).leaves ++ PnsLeaves (l.drop (i + 1)) := by
  rw [drop_pn h]
  conv => lhs; unfold PnsLeaves

/-! ### Leaves -/
theorem leaves_loop (l : List Pn) (hl : l.length ≤ 1000000) (ih : ∀ k ∈ l, k.leaves.length ≤ 1000000 → Ev (fun r => lvF r k.s79) (k.leaves.map t72)) (x0 x1 x2 x3 x4 x5 x6 : Int) (x7 : Bool) :
    ∀ (d i : Nat), l.length - i = d → i ≤ l.length → ∀ acc : List S72, acc.length + (PnsLeaves (l.drop i)).length ≤ 1000000 →
      Ev (fun r => PNodesTell.rootstockref20_Leaves.l0 r acc i x0 x1 x2 x3 x4 x5 x6 x7 (l.map Pn.s79)) (acc ++ (PnsLeaves (l.drop i)).map t72) := by
  intro d
  induction d with
  | zero =>
    intro i hd hi acc _
    refine ⟨1, fun k hk => ?_⟩
    obtain ⟨k, rfl⟩ : ∃ m, k = m + 1 := ⟨k - 1, by omega⟩
    simp only [PNodesTell.rootstockref20_Leaves.l0]
    rw [if_neg (by rw [List.length_map]; omega), List.drop_of_length_le (by omega)]
    simp [PnsLeaves]
  | succ d ih2 =>
    intro i hd hi acc hacc
    have hlt : i < l.length := by omega
    rw [PnsLeaves_drop hlt] at hacc ⊢
    rw [List.length_append] at hacc
    obtain ⟨K1, h1⟩ := ih l[i] (List.getElem_mem hlt) (by omega)
    obtain ⟨K2, h2⟩ := ih2 (i + 1) (by omega) (by omega) (acc ++ (l[i]).leaves.map t72) (by rw [List.length_append, List.length_map]; omega)
    refine ⟨max K1 K2 + 1, fun k hk => ?_⟩
    obtain ⟨k, rfl⟩ : ∃ m, k = m + 1 := ⟨k - 1, by omega⟩
    have e1 := h1 k (by omega)
    have e2 := h2 k (by omega)
    simp only [PNodesTell.rootstockref20_Leaves.l0]
    rw [if_pos (by rw [List.length_map]; omega), if_pos (by omega), rd79 hlt]
    simp only [lvF] at e1
    rw [e1]
    simp only [Option.bind_some]
    rw [if_pos (by rw [List.length_map]; omega), wrap_nat (by omega)]
    refine Eq.trans e2 ?_
    rw [List.map_append, List.append_assoc]

theorem leavesP : ∀ n : Pn, n.kids.length ≤ 1000000 → (∀ k ∈ n.kids, k.Ok) → n.leaves.length ≤ 1000000 → Ev (fun r => lvF r n.s79) (n.leaves.map t72) := by
  refine Pn.ind ?_
  intro n ih hk hok hl
  have hkl : ∀ k : Pn, k.Ok → k.kids.length ≤ 1000000 := by
    intro k hk
    rcases hk.one.cases_ with ⟨_, h2, _⟩ | ⟨_, _, _, _, _, h6⟩
    · rw [h2]; simp
    · have : ∀ l : List Pn, (∀ q ∈ l, q.Ok) → l.length ≤ (PnsLeaves l).length := by
        intro l
        induction l with
        | nil => intro _; simp
        | cons q qs ih =>
          intro h
          have h1 := (Pn.Ok.toks q (h q (by simp))).pos
          have h2 := ih fun x hx => h x (by simp [hx])
          unfold PnsLeaves
          rw [List.length_append, List.length_cons]
          omega
      have := this k.kids hk.kid
      omega
  simp only [lvF]
  rw [n.s79_eq]
  by_cases hp : n.pr < 0
  · refine ⟨1, fun k hk => ?_⟩
    obtain ⟨k, rfl⟩ : ∃ m, k = m + 1 := ⟨k - 1, by omega⟩
    simp only [PNodesTell.rootstockref20_Leaves.f]
    rw [if_pos hp, if_pos hp, n.leaves_eq, if_pos hp]
    rfl
  · have e : n.leaves = PnsLeaves n.kids := by rw [n.leaves_eq, if_neg hp]
    rw [e] at hl ⊢
    obtain ⟨K, h⟩ := leaves_loop n.kids hk (fun k hkm hkl2 => ih k hkm (hkl k (hok k hkm)) (fun q hq => (hok k hkm).kid q hq) hkl2) n.sy n.pr 0 0 0 n.st n.lk n.fm n.kids.length 0 (by omega) (by omega) [] (by simpa using hl)
    refine ⟨K + 1, fun k hk => ?_⟩
    obtain ⟨k, rfl⟩ : ∃ m, k = m + 1 := ⟨k - 1, by omega⟩
    simp only [PNodesTell.rootstockref20_Leaves.f]
    rw [if_neg hp, if_neg hp]
    have := h k (by omega)
    simpa using this

theorem kids_len {n : Pn} (h : n.Ok) : n.kids.length ≤ n.leaves.length := by
  rcases h.one.cases_ with ⟨_, h2, _⟩ | ⟨h1, _, _, _, _, h6⟩
  · rw [h2]; simp
  · rw [n.leaves_eq, if_neg (by omega)]
    have : ∀ l : List Pn, (∀ q ∈ l, q.Ok) → l.length ≤ (PnsLeaves l).length := by
      intro l
      induction l with
      | nil => intro _; simp
      | cons q qs ih =>
        intro h
        have h1 := (Pn.Ok.toks q (h q (by simp))).pos
        have h2 := ih fun x hx => h x (by simp [hx])
        unfold PnsLeaves
        rw [List.length_append, List.length_cons]
        omega
    exact this n.kids h.kid
theorem leaves_ev {n : Pn} (h : n.Ok) : Ev (fun r => lvF r n.s79) (n.leaves.map t72) :=
  leavesP n (by have := kids_len h; have := (Pn.Ok.toks n h).max; omega) h.kid (by have := (Pn.Ok.toks n h).max; omega)

/-! ### Bytes, Lead -/
theorem bytes_loop (l : List (Int × Int × Int)) (hl : l.length ≤ 1000000) (hlo : ∀ t ∈ l, 0 ≤ t.2.1 ∧ 0 ≤ t.2.2) :
    ∀ (d i : Nat), l.length - i = d → i ≤ l.length → ∀ acc : Int, 0 ≤ acc → acc + bytesOf (l.drop i) ≤ 1000000 →
      Ev (fun r => PNodesTell.rootstockref20_Bytes.l0 r acc (l.map t72) i) (acc + bytesOf (l.drop i)) := by
  intro d
  induction d with
  | zero =>
    intro i hd hi acc _ _
    refine ⟨1, fun k hk => ?_⟩
    obtain ⟨k, rfl⟩ : ∃ m, k = m + 1 := ⟨k - 1, by omega⟩
    simp only [PNodesTell.rootstockref20_Bytes.l0]
    rw [if_neg (by rw [List.length_map]; omega), List.drop_of_length_le (by omega)]
    simp [bytesOf]
  | succ d ih2 =>
    intro i hd hi acc h0 hacc
    have hlt : i < l.length := by omega
    have hb : bytesOf (l.drop i) = (l[i]).2.1 + (l[i]).2.2 + bytesOf (l.drop (i + 1)) := by
      rw [drop_pn hlt]; unfold bytesOf; rw [List.map_cons, List.sum_cons]
    have hd0 : 0 ≤ bytesOf (l.drop (i + 1)) := bytesOf_nn fun t ht => hlo t (List.mem_of_mem_drop ht)
    have hti := hlo l[i] (List.getElem_mem hlt)
    rw [hb] at hacc ⊢
    obtain ⟨K2, h2⟩ := ih2 (i + 1) (by omega) (by omega) (acc + ((l[i]).2.1 + (l[i]).2.2)) (by omega) (by omega)
    refine ⟨K2 + 1, fun k hk => ?_⟩
    obtain ⟨k, rfl⟩ : ∃ m, k = m + 1 := ⟨k - 1, by omega⟩
    have e2 := h2 k (by omega)
    simp only [PNodesTell.rootstockref20_Bytes.l0]
    rw [if_pos (by rw [List.length_map]; omega), if_pos (by omega), rd72 hlt, wrap_nat (by omega)]
    have ew : wrap64 (wrap64 (acc + (t72 l[i]).f1) + (t72 l[i]).f2) = acc + ((l[i]).2.1 + (l[i]).2.2) := by
      simp only [t72]
      unfold wrap64
      omega
    rw [ew]
    refine Eq.trans e2 ?_
    congr 1
    omega

theorem bytes_ev {n : Pn} (h : n.Ok) : Ev (fun r => byF r n.s79) n.bytes := by
  obtain ⟨K1, h1⟩ := leaves_ev h
  have ht := Pn.Ok.toks n h
  obtain ⟨K2, h2⟩ := bytes_loop n.leaves (by have := ht.max; omega) ht.lo n.leaves.length 0 (by omega) (by omega) 0 (by omega) (by have := ht.by1; unfold Pn.bytes at this; simp; omega)
  refine ⟨max K1 K2, fun k hk => ?_⟩
  have e1 := h1 k (by omega)
  have e2 := h2 k (by omega)
  simp only [byF, PNodesTell.rootstockref20_Bytes.f]
  simp only [lvF] at e1
  rw [e1]
  simp only [Option.bind_some]
  simpa [Pn.bytes] using e2

def leadOf (l : List (Int × Int × Int)) : Int := match l with | [] => 0 | t :: _ => t.2.1
theorem head_lead : ∀ (l : List (Int × Int × Int)) (h : 0 < l.length), (t72 l[0]).f1 = leadOf l
  | _ :: _, _ => rfl
theorem lead_ev {n : Pn} (h : n.Ok) : Ev (fun r => ldF r n.s79) n.lead := by
  obtain ⟨K1, h1⟩ := leaves_ev h
  have ht := Pn.Ok.toks n h
  refine ⟨K1, fun k hk => ?_⟩
  have e1 := h1 k (by omega)
  simp only [ldF, PNodesTell.rootstockref20_Lead.f]
  simp only [lvF] at e1
  rw [e1]
  simp only [Option.bind_some]
  have hp := ht.pos
  rw [if_pos (by rw [List.length_map]; omega)]
  have := rd72 (l := n.leaves) (i := 0) (by omega)
  rw [show ((0 : Nat) : Int) = 0 from rfl] at this
  rw [this]
  congr 1
  unfold Pn.lead
  exact head_lead n.leaves (by omega)

/-! ### Height -/
theorem PnsHeight_drop {l : List Pn} {i : Nat} (h : i < l.length) : PnsHeight (l.drop i) = max (l[i]).height (PnsHeight (l.drop (i + 1))) := by
  rw [drop_pn h]
  conv => lhs; unfold PnsHeight
theorem PnsHeight_nonneg : ∀ l : List Pn, 0 ≤ PnsHeight l
  | [] => by unfold PnsHeight; omega
  | n :: ns => by unfold PnsHeight; have := PnsHeight_nonneg ns; omega
theorem height_loop (l : List Pn) (hl : l.length ≤ 1000000) (ih : ∀ k ∈ l, Ev (fun r => htF r k.s79) k.height) (x0 x1 x2 x3 x4 x5 x6 : Int) (x7 : Bool) :
    ∀ (d i : Nat), l.length - i = d → i ≤ l.length → ∀ acc : Int, 0 ≤ acc → max acc (PnsHeight (l.drop i)) ≤ 1000000 →
      Ev (fun r => PNodesTell.rootstockref20_Height.l0 r acc i x0 x1 x2 x3 x4 x5 x6 x7 (l.map Pn.s79)) (max acc (PnsHeight (l.drop i)) + 1) := by
  intro d
  induction d with
  | zero =>
    intro i hd hi acc h0 h1
    refine ⟨1, fun k hk => ?_⟩
    obtain ⟨k, rfl⟩ : ∃ m, k = m + 1 := ⟨k - 1, by omega⟩
    simp only [PNodesTell.rootstockref20_Height.l0]
    rw [if_neg (by rw [List.length_map]; omega)]
    rw [List.drop_of_length_le (by omega)] at h1 ⊢
    unfold PnsHeight at h1 ⊢
    congr 1
    unfold wrap64
    omega
  | succ d ih2 =>
    intro i hd hi acc h0 hacc
    have hlt : i < l.length := by omega
    rw [PnsHeight_drop hlt] at hacc ⊢
    obtain ⟨K1, h1⟩ := ih l[i] (List.getElem_mem hlt)
    obtain ⟨K2, h2⟩ := ih2 (i + 1) (by omega) (by omega) (max acc (l[i]).height) (by omega) (by omega)
    refine ⟨max K1 K2 + 1, fun k hk => ?_⟩
    obtain ⟨k, rfl⟩ : ∃ m, k = m + 1 := ⟨k - 1, by omega⟩
    have e1 := h1 k (by omega)
    have e2 := h2 k (by omega)
    simp only [PNodesTell.rootstockref20_Height.l0]
    rw [if_pos (by rw [List.length_map]; omega), if_pos (by omega), rd79 hlt]
    simp only [htF] at e1
    rw [e1]
    simp only [Option.bind_some]
    rw [wrap_nat (by omega)]
    rw [show mx acc (l[i]).height = max acc (l[i]).height by unfold mx; omega]
    refine Eq.trans e2 ?_
    congr 1
    omega
theorem height_ev : ∀ n : Pn, n.Ok → n.height ≤ 1000000 → Ev (fun r => htF r n.s79) n.height := by
  refine Pn.ind ?_
  intro n ih h hh
  rw [n.height_eq] at hh ⊢
  have hkl := kids_len h
  have hmx := (Pn.Ok.toks n h).max
  have hin : ∀ l : List Pn, ∀ k ∈ l, k.height ≤ PnsHeight l := by
    intro l
    induction l with
    | nil => intro k hk; cases hk
    | cons q qs ihq =>
      intro k hk
      unfold PnsHeight
      rcases List.mem_cons.1 hk with rfl | hk
      · omega
      · have := ihq k hk; omega
  obtain ⟨K, hK⟩ := height_loop n.kids (by omega) (fun k hk => ih k hk (h.kid k hk) (by have := hin _ k hk; omega)) n.sy n.pr (if n.pr < 0 then (⟨n.sy, n.tl, n.tw⟩ : S72) else ⟨0, 0, 0⟩).f0 (if n.pr < 0 then (⟨n.sy, n.tl, n.tw⟩ : S72) else ⟨0, 0, 0⟩).f1 (if n.pr < 0 then (⟨n.sy, n.tl, n.tw⟩ : S72) else ⟨0, 0, 0⟩).f2 n.st n.lk n.fm n.kids.length 0 (by omega) (by omega) 0 (by omega) (by have := PnsHeight_nonneg n.kids; simp; omega)
  refine ⟨K + 1, fun k hk => ?_⟩
  obtain ⟨k, rfl⟩ : ∃ m, k = m + 1 := ⟨k - 1, by omega⟩
  simp only [htF]
  rw [n.s79_eq]
  simp only [PNodesTell.rootstockref20_Height.f]
  have e := hK k (by omega)
  rw [List.drop_zero, show max 0 (PnsHeight n.kids) = PnsHeight n.kids by have := PnsHeight_nonneg n.kids; omega] at e
  exact e

end Go.Proofs.Ytcjpmgfobnaoeaa



/- Equality of structs of numbers: spans, spots, tokens, stamps, steps. -/
namespace Go.Proofs.Ytcjpmgfobnaoeaa
set_option linter.unusedVariables false
set_option linter.unusedSimpArgs false
open Go.RowKit

section
variable {P : Program} {d : Nat} {xs ys : Array Value} {f : Field} {fs : List Field} {a b : Value} {r s : Bool} {w : World}
/-- One field, and those behind it. -/
theorem eqF (hn : (f.name == "_") = false) (ha : (part f.type xs f.offset).run P w = .ok a w) (hb : (part f.type ys f.offset).run P w = .ok b w) (he : (Op.equalIn d f.type a b).run P w = .ok r w) (hr : (Op.eqFields d xs ys fs).run P w = .ok s w) :
    (Op.eqFields d xs ys (f :: fs)).run P w = .ok (r && s) w := by
  have h1 : f.name ≠ "_" := by intro e; rw [e] at hn; simp at hn
  unfold Op.eqFields
  rw [if_pos h1]
  simp only [Sem.run_bind, ha, hb, he, Result.andThen_ok]
  cases r with
  | true => simpa using hr
  | false => simp
theorem eqF_nil : (Op.eqFields d xs ys []).run P w = .ok true w := by simp [Op.eqFields]
theorem eqF_struct {t : TypeId} {fs : Array Field} (hu : P.underlying t = some (.struct fs)) (hp : P.stoodInHeld t = false) (h : (Op.eqFields d xs ys fs.toList).run P w = .ok r w) : (Op.equalIn (d + 1) t (.agg xs) (.agg ys)).run P w = .ok r w := by
  have hf : P.fieldsOf t = fs := by unfold Program.fieldsOf; rw [hu]
  rw [run_equalIn_struct (P := P) w d t xs ys (by rw [hf]; exact hu) hp, hf]
  exact h
end

theorem ne_of_in {t : TypeId} {x y : Array Value} {r : Bool} {w : World} {n : Nat} (hn : n ≤ 10000) (h : ∀ d, (Op.equalIn (d + n) t (.agg x) (.agg y)).run Try.prog w = .ok r w) : (binOp .neq t (.agg x) (.agg y)).run Try.prog w = .ok (.bool (!r)) w := by
  have h1 := h (10000 - n)
  rw [show 10000 - n + n = 10000 by omega] at h1
  simp only [binOp]
  simp [Op.equal, Op.maxDepth, h1]

/-! Tokens, stamps, steps. -/
theorem eqA72 (d : Nat) (w : World) (x0 y0 x1 y1 x2 y2 : Int) : (Op.equalIn (d + 2) 72 (.agg #[.int .i64 x0, .int .i64 x1, .int .i64 x2]) (.agg #[.int .i64 y0, .int .i64 y1, .int .i64 y2])).run Try.prog w = .ok (x0 == y0 && (x1 == y1 && (x2 == y2 && true))) w := by
  refine eqF_struct Try.underlying72 (by kernel_rfl) ?_
  refine eqF (by rfl) (by go_simp; rfl) (by go_simp; rfl) (by go_simp) ?_
  refine eqF (by rfl) (by go_simp; rfl) (by go_simp; rfl) (by go_simp) ?_
  exact eqF (by rfl) (by go_simp; rfl) (by go_simp; rfl) (by go_simp) eqF_nil
@[go_sem] theorem neq72 (w : World) (x0 y0 x1 y1 x2 y2 : Int) : (binOp .neq 72 (.agg #[.int .i64 x0, .int .i64 x1, .int .i64 x2]) (.agg #[.int .i64 y0, .int .i64 y1, .int .i64 y2])).run Try.prog w = .ok (.bool (!(x0 == y0 && (x1 == y1 && (x2 == y2))))) w := by
  have := ne_of_in (by decide) fun d => eqA72 d w x0 y0 x1 y1 x2 y2
  simpa using this
theorem eqA57 (d : Nat) (w : World) (x0 y0 x1 y1 : Int) (x2 y2 : Bool) : (Op.equalIn (d + 2) 57 (.agg #[.int .i64 x0, .int .i64 x1, .bool x2]) (.agg #[.int .i64 y0, .int .i64 y1, .bool y2])).run Try.prog w = .ok (x0 == y0 && (x1 == y1 && (x2 == y2 && true))) w := by
  refine eqF_struct Try.underlying57 (by kernel_rfl) ?_
  refine eqF (by rfl) (by go_simp; rfl) (by go_simp; rfl) (by go_simp) ?_
  refine eqF (by rfl) (by go_simp; rfl) (by go_simp; rfl) (by go_simp) ?_
  exact eqF (by rfl) (by go_simp; rfl) (by go_simp; rfl) (by go_simp) eqF_nil
@[go_sem] theorem neq57 (w : World) (x0 y0 x1 y1 : Int) (x2 y2 : Bool) : (binOp .neq 57 (.agg #[.int .i64 x0, .int .i64 x1, .bool x2]) (.agg #[.int .i64 y0, .int .i64 y1, .bool y2])).run Try.prog w = .ok (.bool (!(x0 == y0 && (x1 == y1 && (x2 == y2))))) w := by
  have := ne_of_in (by decide) fun d => eqA57 d w x0 y0 x1 y1 x2 y2
  simpa using this

end Go.Proofs.Ytcjpmgfobnaoeaa


/- find.Path and find.At. -/
namespace Go.Proofs.Ytcjpmgfobnaoeaa
set_option linter.unusedVariables false
set_option linter.unusedSimpArgs false
open Go.RowKit

/-- A spot: symbol, production, from, to, depth. -/
structure Sp where
  sy : Int
  pr : Int
  fa : Int
  fz : Int
  dp : Int

def Sp.cells (s : Sp) : List Value := [.int .i64 s.sy, .int .i64 s.pr, .int .i64 s.fa, .int .i64 s.fz, .int .i64 s.dp]
def spots (l : List Sp) : List Value := l.flatMap Sp.cells

theorem info66 : (Try.prog.info? 66).map (fun i => (i.zero, i.size, i.bytes)) = some (some (.agg #[.int .i64 0, .int .i64 0, .int .i64 0, .int .i64 0, .int .i64 0]), 5, 40) := by kernel_rfl

theorem row_new {w : World} {base g e sz n : Nat} {cs : List Value} (h : w.heap[g]? = some (.cells cs.toArray e (0, 0))) (hb : base ≤ g) (hl : cs.length = n * sz) (hn : n ≤ maxLen) : w.ownsRow base e sz (.slice (some ⟨g, 0, none⟩) n n) n cs := by
  refine ⟨hl, .inr ⟨g, n, cs.toArray, rfl, hb, h, Nat.le_refl _, hn, by simpa using hl, ?_⟩⟩
  rw [← hl]
  simp

attribute [local irreducible] Calls
end Go.Proofs.Ytcjpmgfobnaoeaa

/- find.At. -/
namespace Go.Proofs.Ytcjpmgfobnaoeaa
set_option linter.unusedVariables false
set_option linter.unusedSimpArgs false
open Go.RowKit

theorem spots_cons (s : Sp) (l : List Sp) : spots (s :: l) = s.cells ++ spots l := by simp [spots]
theorem spots_get : ∀ (l : List Sp) (i : Nat) (h : i < l.length) (j : Nat), j < 5 → (spots l)[i * 5 + j]? = (l[i].cells)[j]?
  | s :: l, 0, _, j, hj => by
    rw [spots_cons, Nat.zero_mul, Nat.zero_add, List.getElem?_append_left (by simp [Sp.cells]; omega)]
    rfl
  | s :: l, i + 1, h, j, hj => by
    rw [spots_cons, List.getElem?_append_right (by simp [Sp.cells]; omega)]
    have := spots_get l i (by simpa using h) j hj
    simp only [List.getElem_cons_succ]
    rw [← this]
    congr 1
    simp only [Sp.cells, List.length_cons, List.length_nil]
    omega
theorem spots_len (l : List Sp) : (spots l).length = l.length * 5 := by
  induction l with
  | nil => rfl
  | cons s l ih => rw [spots_cons, List.length_append, ih]; simp [Sp.cells]; omega

/-- The cells of a row of spots. -/
theorem spots_row {w : World} {base n : Nat} {v : Value} {l : List Sp} (h : w.ownsRow base 66 5 v n (spots l)) : n = l.length ∧ ∃ A c, v = .slice A l.length c ∧ ∀ i (hi : i < l.length), ∃ g, A = some ⟨g, 0, none⟩ ∧ base ≤ g ∧ g < w.heap.size ∧
    w.cell? ⟨g, i * 5, none⟩ = some (.int .i64 l[i].sy) ∧ w.cell? ⟨g, i * 5 + 1, none⟩ = some (.int .i64 l[i].pr) ∧ w.cell? ⟨g, i * 5 + 2, none⟩ = some (.int .i64 l[i].fa) ∧ w.cell? ⟨g, i * 5 + 3, none⟩ = some (.int .i64 l[i].fz) ∧ w.cell? ⟨g, i * 5 + 4, none⟩ = some (.int .i64 l[i].dp) := by
  have hn : n = l.length := by have := h.1; rw [spots_len] at this; omega
  subst hn
  rcases h.2 with ⟨rfl, h0⟩ | ⟨g, c, cur, rfl, hb, hg, h3, h4, h5, h6⟩
  · refine ⟨rfl, none, 0, by rw [h0], fun i hi => by omega⟩
  · refine ⟨rfl, _, c, rfl, fun i hi => ?_⟩
    have hc : ∀ j, j < 5 → ∀ u, (l[i].cells)[j]? = some u → w.cell? ⟨g, i * 5 + j, none⟩ = some u := fun j hj u hu => by
      refine cell_of_heap hg ?_
      have := spots_get l i hi j hj
      rw [hu, ← h6, List.getElem?_take] at this
      split at this
      · simpa using this
      · simp at this
    exact ⟨g, rfl, hb, (Array.getElem?_eq_some_iff.1 hg).1, hc 0 (by decide) _ rfl, hc 1 (by decide) _ rfl, hc 2 (by decide) _ rfl, hc 3 (by decide) _ rfl, hc 4 (by decide) _ rfl⟩

attribute [local irreducible] Calls
end Go.Proofs.Ytcjpmgfobnaoeaa


/- Plain: the visits of a tree, a node ahead of its kids; its spots; which of them an offset lies in. -/
namespace Go.Proofs.Ytcjpmgfobnaoeaa
set_option linter.unusedVariables false
set_option linter.unusedSimpArgs false

/-- A node, where it begins, how deep it lies. -/
abbrev Vs := Nd × Int × Int

/-- The kids of a node that begin at a place. -/
def kidsV (a d : Int) : List Nd → List Vs
  | [] => []
  | k :: ks => (k, a, d) :: kidsV (a + k.bt) d ks

mutual
/-- The visits of a node and of what is below it. -/
def preN (a d : Int) : Nd → List Vs
  | .mk b tk bt ld ht sy pr wd st lk fm ks kids => (.mk b tk bt ld ht sy pr wd st lk fm ks kids, a, d) :: preK a (d + 1) kids
def preK (a d : Int) : List Nd → List Vs
  | [] => []
  | k :: ks => preN a d k ++ preK (a + k.bt) d ks
end
theorem preN_kids (a d : Int) (n : Nd) : preN a d n = (n, a, d) :: preK a (d + 1) n.kids := by cases n; rfl
theorem preK_cons (a d : Int) (k : Nd) (ks : List Nd) : preK a d (k :: ks) = preN a d k ++ preK (a + k.bt) d ks := by rw [preK]
def preV (v : Vs) : List Vs := preN v.2.1 v.2.2 v.1
theorem preK_eq (d : Int) : ∀ (l : List Nd) (a : Int), preK a d l = (kidsV a d l).flatMap preV
  | [], a => rfl
  | k :: ks, a => by rw [preK_cons, preK_eq d ks]; rfl
theorem preV_eq (v : Vs) : preV v = v :: (kidsV v.2.1 (v.2.2 + 1) v.1.kids).flatMap preV := by
  obtain ⟨n, a, d⟩ := v
  show preN a d n = _
  rw [preN_kids, preK_eq]

/-- The spot of a visit. -/
def spotV (v : Vs) : Sp := ⟨v.1.sy, v.1.pr, if v.2.2 = 0 then 0 else v.2.1 + v.1.ld, v.2.1 + v.1.bt, v.2.2⟩
/-- What Spots tells of a node. -/
def spotsN (n : Nd) : List Sp := (preN 0 0 n).map spotV

mutual
theorem preN_len : ∀ (n : Nd) (a d : Int), (preN a d n).length = n.cnt
  | .mk _ _ _ _ _ _ _ _ _ _ _ _ kids, a, d => by
    unfold preN Nd.cnt
    have := preK_len kids a (d + 1)
    simp only [List.length_cons]
    omega
theorem preK_len : ∀ (l : List Nd) (a d : Int), (preK a d l).length = NdsCnt l
  | [], a, d => by unfold preK; simp [NdsCnt]
  | k :: ks, a, d => by
    have h1 := preN_len k a d
    have h2 := preK_len ks (a + k.bt) d
    rw [preK_cons, List.length_append]
    unfold NdsCnt
    omega
end

/-- Where a visit of something below a node lies. -/
structure Within (a d z l : Int) (v : Vs) : Prop where
  wf : v.1.WF
  ge : a ≤ v.2.1
  ld : l ≤ v.2.1 + v.1.ld
  le : v.2.1 + v.1.bt ≤ z
  dp : d ≤ v.2.2

theorem preN_in : ∀ n : Nd, n.WF → ∀ a d, ∀ v ∈ preN a d n, Within a d (a + n.bt) (a + n.ld) v := by
  refine Nd.ind ?_
  intro n ih h a d v hv
  have hk : ∀ l : List Nd, (∀ k ∈ l, k ∈ n.kids) → ∀ a d, ∀ v ∈ preK a d l, Within a d (a + sumBt l) (a + headLd l) v := by
    intro l
    induction l with
    | nil => intro _ a d v hv; simp [preK] at hv
    | cons k ks ihl =>
      intro hl a d v hv
      have hkm := hl k (by simp)
      have hkw := h.kid k hkm
      have hok := Nd.WF.ok k hkw
      have b0 := hok.bt0
      have l1 := hok.ld1
      have hs0 := (sumBt_ge (l := ks) fun m hm => (Nd.WF.ok m (h.kid m (hl m (by simp [hm])))).bt0).1
      rw [sumBt_cons]
      show Within a d _ (a + k.ld) v
      rw [preK_cons] at hv
      rcases List.mem_append.1 hv with hv | hv
      · obtain ⟨h1, h2, h3, h4, h5⟩ := ih k hkm hkw a d v hv
        exact ⟨h1, h2, h3, by omega, h5⟩
      · obtain ⟨h1, h2, h3, h4, h5⟩ := ihl (fun m hm => hl m (by simp [hm])) (a + k.bt) d v hv
        have := (Nd.WF.ok v.1 h1).ld0
        exact ⟨h1, by omega, by omega, by omega, h5⟩
  rw [preN_kids] at hv
  rcases List.mem_cons.1 hv with rfl | hv
  · exact ⟨h, Int.le_refl _, Int.le_refl _, Int.le_refl _, Int.le_refl _⟩
  · obtain ⟨h1, h2, h3, h4, h5⟩ := hk n.kids (fun _ h => h) a (d + 1) v hv
    have hs := h.sum.2
    refine ⟨h1, h2, ?_, by omega, by omega⟩
    rcases h.cases with ⟨_, e2, _⟩ | ⟨_, _, _, _, e5, _⟩
    · rw [e2] at hv; simp [preK] at hv
    · omega

end Go.Proofs.Ytcjpmgfobnaoeaa

/- A range over a function whose iterator keeps what it is at in cells of its own, and whose rounds all go on: what each of the two may turn, and the law. -/
namespace Go.Proofs.Ytcjpmgfobnaoeaa
set_option linter.unusedVariables false
set_option linter.unusedSimpArgs false
open Go.RowKit Go.Shelf

/-- Cells of one of these types. -/
def InT (T : List TypeId) (o : Obj) : Prop := ∃ c t fr, o = .cells c t fr ∧ t ∈ T
theorem InT.cells {T : List TypeId} {c : Array Value} {t : TypeId} {fr : Nat × Nat} (h : t ∈ T) : InT T (.cells c t fr) := ⟨c, t, fr, rfl, h⟩
theorem InT.not {T : List TypeId} {c : Array Value} {t : TypeId} {fr : Nat × Nat} (h : t ∉ T) : ¬ InT T (.cells c t fr) := by
  rintro ⟨c', t', fr', e, h'⟩
  injection e with _ e _
  exact h (e ▸ h')
theorem InT.not_of {T : List TypeId} {o : Obj} (h : o.isCells = false) : ¬ InT T o := by
  rintro ⟨c', t', fr', rfl, h'⟩
  simp [Obj.isCells] at h

/-- What a round keeps for the iterator: cells of the types T, and all that is no cells. -/
structure KT (T : List TypeId) (n₀ : Nat) (A B : World) : Prop where
  below : Below n₀ A B
  same : ∀ (k : Nat) (o : Obj), A.heap[k]? = some o → InT T o ∨ o.isCells = false → B.heap[k]? = some o

/-- What the iterator (and the loop's own record, from block m on) keeps for the rounds: all but cells of the types T. -/
structure AT (T : List TypeId) (n₀ m : Nat) (A B : World) : Prop where
  below : Below n₀ A B
  same : ∀ (k : Nat) (o : Obj), A.heap[k]? = some o → ¬ InT T o → o.isCells = true ∨ k < m → B.heap[k]? = some o

theorem KT.refl (T : List TypeId) (n₀ : Nat) (A : World) : KT T n₀ A A := ⟨Below.refl _ _, fun _ _ h _ => h⟩
theorem KT.trans {T : List TypeId} {n₀ : Nat} {A B C : World} (h : KT T n₀ A B) (k : KT T n₀ B C) : KT T n₀ A C :=
  ⟨h.below.trans k.below, fun i o hi ho => k.same i o (h.same i o hi ho) ho⟩
theorem AT.refl (T : List TypeId) (n₀ m : Nat) (A : World) : AT T n₀ m A A := ⟨Below.refl _ _, fun _ _ h _ _ => h⟩
theorem AT.trans {T : List TypeId} {n₀ m : Nat} {A B C : World} (h : AT T n₀ m A B) (k : AT T n₀ m B C) : AT T n₀ m A C :=
  ⟨h.below.trans k.below, fun i o hi ho hm => k.same i o (h.same i o hi ho hm) ho hm⟩
theorem AT.mono {T T' : List TypeId} {n₀ m m' : Nat} {A B : World} (h : AT T n₀ m A B) (hT : ∀ t ∈ T, t ∈ T') (hm : m' ≤ m) : AT T' n₀ m' A B :=
  ⟨h.below, fun i o hi ho hk => h.same i o hi (fun ⟨c, t, fr, e, ht⟩ => ho ⟨c, t, fr, e, hT t ht⟩) (hk.imp_right fun x => by omega)⟩

theorem AT.mono' {T : List TypeId} {n₀ m m' : Nat} {A B : World} (h : AT T n₀ m A B) (hm : m' ≤ m) : AT T n₀ m' A B := h.mono (fun _ h => h) hm

/-- What turns nothing that lay is both. -/
theorem KT.of_below {T : List TypeId} {n₀ : Nat} {A B : World} (h : Below A.heap.size A B) (hn : n₀ ≤ A.heap.size) : KT T n₀ A B :=
  ⟨h.mono hn, fun k _ hk _ => (h.block k (Array.getElem?_eq_some_iff.1 hk).1).trans hk⟩
theorem AT.of_below {T : List TypeId} {n₀ m : Nat} {A B : World} (h : Below A.heap.size A B) (hn : n₀ ≤ A.heap.size) : AT T n₀ m A B :=
  ⟨h.mono hn, fun k _ hk _ _ => (h.block k (Array.getElem?_eq_some_iff.1 hk).1).trans hk⟩

theorem KT.setCell {T : List TypeId} {n₀ : Nat} {A W : World} (h : KT T n₀ A W) {p : Addr} (hp : n₀ ≤ p.block) {c : Array Value} {t : TypeId} {fr : Nat × Nat} (hb : W.heap[p.block]? = some (.cells c t fr)) (ht : t ∉ T) (u : Value) : KT T n₀ A (W.setCell p u) := by
  refine h.trans ⟨(Below.refl _ _).setCell hp u, fun k o hk ho => ?_⟩
  by_cases e : k = p.block
  · subst e
    rw [hb] at hk
    cases hk
    rcases ho with ho | ho
    · exact absurd ho (InT.not ht)
    · simp [Obj.isCells] at ho
  · exact (Below.heap_setCell W p u k e).trans hk
theorem AT.setCell {T : List TypeId} {n₀ m : Nat} {A W : World} (h : AT T n₀ m A W) {p : Addr} (hp : n₀ ≤ p.block) {c : Array Value} {t : TypeId} {fr : Nat × Nat} (hb : W.heap[p.block]? = some (.cells c t fr)) (ht : t ∈ T) (u : Value) : AT T n₀ m A (W.setCell p u) := by
  refine h.trans ⟨(Below.refl _ _).setCell hp u, fun k o hk ho _ => ?_⟩
  by_cases e : k = p.block
  · subst e
    rw [hb] at hk
    cases hk
    exact absurd (InT.cells ht) ho
  · exact (Below.heap_setCell W p u k e).trans hk
theorem KT.grown {T : List TypeId} {n₀ : Nat} {A W W' : World} {row : Option Nat} (h : KT T n₀ A W) (hg : W.grownBy W' row) (hn : n₀ ≤ W.heap.size) (hr : ∀ k, row = some k → n₀ ≤ k ∧ ∃ c t fr, W.heap[k]? = some (.cells c t fr) ∧ t ∉ T) : KT T n₀ A W' := by
  refine h.trans ⟨(Below.refl _ _).grown hg hn fun k e => (hr k e).1, fun k o hk ho => ?_⟩
  refine (hg.block k (Array.getElem?_eq_some_iff.1 hk).1 ?_).trans hk
  intro e
  obtain ⟨_, c, t, fr, h1, h2⟩ := hr k e.symm
  rw [h1] at hk
  cases hk
  rcases ho with ho | ho
  · exact absurd ho (InT.not h2)
  · simp [Obj.isCells] at ho
theorem AT.grown {T : List TypeId} {n₀ m : Nat} {A W W' : World} {row : Option Nat} (h : AT T n₀ m A W) (hg : W.grownBy W' row) (hn : n₀ ≤ W.heap.size) (hr : ∀ k, row = some k → n₀ ≤ k ∧ ∃ c t fr, W.heap[k]? = some (.cells c t fr) ∧ t ∈ T) : AT T n₀ m A W' := by
  refine h.trans ⟨(Below.refl _ _).grown hg hn fun k e => (hr k e).1, fun k o hk ho _ => ?_⟩
  refine (hg.block k (Array.getElem?_eq_some_iff.1 hk).1 ?_).trans hk
  intro e
  obtain ⟨_, c, t, fr, h1, h2⟩ := hr k e.symm
  rw [h1] at hk
  cases hk
  exact absurd (InT.cells h2) ho
theorem AT.putObj {T : List TypeId} {n₀ m : Nat} {W : World} {l : Nat} {o : Obj} (o' : Obj) (hl : W.heap[l]? = some o) (ho : o.isCells = false) (hm : m ≤ l) (hn : n₀ ≤ l) : AT T n₀ m W (W.putObj l o') :=
  ⟨(Below.refl n₀ W).grown (grownBy_putObj' W l o') (by have := (Array.getElem?_eq_some_iff.1 hl).1; omega) (fun k e => by cases e; exact hn), fun k x hk _ hx => by
    by_cases e : k = l
    · subst e
      rw [hl] at hk
      cases hk
      rcases hx with hx | hx
      · rw [ho] at hx; cases hx
      · omega
    · exact (World.putObj_heap_other e).trans hk⟩
/-- A block that the iterator leaves alone. -/
theorem AT.keep {T : List TypeId} {n₀ m : Nat} {A B : World} (h : AT T n₀ m A B) {k : Nat} {c : Array Value} {t : TypeId} {fr : Nat × Nat} (hk : A.heap[k]? = some (.cells c t fr)) (ht : t ∉ T) : B.heap[k]? = some (.cells c t fr) :=
  h.same k _ hk (InT.not ht) (.inl rfl)
theorem KT.keep {T : List TypeId} {n₀ : Nat} {A B : World} (h : KT T n₀ A B) {k : Nat} {c : Array Value} {t : TypeId} {fr : Nat × Nat} (hk : A.heap[k]? = some (.cells c t fr)) (ht : t ∈ T) : B.heap[k]? = some (.cells c t fr) :=
  h.same k _ hk (.inl (InT.cells ht))
theorem AT.join' {T T' : List TypeId} {n₀ k m : Nat} {A B C : World} (h : AT T n₀ m A B) (hk : AT T' n₀ k B C) (hm : m ≤ k) (hT : ∀ t ∈ T', t ∈ T) : AT T n₀ m A C :=
  h.trans (hk.mono hT hm)

variable {P : Program}

/-- An iterator that gives xs, one by one, to rounds that all go on. -/
def GivesT {α : Type} (n : Nat) (P : Program) (gf : Nat) (lb : Array Value) (encs : α → Array Value) (T : List TypeId) (n₀ : Nat) (xs : List α) (w : World) : Prop :=
  ∀ (l : Nat) (J : List α → World → Prop) (W : World), Below w.heap.size w W → (∀ pre A B, J pre A → AT T n₀ W.heap.size A B → J pre B) →
    (∀ pre x rest W1, xs = pre ++ x :: rest → J pre W1 → ∀ m, YieldAt Fence.wide m P l (encs x) W1 fun e W' => e = .returned (.bool true) ∧ J (pre ++ [x]) W' ∧ KT T n₀ W1 W') →
    J [] W → CallsIn Fence.wide n P gf (#[.func (.yield l) #[] #[]] ++ lb) W fun e W' => (∃ v, e = .returned v) ∧ J xs W'

/-- How a round's body is left: it goes on. -/
def goesOn (T : List TypeId) (n₀ : Nat) (R : World → Prop) (W : World) : Exit → Act → World → Prop
  | .normal, _, W' => KT T n₀ W W' ∧ R W'
  | _, _, _ => False

theorem wpIn_rangeT {α : Type} {n : Nat} {g : Operand} {ps : Array Tmp} {assign body : Code} {Q : Exit → Act → World → Prop} {a : Act} {w : World} {gf : Nat} {lb : Array Value}
    (hg : a.eval g = .func (.func gf) #[] lb) (eg : ∀ args w, (callFunc gf args).run P w = .ok (.enter gf args) w) {encs : α → Array Value} {T : List TypeId} {n₀ : Nat} {xs : List α} {w0 : World}
    (hseq : ∀ m, GivesT m P gf lb encs T n₀ xs w0) (hb0 : Below w0.heap.size w0 w) (hn : n₀ ≤ w.heap.size) (hps : ∀ x, (encs x).size = ps.size)
    (I : List α → World → Prop) (hI : ∀ pre A B, I pre A → AT T n₀ w.heap.size A B → I pre B) (h0 : I [] w) (Ax : α → Act → World → Prop) (hAx : ∀ x a' A B, Ax x a' A → AT [] n₀ w.heap.size A B → Ax x a' B)
    (hassign : ∀ (l m : Nat) (pre : List α) (x : α) (W : World), I pre W → Below n₀ w W → w.heap.size ≤ W.heap.size →
      assign.wpIn (Fence.wide.inRound l) m P (Exit.then (fun a₁ W₁ => Ax x a₁ W₁ ∧ KT T n₀ W W₁ ∧ I pre W₁) (fun _ _ _ => False)) { tmps := (ps.zip (encs x)).foldl (fun t (p, v) => t.setIfInBounds p v) a.tmps, defers := [] } W)
    (hbody : ∀ (l m : Nat) (pre : List α) (x : α) (rest : List α) (a₁ : Act) (W : World), xs = pre ++ x :: rest → I pre W → Ax x a₁ W → body.wpIn (Fence.wide.inRound l) m P (goesOn T n₀ (I (pre ++ [x])) W) a₁ W)
    (hdone : ∀ (D : Nat) (W : World), D = w.heap.size → I xs W → W.heap[D]? = some (.deferred (some [])) → Q .normal { a with defers := { target := .collected D, args := #[] } :: a.defers } W) :
    (Code.rangeFunc g ps assign body).wpIn Fence.wide n P Q a w := by
  refine wpIn_rangeFunc fun fn hfn => ?_
  rw [show Fence.wide.round = none from rfl]
  obtain ⟨rc, hrc⟩ : ∃ rc : LoopState → Loop, rc = fun st => { state := st, pending := none, fn, tmps := a.tmps, params := ps, assign, body, defers := w.heap.size } := ⟨_, rfl⟩
  obtain ⟨W1, hW1⟩ : ∃ W1, (w.alloc (.deferred (some []))).alloc (.loop (rc .ready)) = W1 := ⟨_, rfl⟩
  have hb1 : Below w.heap.size w W1 := by rw [← hW1]; exact ((Below.refl _ w).alloc (Nat.le_refl _) _).alloc (by simp) _
  have hL1 : W1.heap[w.heap.size + 1]? = some (.loop (rc .ready)) := by
    have h := World.alloc_heap_new (w.alloc (.deferred (some []))) (.loop (rc .ready))
    rwa [World.size_alloc, hW1] at h
  have hD1 : W1.heap[w.heap.size]? = some (.deferred (some [])) := by
    rw [← hW1]
    exact (Below.heap_alloc _ _ _ (by simp)).trans (World.alloc_heap_new w _)
  have hsz : W1.heap.size = w.heap.size + 2 := by rw [← hW1]; simp
  refine ⟨w.heap.size + 1, [{ target := .collected w.heap.size, args := #[] }], W1, { target := .fn (.func gf) lb, args := #[.func (.yield (w.heap.size + 1)) #[] #[]] }, W1, gf,
    #[.func (.yield (w.heap.size + 1)) #[] #[]] ++ lb, W1, ?_, ?_, fun _ _ => trivial, ?_, fun h => by simp [Fence.wide] at h, ?_⟩
  · rw [← hW1, hrc]
    exact run_enterLoop_outer fn a.tmps ps assign body
  · simp only [resolve, hg]
    simp [go_sem]
  · simp [invoke, go_sem, eg]
  refine (hseq (n - 1) (w.heap.size + 1) (fun pre W => (I pre W ∧ Below n₀ w W) ∧ W.heap[w.heap.size + 1]? = some (.loop (rc .ready)) ∧ W.heap[w.heap.size]? = some (.deferred (some []))) W1 (hb0.trans (hb1.mono hb0.size)) ?_ ?_ ⟨⟨hI _ _ _ h0 (AT.of_below hb1 hn), hb1.mono hn⟩, hL1, hD1⟩).mono ?_
  · rintro pre A B ⟨⟨h1, h1b⟩, h2, h3⟩ hAB
    exact ⟨⟨hI _ _ _ h1 (hAB.mono' (by omega)), h1b.trans hAB.below⟩, hAB.same _ _ h2 (InT.not_of rfl) (.inr (by omega)), hAB.same _ _ h3 (InT.not_of rfl) (.inr (by omega))⟩
  · rintro pre x rest W he ⟨⟨h1, h1b⟩, h2, h3⟩ m
    have hl : w.heap.size + 1 < W.heap.size := (Array.getElem?_eq_some_iff.1 h2).1
    have hy := run_yield (P := P) (args := encs x) h2 (by rw [hrc]; exact hps x)
    rw [hrc] at hy
    refine ⟨fn, _, assign, body, hy, roundIn_of_wpIn hfn (wpIn_mono (hassign _ _ pre x W h1 h1b (by omega)) ?_)⟩
    intro e0 a1 W1' hq0
    cases e0 with
    | normal =>
      obtain ⟨hax, hkt, h11⟩ := hq0
      have h2' := hkt.same _ _ h2 (.inr rfl)
      have h3' := hkt.same _ _ h3 (.inr rfl)
      have hl' := (Array.getElem?_eq_some_iff.1 h2').1
      refine ⟨_, run_beginRound h2' (by rw [hrc]), ?_⟩
      obtain ⟨W2, hW2⟩ : ∃ W2, W1'.putObj (w.heap.size + 1) (.loop { rc .ready with state := .busy }) = W2 := ⟨_, rfl⟩
      rw [hW2]
      have ho : ∀ k, k ≠ w.heap.size + 1 → W2.heap[k]? = W1'.heap[k]? := fun k hk => by rw [← hW2]; exact World.putObj_heap_other hk
      have hl2 : W2.heap[w.heap.size + 1]? = some (.loop { rc .ready with state := .busy }) := by rw [← hW2]; exact World.putObj_heap_same hl'
      have hat : AT [] n₀ w.heap.size W1' W2 := by rw [← hW2]; exact AT.putObj _ h2' rfl (by omega) (by omega)
      refine wpIn_mono (hbody _ _ pre x rest a1 W2 he (hI _ _ _ h11 (hat.mono (by simp) (Nat.le_refl _))) (hAx _ _ _ _ hax hat)) ?_
      intro e a3 W3 hq
      cases e with
      | normal =>
        obtain ⟨hk, hi3⟩ := hq
        have hl3 := hk.same _ _ hl2 (.inr rfl)
        have hr := run_endRound (P := P) none hl3
        have e4 : ({ ({ rc .ready with state := .busy } : Loop) with state := if (none : Option Code).isNone then .ready else .done, pending := none } : Loop) = rc .ready := by rw [hrc]; rfl
        rw [e4] at hr
        have hlt3 := (Array.getElem?_eq_some_iff.1 hl3).1
        have b1 : Below n₀ W (W3.putObj (w.heap.size + 1) (.loop (rc .ready))) := ((hkt.below.trans hat.below).trans hk.below).grown (grownBy_putObj' W3 _ _) (by omega) (fun k e => by cases e; omega)
        refine ⟨_, _, hr, rfl, ⟨⟨hI _ _ _ hi3 (AT.putObj _ hl3 rfl (by omega) (by omega)), h1b.trans b1⟩, World.putObj_heap_same hlt3, ?_⟩, b1, ?_⟩
        · rw [World.putObj_heap_other (by omega)]
          exact hk.same _ _ ((ho _ (by omega)).trans h3') (.inr rfl)
        · intro k o hk1 hk2
          by_cases e : k = w.heap.size + 1
          · subst e
            rw [h2] at hk1
            cases hk1
            exact World.putObj_heap_same hlt3
          · rw [World.putObj_heap_other e]
            exact hk.same _ _ ((ho _ e).trans (hkt.same _ _ hk1 hk2)) hk2
      | exit id => exact hq.elim
      | goto l => exact hq.elim
      | ret => exact hq.elim
      | panic ch => exact hq.elim
      | outgrown => exact hq.elim
    | exit id => exact hq0.elim
    | goto l => exact hq0.elim
    | ret => exact hq0.elim
    | panic ch => exact hq0.elim
    | outgrown => exact hq0.elim
  · rintro e W3 ⟨⟨v, rfl⟩, ⟨h1, _⟩, h2, h3⟩
    have hr := run_endLoop (P := P) h2 (by rw [hrc]; simp)
    refine ⟨none, _, by rw [hr, hrc], ?_⟩
    exact hdone _ _ rfl (hI _ _ _ h1 (AT.putObj _ h2 rfl (by omega) (by omega))) ((World.putObj_heap_other (by omega)).trans h3)

end Go.Proofs.Ytcjpmgfobnaoeaa

/- slices.Backward at kids of a node: what it gives. -/
namespace Go.Proofs.Ytcjpmgfobnaoeaa
set_option linter.unusedVariables false
set_option linter.unusedSimpArgs false
open Go.RowKit Go.Shelf
attribute [local go_sem] Oper.semAt_some

/-- The numbers below m, the greatest one first. -/
def down : Nat → List Nat
  | 0 => []
  | m + 1 => m :: down m
theorem down_len : ∀ m, (down m).length = m
  | 0 => rfl
  | m + 1 => by simp [down, down_len m]
theorem down_at {x : Nat} {rest : List Nat} : ∀ {m : Nat} {pre : List Nat}, down m = pre ++ x :: rest → rest = down x ∧ pre.length + x + 1 = m
  | 0, [], h => by simp [down] at h
  | 0, _ :: _, h => by simp [down] at h
  | m + 1, [], h => by
    simp only [down, List.nil_append, List.cons.injEq] at h
    obtain ⟨rfl, rfl⟩ := h
    simp
  | m + 1, p :: pre, h => by
    simp only [down, List.cons_append, List.cons.injEq] at h
    obtain ⟨h1, h2⟩ := down_at h.2
    exact ⟨h1, by simp; omega⟩

theorem all_call (p : Option Addr) (w : World) : Calls Try.prog 69 #[.pointer p] w fun e w' => e = .returned (.func (.func 85) #[] #[.pointer (some ⟨w.heap.size, 0, none⟩)]) ∧ w' = w.alloc (.cells #[.pointer p] 33) := by
  go_enter Try.func69, Try.ntmps69
  go_wp2
  go_ret
  exact ⟨rfl, rfl⟩
theorem back_call (A : Option Addr) (n c : Nat) (w : World) : Calls Try.prog 86 #[.slice A n c] w fun e w' => e = .returned (.func (.func 89) #[] #[.pointer (some ⟨w.heap.size, 0, none⟩)]) ∧ w' = w.alloc (.cells #[.slice A n c] 45) := by
  go_enter Try.func86, Try.ntmps86
  go_wp2
  go_ret
  exact ⟨rfl, rfl⟩

/-- The kids that a row holds. -/
structure KidsAt (n₀ : Nat) (w : World) (ks : Value) (kids : List Nd) : Prop where
  val : ∃ A c, ks = .slice A kids.length c
  get : ∀ i (h : i < kids.length), ∃ g c, ks = .slice (some ⟨g, 0, none⟩) kids.length c ∧ g < n₀ ∧ w.cell? ⟨g, i, none⟩ = some (kids[i]).ptr

/-- The pointer to the kid with a number. -/
def kp (kids : List Nd) (i : Nat) : Value := match kids[i]? with
  | some k => k.ptr
  | none => .pointer none
theorem kp_at {kids : List Nd} {i : Nat} (h : i < kids.length) : kp kids i = (kids[i]).ptr := by
  unfold kp
  rw [List.getElem?_eq_getElem h]

theorem back1_gives (kids : List Nd) (ks : Value) (bb n₀ : Nat) (w : World) (hl : kids.length ≤ 1000000) (hb : w.heap[bb]? = some (.cells #[ks] 45 (0, 0))) (hk : KidsAt n₀ w ks kids) (hn : n₀ ≤ w.heap.size) :
    ∀ n, GivesT n Try.prog 89 #[.pointer (some ⟨bb, 0, none⟩)] (fun i : Nat => #[.int .i64 i, kp kids i]) [45] n₀ (down kids.length) w := by
  intro n l J W hW hJ hY h0
  have hb' : W.heap[bb]? = some (.cells #[ks] 45 (0, 0)) := (hW.block _ (Array.getElem?_eq_some_iff.1 hb).1).trans hb
  have hbn : Below n₀ w W := hW.mono hn
  have c0 : W.cell? ⟨bb, 0, none⟩ = some ks := cell_of_heap hb' rfl
  obtain ⟨A, c, hv⟩ := hk.val
  have HB := Lib.hid hb'
  have HY := Lib.hid hY
  have HK := Lib.hid hk
  have HJ := Lib.hid hJ
  rw [hv] at c0
  clear hb hb' hW hY hk hJ
  refine callsIn_of_wp Try.func89 rfl trivial ?_ rfl
  simp only [Try.ntmps89, List.size_toArray, List.length_cons, List.length_nil, Nat.reduceAdd, Nat.reduceSub, Array.replicate_succ, Array.replicate_zero, List.push_toArray, List.append_toArray, List.nil_append, List.cons_append]
  gi_wp2
  gi_loopw [3] (fun v wr => ∃ (i : Nat) (pre : List Nat), v = .int .i64 ((i : Int) - 1) ∧ i ≤ 1000000 ∧ wr.heap[bb]? = some (.cells #[ks] 45 (0, 0)) ∧ Below n₀ w wr ∧ Hid (down kids.length = pre ++ down i ∧ J pre wr)) (fun v _ => (intOf v + 1).toNat)
  case atStart => exact ⟨kids.length, [], rfl, hl, HB.out, hbn, rfl, h0⟩
  case round =>
    obtain ⟨i, pre, rfl, hi, hbx, hbw, HI⟩ := hrel
    have d0 : wr.cell? ⟨bb, 0, none⟩ = some (.slice A kids.length c) := by rw [← hv]; exact cell_of_heap hbx rfl
    rcases i with _ | i
    · have HI' := Lib.hid (show J (down kids.length) wr by
        have h := HI.out
        rw [show down 0 = [] from rfl, List.append_nil] at h
        rw [h.1]
        exact h.2)
      clear HI
      gi_wp2
      go_end0
      exact ⟨⟨_, rfl⟩, HI'.out⟩
    · have hlt : i < kids.length := by
        have h := congrArg List.length HI.out.1
        rw [List.length_append, down_len, down_len] at h
        omega
      obtain ⟨g, c', e1, hg, hc⟩ := HK.out.get i hlt
      rw [hv] at e1
      injection e1 with e1 _ e2
      subst e1 e2
      have hc' : wr.cell? ⟨g, i, none⟩ = some (kids[i]).ptr := (hbw.cell (p := ⟨g, i, none⟩) hg).trans hc
      rw [← kp_at hlt] at hc'
      obtain ⟨fn, tmps, assign, body, hy, hR⟩ := HY.out pre i (down i) wr HI.out.1 HI.out.2 (n - 1)
      have hI : ((i + 1 : Nat) : Int) - 1 = (i : Int) := by omega
      have h0I : (0 : Int) ≤ (i : Int) := Int.natCast_nonneg _
      have hltI : (i : Int) < (kids.length : Int) := by omega
      have hwr : IntKind.i64.wrap ((i : Int) - 1) = (i : Int) - 1 := by rw [IntKind.wrap_i64]; omega
      have HR := Lib.hid hR
      have HX := Lib.hid hbx
      clear hR hbx
      rw [hI]
      gi_wp2
      refine ⟨fun h => by simp [Fence.wide] at h, HR.out.mono ?_⟩
      rintro e W3 ⟨rfl, hJ3, hk3⟩
      gi_wp2
      go_roundw
      case rel => exact ⟨i, pre ++ [i], rfl, by omega, hk3.keep HX.out (by simp), hbw.trans hk3.below, by rw [List.append_assoc]; exact HI.out.1, hJ3⟩
      case measure => simp [intOf]

end Go.Proofs.Ytcjpmgfobnaoeaa

/- A region that draws its order, in a round of a loop over a function: what is shown of it as in a plain frame serves there, too. -/
namespace Go.Proofs.Ytcjpmgfobnaoeaa
set_option linter.unusedVariables false
set_option linter.unusedSimpArgs false
open Go.RowKit Go.Shelf

/-- Q where the code goes on, else nothing. -/
def OnNormal (Q : Exit → Act → World → Prop) : Exit → Act → World → Prop
  | .normal, a, w => Q .normal a w
  | _, _, _ => False

/-- A fence that asks nothing. -/
structure Free (F : Fence) : Prop where
  fn : ∀ f, F.fn f
  depth : F.depth = none
  calls : ∀ {n : Nat} {P : Program} {f : FuncId} {args : Array Value} {w : World} {R : Ending → World → Prop}, Calls P f args w R → CallsIn F n P f args w R
  rows : ∀ {n : Nat} {P : Program} {row : String} {args : Array Value} {w : World} {R : Value → World → Prop}, Rows P row args w R → RowsIn F n P row args w R

theorem free_wide : Free Fence.wide := ⟨fun _ => trivial, rfl, fun h => callsIn_wide.2 h, fun h => fun c cs _ => let ⟨v, w', r, s⟩ := h c cs; ⟨v, w', r, stepsIn_wide.2 s⟩⟩
theorem free_round (l : Nat) : Free (Fence.wide.inRound l) := ⟨fun _ => trivial, rfl, fun h => CallsIn.inRound l (callsIn_wide.2 h), fun h => fun c cs _ => let ⟨v, w', r, s⟩ := h c cs; ⟨v, w', r, stepsIn_wide.2 s⟩⟩

theorem ops_free {F : Fence} (hF : Free F) {n : Nat} {P : Program} {ops : Array Oper} {Q : Exit → Act → World → Prop} (hd : ∀ (i : Nat) (o : Oper), ops[i]? = some o → ∀ c, o.op ≠ .defer c) :
    ∀ (l : List Nat) (a : Act) (w : World), wpOps P ops (OnNormal Q) l a w → wpOpsIn F n P ops Q l a w
  | [], a, w, h => h
  | i :: rest, a, w, h => by
    unfold wpOps at h
    unfold wpOpsIn
    cases ho : ops[i]? with
    | none =>
      rw [ho] at h
      exact ops_free hF hd rest a w h
    | some o =>
      rw [ho] at h
      simp only [] at h ⊢
      split
      · rename_i hw
        rw [if_pos hw] at h
        have h1 : Oper.wp P o a w (wpOps P ops (OnNormal Q) rest) (OnNormal Q) := by
          rcases h with h | ⟨_, ⟨a0, w0, hx⟩⟩
          · exact h
          · exact hx.elim
        refine ⟨fun f _ => hF.fn f, ?_⟩
        rw [Oper.semAt_eq _ _ _ (hd i o ho)]
        unfold Oper.wp at h1
        generalize (execOp a.eval o).run P w = r at h1
        cases r with
        | ok x w' =>
          cases x <;> simp only [Oper.upon, Oper.uponIn] at h1 ⊢ <;>
            first
              | exact ops_free hF hd rest _ _ h1
              | exact h1.elim
              | (refine ⟨fun h => by simp [hF.depth] at h, (hF.calls h1).mono fun e w'' he => ?_⟩
                 cases e with
                 | returned v => exact ops_free hF hd rest _ _ he
                 | panicked ch => exact he.elim
                 | outgrown => obtain ⟨a0, w0, hx⟩ := he; exact hx.elim)
              | exact ⟨fun h => by simp [hF.depth] at h, (hF.rows h1).mono fun v w'' he => ops_free hF hd rest _ _ he⟩
        | halt x w' =>
          cases x <;> simp only [Oper.upon, Oper.uponIn] at h1 ⊢ <;> exact h1.elim
      · rename_i hw
        rw [if_neg hw] at h
        exact ⟨fun f _ => hF.fn f, ops_free hF hd rest _ _ h⟩

section
variable {P : Program} {ops : Array Oper} {Q : Exit → Act → World → Prop} {md : Region.Mode} {S : World → Prop}

/-- Does this operation wait for all others? -/
def lastB (md : Region.Mode) (ops : Array Oper) (j : Nat) : Bool := match ops[j]? with
  | some o => (List.range ops.size).all fun i => i == j || o.after.toList.any fun e => Region.binds md e && e.on == i
  | none => false

/-- Whatever may come up next is carried out; behind it S holds, if it was not the last one of all. -/
def AnyL (P : Program) (md : Region.Mode) (ops : Array Oper) (Q : Exit → Act → World → Prop) (S : World → Prop) : Nat → Array Bool → Act → World → Prop
  | 0, listed, a, w => Region.ready md ops listed = [] ∧ Q .normal a w
  | fuel + 1, listed, a, w => (Region.ready md ops listed = [] → Q .normal a w) ∧
    ∀ j ∈ Region.ready md ops listed, wpOp P ops Q j (fun a' w' => (lastB md ops j = true ∨ S w') ∧ AnyL P md ops Q S fuel (listed.setIfInBounds j true) a' w') a w

theorem AnyL.any : ∀ (fuel : Nat) (listed : Array Bool) (a : Act) (w : World), AnyL P md ops Q S fuel listed a w → wpAny P md ops Q fuel listed a w
  | 0, _, _, _, h => h
  | fuel + 1, _, _, _, h => ⟨h.1, fun j hj => wpOp_mono (fun a' w' k => AnyL.any fuel _ a' w' k.2) (h.2 j hj)⟩

theorem not_last {i j : Nat} {o oi : Oper} (hi : ops[i]? = some oi) (hj : ops[j]? = some o) (hne : j ≠ i) (hno : ∀ e ∈ o.after, Region.binds md e = true → e.on ≠ i) : lastB md ops j = false := by
  cases hl : lastB md ops j with
  | false => rfl
  | true =>
    unfold lastB at hl
    rw [hj] at hl
    have hlt : i < ops.size := (Array.getElem?_eq_some_iff.1 hi).1
    have h1 := List.all_eq_true.1 hl i (List.mem_range.2 hlt)
    rw [Bool.or_eq_true] at h1
    rcases h1 with h1 | h1
    · exact absurd (by simpa using h1) (Ne.symm hne)
    · obtain ⟨e, he, h2⟩ := List.any_eq_true.1 h1
      rw [Bool.and_eq_true] at h2
      exact absurd (by simpa using h2.2) (hno e (by simpa using he) h2.1)

theorem AnyL.first {i : Nat} {oi : Oper} {v : Value} (hi : ops[i]? = some oi) (hsel : ∀ (j : Nat) (o : Oper) cs b, ops[j]? = some o → o.op ≠ .select cs b)
    (hQ : ∀ c a w, Q (.panic c) (a.put oi.dst v) w → Q (.panic c) a w) : ∀ (fuel : Nat) (listed : Array Bool) (a : Act) (w : World),
      (∀ j oj, ops[j]? = some oj → j ≠ i → listed.getD j true = false → (∀ e ∈ oj.after, Region.binds md e = true → e.on ≠ i) → oi.apart ops oj = true) →
      i ∈ Region.ready md ops listed → YieldsIf P ops S oi v a → S w → AnyL P md ops Q S fuel (listed.setIfInBounds i true) (a.put oi.dst v) w → AnyL P md ops Q S (fuel + 1) listed a w := by
  intro fuel
  induction fuel with
  | zero =>
    intro listed a w _ hr hy hS H
    refine ⟨fun h => (by rw [h] at hr; cases hr), fun j hj => ?_⟩
    by_cases e : j = i
    · subst e
      exact hy.wpOp hi hS ⟨.inr hS, H⟩
    · have h := ready_mono hj e
      rw [H.1] at h
      cases h
  | succ fuel ih =>
    intro listed a w hfree hr hy hS H
    refine ⟨fun h => (by rw [h] at hr; cases hr), fun j hj => ?_⟩
    by_cases e : j = i
    · subst e
      exact hy.wpOp hi hS ⟨.inr hS, H⟩
    obtain ⟨hun, oj, hoj, hall⟩ := mem_ready.1 hj
    have hno : ∀ x ∈ oj.after, Region.binds md x = true → x.on ≠ i := fun x hx hb hxi => by
      have k1 := hall x hx hb
      have k0 := (mem_ready.1 hr).1
      rw [hxi] at k1
      rcases Nat.lt_or_ge i listed.size with hs | hs
      · simp [hs] at k0 k1
        rw [k0] at k1
        cases k1
      · simp [Array.getElem?_eq_none hs] at k1
    have hnl := not_last hi hoj e hno
    have h2 := wpOp_putIf hoj (hfree j oj hoj e hun hno) (fun cs b => hsel i oi cs b hi) (fun cs b => hsel j oj cs b hoj) hQ hy (H.2 j (ready_mono hj e))
    refine wpOp_mono (fun a' w' k => ?_) h2
    obtain ⟨k1, k2, k3⟩ := k
    have hS' : S w' := by
      rcases k2 with k2 | k2
      · rw [hnl] at k2; cases k2
      · exact k2
    refine ⟨.inr hS', ih (listed.setIfInBounds j true) a' w' ?_ (ready_mono hr (Ne.symm e)) k1 hS' ?_⟩
    · intro k ok hk hki hku hkn
      refine hfree k ok hk hki ?_ hkn
      by_cases hjk : j = k
      · subst hjk; exact hun
      · rw [getD_set_ne true hjk] at hku; exact hku
    · rw [Array.setIfInBounds_comm _ _ e]
      exact k3

/-- One that may come up yields its value wherever S holds: it is taken first. -/
theorem AnyL.take {i : Nat} {oi : Oper} {v : Value} {fuel : Nat} {listed : Array Bool} {a : Act} {w : World} (hi : ops[i]? = some oi) (hs : Region.noSelect ops = true) (hf : Region.free md ops listed i = true)
    (hr : (Region.ready md ops listed).contains i = true) (hQ : ∀ c a w, Q (.panic c) (a.put oi.dst v) w → Q (.panic c) a w) (hy : YieldsIf P ops S oi v a) (hS : S w)
    (h : AnyL P md ops Q S fuel (listed.setIfInBounds i true) (a.put oi.dst v) w) : AnyL P md ops Q S (fuel + 1) listed a w :=
  AnyL.first hi (Region.noSelect_spec hs) hQ fuel listed a w (Region.free_spec hi hf) (by simpa using hr) hy hS h

/-- One alone may come up: it is carried out. -/
theorem AnyL.step {i : Nat} {o : Oper} {fuel : Nat} {listed : Array Bool} {a : Act} {w : World} (hr : Region.ready md ops listed = [i]) (ho : ops[i]? = some o)
    (h : ∀ K' : Act → World → Prop, Shut (∀ a w, (lastB md ops i = true ∨ S w) → AnyL P md ops Q S fuel (listed.setIfInBounds i true) a w → K' a w) → if Region.wanted o (yielded ops a.tmps) = true then Oper.wp P o a w K' Q else K' (a.put o.dst undef) w) :
    AnyL P md ops Q S (fuel + 1) listed a w := by
  refine ⟨fun h0 => (by rw [hr] at h0; cases h0), fun j hj => ?_⟩
  rw [hr] at hj
  obtain rfl := List.mem_singleton.1 hj
  exact wpOp_step ho fun K' hK => h K' fun a w hS hW => hK a w ⟨hS, hW⟩

theorem AnyL.done {listed : Array Bool} {a : Act} {w : World} (hr : Region.ready md ops listed = []) (h : Q .normal a w) : ∀ fuel, AnyL P md ops Q S fuel listed a w
  | 0 => ⟨hr, h⟩
  | _ + 1 => ⟨fun _ => h, by rw [hr]; simp⟩
end

theorem wpIn_region_free {F : Fence} (hF : Free F) {n : Nat} {P : Program} {id : Nat} {l : List Oper} {Q : Exit → Act → World → Prop} {a : Act} {w : World} {S : World → Prop} (hm : P.follows .mixedOrders = true)
    (hd : l.all (fun o => match o.op with | .defer _ => false | _ => true) = true) (hS : S w.drew) (N : Nat) (hN : l.length = N)
    (h : S w.drew → AnyL P .any l.toArray (OnNormal Q) S N (List.replicate N false).toArray a w.drew) : (Code.region id l.toArray true).wpIn F n P Q a w := by
  refine wpIn_region_draw fun t => ?_
  simp only [Region.schedule, hm, Bool.true_or, if_true]
  subst hN
  refine ops_free hF ?_ _ _ _ (wpAny_sound _ t _ a _ (AnyL.any _ _ _ _ (by simpa using h hS)))
  intro i o ho c hc
  have hmem : o ∈ l := by
    rw [List.getElem?_toArray] at ho
    exact List.mem_of_getElem? ho
  have := List.all_eq_true.1 hd o hmem
  rw [hc] at this
  simp at this

/-- 'append(s, x)' in a round: s a row of the call's own, x a literal that was just laid. -/
theorem wpListIn_push {F : Fence} {nF : Nat} {P : Program} {ops : Array Oper} {rest : List Oper} {o : Oper} {a : Act} {Q : Exit → Act → World → Prop} {w : World} (hgd : o.guard = none) (s x : Operand) (T : TypeId)
    (ho : o.op = .call { callee := .builtin .append, args := #[s, x], argTypes := #[T, T] }) (E : TypeId) (z : Value) (sz bytes : Nat)
    (hinfo : (P.info? E).map (fun i => (i.zero, i.size, i.bytes)) = some (some z, sz, bytes)) (ht : P.underlying T = some (.slice E)) (hzs : z.cells.size = sz) (hsz : 0 < sz)
    (base : Nat) (v : Value) (n : Nat) (xs : List Value) (hs : a.eval s = v) (hown : w.ownsRow base E sz v n xs) (us : List Value) (hx : a.eval x = .slice (some ⟨w.heap.size, 0, none⟩) 1 1)
    (hus : us.length = 1 * sz) (h1 : ∀ u ∈ us, u.oneCell' = true) (hm : n + 1 ≤ 140737488355328) (hn : (n + 1) * bytes ≤ 140737488355328) (hbase : base ≤ w.heap.size)
    (h : ∀ g c w', w'.ownsRow base E sz (.slice (some ⟨g, 0, none⟩) (n + 1) c) (n + 1) (xs ++ us) → (w.alloc (.cells us.toArray E)).grownBy w' v.ownBlock → (v.ownBlock = some g ∨ g = w.heap.size + 1) →
      wpListIn F nF P ops Q rest (a.put o.dst (.slice (some ⟨g, 0, none⟩) (n + 1) c)) w') :
    wpListIn F nF P ops Q (o :: rest) a (w.alloc (.cells us.toArray E)) := by
  obtain ⟨i0, hi, hz0, hz1, hz2⟩ := info_parts hinfo
  refine wpListIn_append_own_at _ hgd s x T ho base E i0 z sz bytes ht hi hz0 hz1 hz2 hzs hsz v n xs hs (hown.alloc _) ⟨w.heap.size, 0, none⟩ 1 1 us hx hus (news_lit w us E) h1 (by unfold maxLen; omega) hn (by simp; omega) ?_
  intro v' w' h2 h3 _ h4
  rcases h2.2 with ⟨_, h0⟩ | ⟨g, c, cur, rfl, _⟩
  · omega
  · refine h g c w' h2 h3 ?_
    rcases h4 with h4 | h4
    · exact .inl h4.symm
    · exact .inr (by simpa [Value.ownBlock] using h4)

/-- 'append(s, x)' at an operation: x a literal that lies in block B. -/
theorem wp_push {P : Program} {o : Oper} {a : Act} {K : Act → World → Prop} {Q : Exit → Act → World → Prop} {w : World} (s x : Operand) (T : TypeId)
    (ho : o.op = .call { callee := .builtin .append, args := #[s, x], argTypes := #[T, T] }) (E : TypeId) (z : Value) (sz bytes : Nat)
    (hinfo : (P.info? E).map (fun i => (i.zero, i.size, i.bytes)) = some (some z, sz, bytes)) (ht : P.underlying T = some (.slice E)) (hzs : z.cells.size = sz) (hsz : 0 < sz)
    (base : Nat) (v : Value) (n : Nat) (xs : List Value) (hs : a.eval s = v) (hown : w.ownsRow base E sz v n xs) (B : Nat) (us : List Value) (hx : a.eval x = .slice (some ⟨B, 0, none⟩) 1 1)
    (hB : w.heap[B]? = some (.cells us.toArray E (0, 0)))
    (hus : us.length = 1 * sz) (h1 : ∀ u ∈ us, u.oneCell' = true) (hm : n + 1 ≤ 140737488355328) (hn : (n + 1) * bytes ≤ 140737488355328) (hbase : base ≤ w.heap.size)
    (h : ∀ g c w', w'.ownsRow base E sz (.slice (some ⟨g, 0, none⟩) (n + 1) c) (n + 1) (xs ++ us) → Grew base v w w' g → K (a.put o.dst (.slice (some ⟨g, 0, none⟩) (n + 1) c)) w') :
    o.wp P a w K Q := by
  obtain ⟨i0, hi, hz0, hz1, hz2⟩ := info_parts hinfo
  refine wp_append_lies w s x T ho base E i0 z sz bytes ht hi hz0 hz1 hz2 hzs hsz v n xs hs hown ⟨B, 0, none⟩ 1 1 us hx hus (World.news_of_block (cs := us.toArray) hB) h1 (by omega) (by unfold maxLen; omega) hn hbase _ rfl ?_
  intro g c w' h1' h2 h3 h4
  exact h g c w' h1' (grew_of hown h1' h2 h3 h4 hbase)

theorem row_block {w : World} {b e sz n : Nat} {v : Value} {xs : List Value} (h : w.ownsRow b e sz v n xs) : ∀ k, v.ownBlock = some k → b ≤ k ∧ ∃ c, w.heap[k]? = some (.cells c e (0, 0)) := by
  intro k hk
  rcases h.2 with ⟨rfl, _⟩ | ⟨g, c, cur, rfl, hb, hg, _⟩
  · simp [Value.ownBlock] at hk
  · obtain rfl : g = k := by simpa [Value.ownBlock] using hk
    exact ⟨hb, cur, hg⟩

theorem KT.grew {T : List TypeId} {n₀ : Nat} {A W W' : World} {v : Value} {g : Nat} {b e sz n : Nat} {xs : List Value} (h : KT T n₀ A W) (hg : Grew n₀ v W W' g) (hr : W.ownsRow b e sz v n xs) (he : e ∉ T) : KT T n₀ A W' := by
  refine h.trans ⟨hg.below, fun k o hk ho => ?_⟩
  refine (hg.far k (Array.getElem?_eq_some_iff.1 hk).1 ?_).trans hk
  intro e1
  obtain ⟨_, c, h2⟩ := row_block hr k e1.symm
  rw [h2] at hk
  cases hk
  rcases ho with ho | ho
  · exact absurd ho (InT.not he)
  · simp [Obj.isCells] at ho

end Go.Proofs.Ytcjpmgfobnaoeaa

/- nodes.all: it gives the visits of a tree. -/
namespace Go.Proofs.Ytcjpmgfobnaoeaa
set_option linter.unusedVariables false
set_option linter.unusedSimpArgs false
open Go.RowKit Go.Shelf
attribute [local go_sem] Oper.semAt_some

/-- The mark of a loop that has been gone through. -/
def mk (D : Nat) : Deferred := { target := .collected D, args := #[] }

theorem leaves_marks {F : Fence} {n : Nat} {P : Program} {fn : Func} {tmps : Array Value} {R : Ending → World → Prop} {T : List TypeId} {n₀ m : Nat} : ∀ (ds : List Nat) (W : World), ds.Nodup →
    (∀ D ∈ ds, m ≤ D ∧ n₀ ≤ D ∧ W.heap[D]? = some (.deferred (some []))) → (∀ W', AT T n₀ m W W' → LeavesIn F n P fn tmps R [] .returning W') → LeavesInM F n P fn tmps R (ds.map mk) .returning W
  | [], W, _, _, h => h W (AT.refl _ _ _ _)
  | D :: ds, W, hn, hd, h => by
    obtain ⟨h1, h2, h3⟩ := hd D (by simp)
    refine ⟨by simp, .inl ⟨D, _, rfl, run_takeDeferred h3, ?_⟩⟩
    have hat : AT T n₀ m W (W.putObj D (.deferred none)) := AT.putObj _ h3 rfl h1 h2
    have hnd := List.nodup_cons.1 hn
    refine leaves_marks ds _ hnd.2 (fun D' hD' => ?_) (fun W' hW' => h W' (hat.trans hW'))
    obtain ⟨k1, k2, k3⟩ := hd D' (by simp [hD'])
    exact ⟨k1, k2, (World.putObj_heap_other (fun e => hnd.1 (by rw [← e]; exact hD'))).trans k3⟩

theorem Nd.In.kidsAt {w : World} {n : Nd} (h : n.In w) : KidsAt w.heap.size w n.ks n.kids := by
  have hr := h.head.2.1
  rcases hr.2 with ⟨h1, h2⟩ | ⟨g, cap, cur, h1, _, hg, _, _, _, h6⟩
  · exact ⟨⟨none, 0, by rw [h1, h2]⟩, fun i hi => by omega⟩
  · refine ⟨⟨_, _, h1⟩, fun i hi => ⟨g, cap, h1, (Array.getElem?_eq_some_iff.1 hg).1, ?_⟩⟩
    refine cell_of_heap hg ?_
    have e : (n.kids.map Nd.ptr)[i]? = some (n.kids[i]).ptr := by rw [List.getElem?_map, List.getElem?_eq_getElem hi]; rfl
    rw [← h6, List.getElem?_take] at e
    split at e
    · simpa using e
    · simp at e

/-- The cells of a visit; of several. -/
def vcells (v : Vs) : List Value := [v.1.ptr, .int .i64 v.2.1, .int .i64 v.2.2]
def visV (v : Vs) : Array Value := #[.agg #[v.1.ptr, .int .i64 v.2.1, .int .i64 v.2.2]]

theorem vcells_len (l : List Vs) : (l.flatMap vcells).length = l.length * 3 := by
  induction l with
  | nil => rfl
  | cons v l ih => rw [List.flatMap_cons, List.length_append, ih]; simp [vcells]; omega

/-- The last one of a row of visits. -/
theorem row_last {wr : World} {m : Nat} {tv : Value} {v : Vs} {rest : List Vs} (h : wr.ownsRow m 120 3 tv (rest.length + 1) ((v :: rest).reverse.flatMap vcells)) :
    ∃ g c, tv = .slice (some ⟨g, 0, none⟩) (rest.length + 1) c ∧ m ≤ g ∧ g < wr.heap.size ∧ rest.length + 1 ≤ c ∧ (∃ cur, wr.heap[g]? = some (.cells cur 120 (0, 0))) ∧
      (wr.cell? ⟨g, rest.length * 3, none⟩ = some v.1.ptr ∧ wr.cell? ⟨g, rest.length * 3 + 1, none⟩ = some (.int .i64 v.2.1) ∧ wr.cell? ⟨g, rest.length * 3 + 2, none⟩ = some (.int .i64 v.2.2)) ∧
      wr.ownsRow m 120 3 (.slice (some ⟨g, 0, none⟩) rest.length c) rest.length (rest.reverse.flatMap vcells) := by
  rcases h.2 with ⟨_, h0⟩ | ⟨g, c, cur, h1, h2, h3, h4, h5, h6, h7⟩
  · omega
  · have hl : (rest.reverse.flatMap vcells).length = rest.length * 3 := by rw [vcells_len, List.length_reverse]
    rw [List.reverse_cons, List.flatMap_append] at h7
    have hc : ∀ j u, (vcells v)[j]? = some u → wr.cell? ⟨g, rest.length * 3 + j, none⟩ = some u := fun j u hu => by
      refine cell_of_heap h3 ?_
      have e : (cur.toList.take ((rest.length + 1) * 3))[rest.length * 3 + j]? = some u := by
        rw [h7, List.getElem?_append_right (by omega), hl]
        simpa using hu
      rw [List.getElem?_take] at e
      split at e
      · simpa using e
      · simp at e
    refine ⟨g, c, h1, h2, (Array.getElem?_eq_some_iff.1 h3).1, h4, ⟨cur, h3⟩, ⟨hc 0 _ rfl, hc 1 _ rfl, hc 2 _ rfl⟩, hl, .inr ⟨g, c, cur, rfl, h2, h3, by omega, h5, h6, ?_⟩⟩
    have e := congrArg (List.take (rest.length * 3)) h7
    rw [List.take_take, Nat.min_eq_left (by omega), List.take_left' hl] at e
    exact e

/-- What stands between two rounds of the loop over what is still to do. -/
structure L85 (w₀ : World) (m bt : Nat) (J : List Vs → World → Prop) (xs st pre : List Vs) (ds : List Nat) (tv : Value) (g : Nat) (wr : World) : Prop where
  xs : xs = pre ++ st.flatMap preV
  j : J pre wr
  box : wr.heap[bt]? = some (.cells #[tv] 136 (0, 0))
  row : wr.ownsRow m 120 3 tv st.length (st.reverse.flatMap vcells)
  ok : ∀ v ∈ st, v.1.In w₀ ∧ v.1.WF ∧ 0 ≤ v.2.1 ∧ v.2.1 + v.1.bt ≤ 65536 ∧ 0 ≤ v.2.2 ∧ v.2.2 + v.1.ht ≤ 2000
  below : Below w₀.heap.size w₀ wr
  nd : ds.Nodup
  ds : ∀ D ∈ ds, m ≤ D ∧ wr.heap[D]? = some (.deferred (some []))
  g : (st.flatMap preV).length = g
  sz : m ≤ wr.heap.size

/-- The frame of that loop. -/
def F85 (t0 t1 t3 t8 t9 t10 t11 t12 t13 u4 u5 u14 u15 u16 u17 u18 u19 u20 u21 u22 u23 u24 u25 u26 u27 u28 u29 u30 u31 u32 u33 u34 u35 u36 u37 u38 u39 u40 u41 u42 u43 u44 u45 u46 : Value) : Array Value := #[t0, t1, undef, t3, u4, u5, undef, undef, t8, t9, t10, t11, t12, t13, u14, u15, u16, u17, u18, u19, u20, u21, u22, u23, u24, u25, u26, u27, u28, u29, u30, u31, u32, u33, u34, u35, u36, u37, u38, u39, u40, u41, u42, u43, u44, u45, u46, undef, undef, undef, undef, undef, undef, undef, undef, undef, undef, undef, undef, undef, undef, undef, undef, undef, undef]

theorem len_preV (l : List Vs) : l.length ≤ (l.flatMap preV).length := by
  induction l with
  | nil => simp
  | cons v l ih => rw [List.flatMap_cons, List.length_append, preV_eq, List.length_cons, List.length_cons]; omega
theorem row_any {w : World} {b e sz n : Nat} {v : Value} {xs : List Value} (h : w.ownsRow b e sz v n xs) : ∃ A c, v = .slice A n c := by
  rcases h.2 with ⟨h1, h2⟩ | ⟨g, c, cur, h1, _⟩
  · exact ⟨none, 0, by rw [h1, h2]⟩
  · exact ⟨_, c, h1⟩

theorem sumBt_take_succ : ∀ {l : List Nd} {x : Nat} (h : x < l.length), sumBt (l.take (x + 1)) = sumBt (l.take x) + (l[x]).bt
  | k :: ks, 0, _ => by simp [sumBt]
  | k :: ks, x + 1, h => by
    have := sumBt_take_succ (l := ks) (x := x) (by simpa using h)
    rw [List.take_succ_cons, sumBt_cons, this, List.take_succ_cons, sumBt_cons, List.getElem_cons_succ]
    omega
theorem sumBt_take_le {l : List Nd} (h : ∀ k ∈ l, 0 ≤ k.bt) (x : Nat) : sumBt (l.take x) ≤ sumBt l := by
  have e : sumBt l = sumBt (l.take x) + sumBt (l.drop x) := by
    unfold sumBt
    rw [← List.sum_append, ← List.map_append, List.take_append_drop]
  have := (sumBt_ge (l := l.drop x) fun k hk => h k (List.mem_of_mem_drop hk)).1
  omega
theorem kidsV_drop (a d : Int) {l : List Nd} {x : Nat} (h : x < l.length) : kidsV (a + sumBt (l.take x)) d (l.drop x) = (l[x], a + sumBt (l.take x), d) :: kidsV (a + sumBt (l.take (x + 1))) d (l.drop (x + 1)) := by
  rw [drop_cons h]
  show (l[x], a + sumBt (l.take x), d) :: kidsV (a + sumBt (l.take x) + (l[x]).bt) d (l.drop (x + 1)) = _
  rw [sumBt_take_succ h, Int.add_assoc]
theorem kidsV_len (d : Int) : ∀ (l : List Nd) (a : Int), (kidsV a d l).length = l.length
  | [], a => rfl
  | k :: ks, a => by show (kidsV _ _ _).length + 1 = _; rw [kidsV_len d ks]; rfl
theorem kidsV_ok (d : Int) : ∀ (l : List Nd) (a : Int), (∀ k ∈ l, 0 ≤ k.bt) → ∀ u ∈ kidsV a d l, u.1 ∈ l ∧ a ≤ u.2.1 ∧ u.2.1 + u.1.bt ≤ a + sumBt l ∧ u.2.2 = d
  | [], a, _, u, hu => by simp [kidsV] at hu
  | k :: ks, a, hk, u, hu => by
    have h0 := hk k (by simp)
    have hs := (sumBt_ge (l := ks) fun x hx => hk x (by simp [hx])).1
    rw [sumBt_cons]
    rcases List.mem_cons.1 hu with rfl | hu
    · exact ⟨by simp, Int.le_refl _, by show a + k.bt ≤ _; omega, rfl⟩
    · obtain ⟨h1, h2, h3, h4⟩ := kidsV_ok d ks (a + k.bt) (fun x hx => hk x (by simp [hx])) u hu
      exact ⟨by simp [h1], by omega, by omega, h4⟩

theorem info120 : (Try.prog.info? 120).map (fun i => (i.zero, i.size, i.bytes)) = some (some (.agg #[.pointer none, .int .i64 0, .int .i64 0]), 3, 24) := by kernel_rfl

/-- What stands between two rounds of the loop over the kids. -/
structure I85 (w₀ W3 : World) (m bt ba vb : Nat) (T : List TypeId) (v : Vs) (rest : List Vs) (i : Nat) (y : Int) (tv : Value) (Wc : World) : Prop where
  box : Wc.heap[bt]? = some (.cells #[tv] 136 (0, 0))
  at_ : Wc.heap[ba]? = some (.cells #[.int .i64 y] 3 (0, 0))
  ay : 0 < i → y = v.2.1 + sumBt (v.1.kids.take i)
  vbx : Wc.heap[vb]? = some (.cells #[.pointer (some ⟨v.1.b, 0, none⟩), .int .i64 v.2.1, .int .i64 v.2.2] 120 (0, 0))
  row : Wc.ownsRow m 120 3 tv (kidsV (v.2.1 + sumBt (v.1.kids.take i)) (v.2.2 + 1) (v.1.kids.drop i) ++ rest).length ((kidsV (v.2.1 + sumBt (v.1.kids.take i)) (v.2.2 + 1) (v.1.kids.drop i) ++ rest).reverse.flatMap vcells)
  vbr : some vb ≠ tv.ownBlock
  rel : AT T w₀.heap.size W3.heap.size W3 Wc

theorem row_at {A B : World} {T : List TypeId} {n₀ m base e sz n : Nat} {v : Value} {xs : List Value} (h : A.ownsRow base e sz v n xs) (hat : AT T n₀ m A B) (he : e ∉ T) : B.ownsRow base e sz v n xs := by
  refine ⟨h.1, ?_⟩
  rcases h.2 with h | ⟨g, c, cur, h1, h2, h3, h4⟩
  · exact .inl h
  · exact .inr ⟨g, c, cur, h1, h2, hat.keep h3 he, h4⟩

theorem I85.abides {w₀ W3 : World} {m bt ba vb : Nat} {T : List TypeId} {v : Vs} {rest : List Vs} {i : Nat} {y : Int} {tv : Value} {A B : World} {k : Nat} (h : I85 w₀ W3 m bt ba vb T v rest i y tv A) (hat : AT [45] w₀.heap.size k A B) (hk : W3.heap.size ≤ k) (hT : 45 ∈ T) : I85 w₀ W3 m bt ba vb T v rest i y tv B :=
  ⟨hat.keep h.box (by decide), hat.keep h.at_ (by decide), h.ay, hat.keep h.vbx (by decide), row_at h.row hat (by decide), h.vbr, h.rel.join' hat hk (by intro t ht; rw [List.mem_singleton.1 ht]; exact hT)⟩

set_option maxRecDepth 100000 in
set_option maxHeartbeats 8000000 in
theorem all1_gives (root : Nd) (w₀ w : World) (bn : Nat) (hin : root.In w₀) (hwf : root.WF) (hcn : root.cnt ≤ 1000) (hw : Below w₀.heap.size w₀ w) (hb : w.heap[bn]? = some (.cells #[root.ptr] 33 (0, 0))) :
    ∀ n, GivesT n Try.prog 85 #[.pointer (some ⟨bn, 0, none⟩)] visV [33, 120, 136, 3, 45] w₀.heap.size (preN 0 0 root) w := by
  intro n l J W hW hJ hY h0
  have hb' : W.heap[bn]? = some (.cells #[root.ptr] 33 (0, 0)) := (hW.block _ (Array.getElem?_eq_some_iff.1 hb).1).trans hb
  have hB : Below w₀.heap.size w₀ W := hw.trans (hW.mono hw.size)
  have c0 : W.cell? ⟨bn, 0, none⟩ = some (.pointer (some ⟨root.b, 0, none⟩)) := cell_of_heap hb' rfl
  have hm := callsIn_wide (n := n - 1) |>.2 (made_yes root W (hin.below hB) (by have := (Nd.WF.ok root hwf).ht1; omega))
  unfold Nd.ptr at hm
  have HY := Lib.hid hY
  have HJ := Lib.hid hJ
  have HIN := Lib.hid hin
  have HWF := Lib.hid hwf
  clear hb hb' hW hY hJ hw hin hwf
  refine callsIn_of_wp_marks Try.func85 rfl trivial ?_ rfl
  simp only [Try.ntmps85, List.size_toArray, List.length_cons, List.length_nil, Nat.reduceAdd, Nat.reduceSub, Array.replicate_succ, Array.replicate_zero, List.push_toArray, List.append_toArray, List.nil_append, List.cons_append]
  gi_wp2_with (first | (refine ⟨trivial, fun h => (by simp [Fence.wide] at h), ?_⟩; gi_at_call 70; refine hm.mono ?_; rintro e w2 ⟨rfl, h2⟩; rw [h2]; clear h2))
  have hbox : ∀ W2, W2 = (W.alloc (.cells #[.pointer (some ⟨root.b, 0, none⟩), .int .i64 0, .int .i64 0] 120)).alloc (.cells #[.slice (some ⟨W.heap.size, 0, none⟩) 1 1] 136) → Below W.heap.size W W2 ∧
      W2.heap[W.heap.size]? = some (.cells #[.pointer (some ⟨root.b, 0, none⟩), .int .i64 0, .int .i64 0] 120 (0, 0)) ∧ W2.heap[W.heap.size + 1]? = some (.cells #[.slice (some ⟨W.heap.size, 0, none⟩) 1 1] 136 (0, 0)) := by
    rintro W2 rfl
    exact ⟨((Below.refl _ _).alloc (Nat.le_refl _) _).alloc (by simp) _, by rw [Below.heap_alloc _ _ _ (by simp)]; exact heap_alloc_new _ _, heap_new2 _ _ _⟩
  obtain ⟨hb2, x0, x1⟩ := hbox _ rfl
  clear hbox
  generalize (W.alloc (.cells #[.pointer (some ⟨root.b, 0, none⟩), .int .i64 0, .int .i64 0] 120)).alloc (.cells #[.slice (some ⟨W.heap.size, 0, none⟩) 1 1] 136) = W2 at *
  refine wpIn_loop_ghost_k (fun g a wr => ∃ (st pre : List Vs) (ds : List Nat) (tv u4 u5 u14 u15 u16 u17 u18 u19 u20 u21 u22 u23 u24 u25 u26 u27 u28 u29 u30 u31 u32 u33 u34 u35 u36 u37 u38 u39 u40 u41 u42 u43 u44 u45 u46 : Value), a = { tmps := F85 (.func (.yield l) #[] #[]) (.pointer (some ⟨bn, 0, none⟩)) (.pointer (some ⟨W.heap.size + 1, 0, none⟩)) (.pointer (some ⟨root.b, 0, none⟩)) (.bool true) (.bool false) (.pointer (some ⟨root.b, 0, none⟩)) (.agg #[.pointer (some ⟨root.b, 0, none⟩), .int .i64 0, .int .i64 0]) (.slice (some ⟨W.heap.size, 0, none⟩) 1 1) u4 u5 u14 u15 u16 u17 u18 u19 u20 u21 u22 u23 u24 u25 u26 u27 u28 u29 u30 u31 u32 u33 u34 u35 u36 u37 u38 u39 u40 u41 u42 u43 u44 u45 u46, defers := ds.map mk } ∧
    L85 w₀ W.heap.size (W.heap.size + 1) J (preN 0 0 root) st pre ds tv g wr) (preN 0 0 root).length ?start ?round
  case start =>
    have hsz := hB.size
    have hht := ht_le_cnt root HWF.out
    have hok := Nd.WF.ok root HWF.out
    refine ⟨[(root, 0, 0)], [], [], .slice (some ⟨W.heap.size, 0, none⟩) 1 1, _, _, _, _, _, _, _, _, _, _, _, _, _, _, _, _, _, _, _, _, _, _, _, _, _, _, _, _, _, _, _, _, _, _, _, rfl, ?_⟩
    exact ⟨by simp [preV], HJ.out _ _ _ h0 (AT.of_below hb2 hsz), x1, row_new x0 (Nat.le_refl _) rfl (by decide), by
      intro v hv
      simp only [List.mem_singleton] at hv
      subst hv
      exact ⟨HIN.out, HWF.out, Int.le_refl _, by show (0:Int) + root.bt ≤ 65536; have := hok.bt1; omega, Int.le_refl _, by show (0:Int) + root.ht ≤ 2000; omega⟩, hB.trans (hb2.mono hsz), List.nodup_nil, by simp, by simp [preV], hb2.size⟩
  case round =>
    have hB0 := hB.size
    clear h0 hB c0 hm hb2 x0 x1
    rintro g a wr ⟨st, pre, ds, tv, u4, u5, u14, u15, u16, u17, u18, u19, u20, u21, u22, u23, u24, u25, u26, u27, u28, u29, u30, u31, u32, u33, u34, u35, u36, u37, u38, u39, u40, u41, u42, u43, u44, u45, u46, rfl, hL⟩ J' K hJ' hK
    unfold F85
    have hsz := hL.sz
    have hdst := hL.ds
    have HDS := Lib.hid (And.intro hL.nd hdst)
    rcases st with _ | ⟨v, rest⟩
    · obtain ⟨A, c, hv⟩ := row_any hL.row
      have hbx := hL.box
      rw [hv] at hbx
      have b0 : wr.cell? ⟨W.heap.size + 1, 0, none⟩ = some (.slice A 0 c) := cell_of_heap hbx rfl
      have HXJ := Lib.hid (show J (preN 0 0 root) wr by
        have h := hL.xs
        rw [List.flatMap_nil, List.append_nil] at h
        rw [h]
        exact hL.j)
      have hn0 := hB0
      clear hL hbx hv hdst
      gi_wp2_with fail
      exact leaves_marks (T := [33, 120, 136, 3, 45]) (n₀ := w₀.heap.size) (m := W.heap.size) ds wr HDS.out.1 (fun D hD => ⟨(HDS.out.2 D hD).1, Nat.le_trans hB0 (HDS.out.2 D hD).1, (HDS.out.2 D hD).2⟩)
        (fun W' hat => ⟨_, results_none rfl _ _ _, ⟨_, rfl⟩, HJ.out _ _ _ HXJ.out hat⟩)
    · obtain ⟨g3, c, hv, hg1, hg2, hc1, ⟨cur, hg3⟩, ⟨y0, y1, y2⟩, hrow⟩ := row_last hL.row
      have hbx := hL.box
      rw [hv] at hbx
      have b0 : wr.cell? ⟨W.heap.size + 1, 0, none⟩ = some (.slice (some ⟨g3, 0, none⟩) (rest.length + 1) c) := cell_of_heap hbx rfl
      have z0 : wr.frozen? ⟨W.heap.size + 1, 0, none⟩ = false := frozen_of_heap hbx
      have l1 : W.heap.size + 1 < wr.heap.size := (Array.getElem?_eq_some_iff.1 hbx).1
      have HL := Lib.hid hL
      have HBX := Lib.hid hbx
      have HROW := Lib.hid hrow
      have HG3 := Lib.hid hg3
      have q0 : (0 : Int) ≤ (rest.length : Int) := Int.natCast_nonneg _
      have hlen : rest.length + 1 ≤ 1000 := by
        have h1 := len_preV (v :: rest)
        have h2 := congrArg List.length hL.xs
        rw [List.length_append, preN_len] at h2
        simp only [List.length_cons] at h1
        omega
      have q1 : IntKind.i64.wrap ((rest.length : Int) + 1 - 1) = (rest.length : Int) := by rw [IntKind.wrap_i64]; omega
      have q2 : (0 : Int) < (rest.length : Int) + 1 := by omega
      have q3 : (rest.length : Int) < (rest.length : Int) + 1 := by omega
      unfold Nd.ptr at y0
      clear hL hbx hrow hg3 hv hdst
      gi_upto_region 5 with fail
      obtain ⟨Wy, hWy⟩ : ∃ Wy, (wr.setCell ⟨W.heap.size + 1, 0, none⟩ (.slice (some ⟨g3, 0, none⟩) rest.length c)).alloc (.cells #[.pointer (some ⟨v.1.b, 0, none⟩), .int .i64 v.2.1, .int .i64 v.2.2] 120) = Wy := ⟨_, rfl⟩
      have hsz1 : (wr.setCell ⟨W.heap.size + 1, 0, none⟩ (.slice (some ⟨g3, 0, none⟩) rest.length c)).heap.size = wr.heap.size := by simp
      have haty : AT [33, 120, 136, 3, 45] w₀.heap.size wr.heap.size wr Wy := by
        rw [← hWy]
        exact ((AT.refl _ _ _ wr).setCell (p := ⟨W.heap.size + 1, 0, none⟩) (by show _ ≤ W.heap.size + 1; omega) HBX.out (by simp) _).trans (AT.of_below (below_alloc _ _) (by rw [hsz1]; omega))
      have hvb : Wy.heap[wr.heap.size]? = some (.cells #[.pointer (some ⟨v.1.b, 0, none⟩), .int .i64 v.2.1, .int .i64 v.2.2] 120 (0, 0)) := by
        have h := heap_alloc_new (wr.setCell ⟨W.heap.size + 1, 0, none⟩ (.slice (some ⟨g3, 0, none⟩) rest.length c)) (.cells #[.pointer (some ⟨v.1.b, 0, none⟩), .int .i64 v.2.1, .int .i64 v.2.2] 120)
        rw [hsz1, hWy] at h
        exact h
      have hbt : Wy.heap[W.heap.size + 1]? = some (.cells #[.slice (some ⟨g3, 0, none⟩) rest.length c] 136 (0, 0)) := by
        rw [← hWy, Below.heap_alloc _ _ _ (by rw [hsz1]; exact l1)]
        exact setCell_heap (i := 0) HBX.out _
      have hne : g3 ≠ W.heap.size + 1 := by
        intro e
        obtain h1 := HG3.out
        rw [e, HBX.out] at h1
        simp at h1
      have hg3y : Wy.heap[g3]? = wr.heap[g3]? := by
        rw [← hWy, Below.heap_alloc _ _ _ (by rw [hsz1]; exact hg2)]
        exact Below.heap_setCell _ _ _ _ hne
      have hrowy := ownsRow_of_block HROW.out (w' := Wy) (fun k hk => by
        have hk' : g3 = k := by simpa [Value.ownBlock] using hk
        subst hk'
        exact hg3y)
      have hjy : J pre Wy := HJ.out _ _ _ HL.out.j (haty.mono' hsz)
      have hmy : ∀ D ∈ ds, Wy.heap[D]? = some (.deferred (some [])) := fun D hD => haty.same _ _ (HDS.out.2 D hD).2 (InT.not_of rfl) (.inr (Array.getElem?_eq_some_iff.1 (HDS.out.2 D hD).2).1)
      have hby := HL.out.below.trans haty.below
      have hszy : Wy.heap.size = wr.heap.size + 1 := by rw [← hWy]; simp
      rw [hWy]
      clear hWy hsz1 y0 y1 y2 b0 z0
      have hxs := HL.out.xs
      rw [List.flatMap_cons, preV_eq, List.cons_append] at hxs
      obtain ⟨fn, tmps, assign, body, hy, hR⟩ := HY.out pre v _ Wy hxs hjy (n - 1)
      obtain ⟨hvin, hvwf, hv0, hv1, hv2, hv3⟩ := HL.out.ok v (by simp)
      have HR := Lib.hid hR
      have HVB := Lib.hid hvb
      have HBT := Lib.hid hbt
      have HROWY := Lib.hid hrowy
      have HMY := Lib.hid hmy
      have d0 : Wy.cell? ⟨wr.heap.size, 0, none⟩ = some (.pointer (some ⟨v.1.b, 0, none⟩)) := cell_of_heap hvb rfl
      have d1 : Wy.cell? ⟨wr.heap.size, 1, none⟩ = some (.int .i64 v.2.1) := cell_of_heap hvb rfl
      have d2 : Wy.cell? ⟨wr.heap.size, 2, none⟩ = some (.int .i64 v.2.2) := cell_of_heap hvb rfl
      have HXS := Lib.hid hxs
      have HVI := Lib.hid hvin
      have HVW := Lib.hid hvwf
      unfold visV Nd.ptr at hy
      clear hR hvb hbt hrowy hmy hjy hxs haty hvin hvwf HG3 HROW HBX hne hg3y
      gi_upto_region 6 with fail
      refine ⟨fun h => by simp [Fence.wide] at h, HR.out.mono ?_⟩
      rintro e W3 ⟨rfl, hJ3, hk3⟩
      clear hy HR d0 d1 d2
      have hvb3 := hk3.keep HVB.out (by simp)
      have hbt3 := hk3.keep HBT.out (by simp)
      have hb3 := hby.trans hk3.below
      have c0 : W3.cell? ⟨wr.heap.size, 0, none⟩ = some (.pointer (some ⟨v.1.b, 0, none⟩)) := cell_of_heap hvb3 rfl
      have c1 : W3.cell? ⟨wr.heap.size, 1, none⟩ = some (.int .i64 v.2.1) := cell_of_heap hvb3 rfl
      have cn : W3.cell? ⟨v.1.b, 1, none⟩ = some (.int .i64 v.1.bt) := (HVI.out.below hb3).cells.c1
      have hw1 : IntKind.i64.wrap (v.2.1 + v.1.bt) = v.2.1 + v.1.bt := by rw [IntKind.wrap_i64]; have := (Nd.WF.ok _ HVW.out).bt0; omega
      have hm : Try.prog.follows .mixedOrders = true := by kernel_rfl
      gi_upto_region 6 with fail
      refine wpIn_region_free free_wide (S := fun W => W.cell? ⟨wr.heap.size, 0, none⟩ = some (.pointer (some ⟨v.1.b, 0, none⟩)) ∧ W.cell? ⟨wr.heap.size, 1, none⟩ = some (.int .i64 v.2.1) ∧ W.cell? ⟨v.1.b, 1, none⟩ = some (.int .i64 v.1.bt)) hm (by rfl) ⟨c0, c1, cn⟩ 11 rfl (fun hH => ?_)
      refine AnyL.take (i := 0) (v := ?_) rfl (by kernel_rfl) (by kernel_rfl) (by kernel_rfl) (fun _ _ _ h => h) (Or.inl ⟨by rfl, ?_⟩) hH ?_
      rotate_left
      · (intro w hSw; (try dsimp only at hSw); go_simp; (try with_reducible rfl))
      (try simp only [List.getElem_toArray, List.getElem_cons_succ, List.getElem_cons_zero, Act.put, List.setIfInBounds_toArray, List.set_cons_zero, List.set_cons_succ])
      refine AnyL.take (i := 1) (v := ?_) rfl (by kernel_rfl) (by kernel_rfl) (by kernel_rfl) (fun _ _ _ h => h) (Or.inl ⟨by rfl, ?_⟩) hH ?_
      rotate_left
      · (intro w hSw; (try dsimp only at hSw); go_simp; (try with_reducible rfl))
      (try simp only [List.getElem_toArray, List.getElem_cons_succ, List.getElem_cons_zero, Act.put, List.setIfInBounds_toArray, List.set_cons_zero, List.set_cons_succ])
      refine AnyL.take (i := 2) (v := ?_) rfl (by kernel_rfl) (by kernel_rfl) (by kernel_rfl) (fun _ _ _ h => h) (Or.inl ⟨by rfl, ?_⟩) hH ?_
      rotate_left
      · (intro w hSw; (try dsimp only at hSw); go_simp; (try with_reducible rfl))
      (try simp only [List.getElem_toArray, List.getElem_cons_succ, List.getElem_cons_zero, Act.put, List.setIfInBounds_toArray, List.set_cons_zero, List.set_cons_succ])
      refine AnyL.take (i := 3) (v := ?_) rfl (by kernel_rfl) (by kernel_rfl) (by kernel_rfl) (fun _ _ _ h => h) (Or.inl ⟨by rfl, ?_⟩) hH ?_
      rotate_left
      · (intro w hSw; (try dsimp only at hSw); go_simp; (try with_reducible rfl))
      (try simp only [List.getElem_toArray, List.getElem_cons_succ, List.getElem_cons_zero, Act.put, List.setIfInBounds_toArray, List.set_cons_zero, List.set_cons_succ])
      refine AnyL.take (i := 4) (v := ?_) rfl (by kernel_rfl) (by kernel_rfl) (by kernel_rfl) (fun _ _ _ h => h) (Or.inl ⟨by rfl, ?_⟩) hH ?_
      rotate_left
      · (intro w hSw; (try dsimp only at hSw); go_simp; (try with_reducible rfl))
      (try simp only [List.getElem_toArray, List.getElem_cons_succ, List.getElem_cons_zero, Act.put, List.setIfInBounds_toArray, List.set_cons_zero, List.set_cons_succ])
      refine AnyL.take (i := 5) (v := ?_) rfl (by kernel_rfl) (by kernel_rfl) (by kernel_rfl) (fun _ _ _ h => h) (Or.inl ⟨by rfl, ?_⟩) hH ?_
      rotate_left
      · (intro w hSw; (try dsimp only at hSw); go_simp; (try with_reducible rfl))
      (try simp only [List.getElem_toArray, List.getElem_cons_succ, List.getElem_cons_zero, Act.put, List.setIfInBounds_toArray, List.set_cons_zero, List.set_cons_succ])
      refine AnyL.take (i := 6) (v := ?_) rfl (by kernel_rfl) (by kernel_rfl) (by kernel_rfl) (fun _ _ _ h => h) (Or.inl ⟨by rfl, ?_⟩) hH ?_
      rotate_left
      · (intro w hSw; (try dsimp only at hSw); go_simp; (try with_reducible rfl))
      (try simp only [List.getElem_toArray, List.getElem_cons_succ, List.getElem_cons_zero, Act.put, List.setIfInBounds_toArray, List.set_cons_zero, List.set_cons_succ])
      refine AnyL.take (i := 7) (v := ?_) rfl (by kernel_rfl) (by kernel_rfl) (by kernel_rfl) (fun _ _ _ h => h) (Or.inl ⟨by rfl, ?_⟩) hH ?_
      rotate_left
      · (intro w hSw; (try dsimp only at hSw); go_simp; (try with_reducible rfl))
      (try simp only [List.getElem_toArray, List.getElem_cons_succ, List.getElem_cons_zero, Act.put, List.setIfInBounds_toArray, List.set_cons_zero, List.set_cons_succ])
      refine AnyL.take (i := 8) (v := ?_) rfl (by kernel_rfl) (by kernel_rfl) (by kernel_rfl) (fun _ _ _ h => h) (Or.inl ⟨by rfl, ?_⟩) hH ?_
      rotate_left
      · (intro w hSw; (try dsimp only at hSw); go_simp; (try with_reducible rfl))
      (try simp only [List.getElem_toArray, List.getElem_cons_succ, List.getElem_cons_zero, Act.put, List.setIfInBounds_toArray, List.set_cons_zero, List.set_cons_succ])
      refine AnyL.step (i := 9) (by kernel_rfl) rfl (fun K hK => ?_)
      (try simp only [List.getElem_toArray, List.getElem_cons_succ, List.getElem_cons_zero])
      go_simp
      refine hK.out _ _ (.inr ⟨Lib.cell?_alloc_some _ c0, Lib.cell?_alloc_some _ c1, Lib.cell?_alloc_some _ cn⟩) ?_
      clear hK K
      (try simp only [List.getElem_toArray, List.getElem_cons_succ, List.getElem_cons_zero, Act.put, List.setIfInBounds_toArray, List.set_cons_zero, List.set_cons_succ])
      refine AnyL.step (i := 10) (by kernel_rfl) rfl (fun K hK => ?_)
      (try simp only [List.getElem_toArray, List.getElem_cons_succ, List.getElem_cons_zero])
      go_simp
      refine hK.out _ _ (.inl (by kernel_rfl)) ?_
      clear hK K
      (try simp only [List.getElem_toArray, List.getElem_cons_succ, List.getElem_cons_zero, Act.put, List.setIfInBounds_toArray, List.set_cons_zero, List.set_cons_succ])
      refine AnyL.done (by kernel_rfl) ?_ _
      dsimp only [OnNormal]
      obtain ⟨W4, hW4⟩ : ∃ W4, (W3.alloc (.cells #[.int .i64 (v.2.1 + v.1.bt)] 3)).drew = W4 := ⟨_, rfl⟩
      have hb34 : Below W3.heap.size W3 W4 := by rw [← hW4]; exact (below_alloc _ _).drew
      have hat4 : W4.heap[W3.heap.size]? = some (.cells #[.int .i64 (v.2.1 + v.1.bt)] 3 (0, 0)) := by
        rw [← hW4]
        exact heap_alloc_new W3 (.cells #[.int .i64 (v.2.1 + v.1.bt)] 3)
      rw [hW4]
      clear hW4 c0 c1 cn hH
      have hb4 := hb3.trans (hb34.mono hb3.size)
      have hvb4 := (hb34.block _ (Array.getElem?_eq_some_iff.1 hvb3).1).trans hvb3
      obtain ⟨A, ck, hks⟩ := (HVI.out.kidsAt).val
      have c0 : W4.cell? ⟨wr.heap.size, 0, none⟩ = some (.pointer (some ⟨v.1.b, 0, none⟩)) := cell_of_heap hvb4 rfl
      have cn : W4.cell? ⟨v.1.b, 10, none⟩ = some (.slice A v.1.kids.length ck) := by rw [← hks]; exact (HVI.out.below hb4).cells.c10
      have hbk := callsIn_wide (n := n - 1) |>.2 (back_call A v.1.kids.length ck W4)
      gi_wp2_with (first | (refine ⟨trivial, fun h => (by simp [Fence.wide] at h), ?_⟩; gi_at_call 86; refine hbk.mono ?_; rintro e w5 ⟨rfl, h5⟩; rw [h5]; clear h5 hbk))
      have hkid := HVI.out.kidsAt
      obtain ⟨W5, hW5⟩ : ∃ W5, W4.alloc (.cells #[.slice A v.1.kids.length ck] 45) = W5 := ⟨_, rfl⟩
      have hb45 : Below W4.heap.size W4 W5 := by rw [← hW5]; exact below_alloc _ _
      have hbb5 : W5.heap[W4.heap.size]? = some (.cells #[.slice A v.1.kids.length ck] 45 (0, 0)) := by rw [← hW5]; exact heap_alloc_new _ _
      have hsz5 : W5.heap.size = W4.heap.size + 1 := by rw [← hW5]; simp
      rw [hW5]
      clear hW5 c0 cn hvb4
      have hb35 : Below W3.heap.size W3 W5 := hb34.trans (hb45.mono hb34.size)
      have hb5 := hb3.trans (hb35.mono hb3.size)
      have hvok := Nd.WF.ok v.1 HVW.out
      have hkl : v.1.kids.length ≤ 262144 := hvok.klen
      have hsz34 := hb34.size
      have hszy3 := hk3.below.size
      have hkidsat : KidsAt w₀.heap.size W5 (.slice A v.1.kids.length ck) v.1.kids := by
        rw [← hks]
        exact ⟨hkid.val, fun i hi => by
          obtain ⟨g, c, e1, e2, e3⟩ := hkid.get i hi
          exact ⟨g, c, e1, e2, (hb5.cell (p := ⟨g, i, none⟩) e2).trans e3⟩⟩
      have hrow3 : W3.ownsRow W.heap.size 120 3 (.slice (some ⟨g3, 0, none⟩) rest.length c) rest.length (rest.reverse.flatMap vcells) := by
        obtain ⟨cur, hc⟩ : ∃ cur, Wy.heap[g3]? = some (.cells cur 120 (0, 0)) := by
          rcases HROWY.out.2 with ⟨h, _⟩ | ⟨g, c', cur, h, _, h3, _⟩
          · cases h
          · cases h; exact ⟨cur, h3⟩
        exact ownsRow_of_block HROWY.out (w' := W3) (fun k hk => by
          have hk' : g3 = k := by simpa [Value.ownBlock] using hk
          subst hk'
          rw [hc]
          exact hk3.keep hc (by simp))
      have hrow5 := ownsRow_of_block hrow3 (w' := W5) (fun k hk => hb35.block k (hrow3.lt k hk).2)
      have hi0 : I85 w₀ W3 W.heap.size (W.heap.size + 1) W3.heap.size wr.heap.size [33, 120, 136, 3, 45] v rest v.1.kids.length (v.2.1 + v.1.bt) (.slice (some ⟨g3, 0, none⟩) rest.length c) W5 := by
        refine ⟨(hb35.block _ (Array.getElem?_eq_some_iff.1 hbt3).1).trans hbt3, (hb45.block _ (Array.getElem?_eq_some_iff.1 hat4).1).trans hat4, ?_, (hb35.block _ (Array.getElem?_eq_some_iff.1 hvb3).1).trans hvb3, ?_, ?_, AT.of_below hb35 (Nat.le_trans (by omega) hszy3)⟩
        · intro h0
          rw [List.take_length]
          rcases HVW.out.cases with ⟨_, h2, _⟩ | ⟨_, _, _, h4, _⟩
          · rw [h2] at h0; simp at h0
          · rw [h4]
        · rw [List.drop_length]
          exact hrow5
        · intro e
          have e' : wr.heap.size = g3 := by simpa [Value.ownBlock] using e
          omega
      refine wpIn_rangeT (gf := 89) (lb := #[.pointer (some ⟨W4.heap.size, 0, none⟩)]) rfl (enters_of Try.func89 (by kernel_rfl) rfl) (back1_gives v.1.kids (.slice A v.1.kids.length ck) W4.heap.size w₀.heap.size W5 (by omega) hbb5 hkidsat (by omega)) (Below.refl _ _) (by omega) (fun _ => rfl)
        (fun p Wc => ∃ i y tv, p.length + i = v.1.kids.length ∧ I85 w₀ W3 W.heap.size (W.heap.size + 1) W3.heap.size wr.heap.size [33, 120, 136, 3, 45] v rest i y tv Wc)
        (fun p X Y ⟨i, y, tv, h1, h2⟩ hat => ⟨i, y, tv, h1, h2.abides hat (by omega) (by simp)⟩)
        ⟨v.1.kids.length, _, _, by simp, hi0⟩
        (fun x a' _ => a' = { tmps := List.toArray (((.func (.yield l) #[] #[]) : Value) :: ((.pointer (some ⟨bn, 0, none⟩)) : Value) :: undef :: ((.pointer (some ⟨W.heap.size + 1, 0, none⟩)) : Value) :: ((.pointer (some ⟨wr.heap.size, 0, none⟩)) : Value) :: ((.pointer (some ⟨W3.heap.size, 0, none⟩)) : Value) :: undef :: kp v.1.kids x :: ((.pointer (some ⟨root.b, 0, none⟩)) : Value) :: ((.bool true) : Value) :: ((.bool false) : Value) :: ((.pointer (some ⟨root.b, 0, none⟩)) : Value) :: ((.agg #[.pointer (some ⟨root.b, 0, none⟩), .int .i64 0, .int .i64 0]) : Value) :: ((.slice (some ⟨W.heap.size, 0, none⟩) 1 1) : Value) :: ((.slice (some ⟨g3, 0, none⟩) (rest.length + 1) c) : Value) :: ((.int .i64 ((rest.length : Int) + 1)) : Value) :: ((.bool true) : Value) :: ((.slice (some ⟨g3, 0, none⟩) (rest.length + 1) c) : Value) :: ((.slice (some ⟨g3, 0, none⟩) (rest.length + 1) c) : Value) :: ((.int .i64 ((rest.length : Int) + 1)) : Value) :: ((.int .i64 (rest.length : Int)) : Value) :: ((.pointer (some ⟨g3, rest.length * 3, none⟩)) : Value) :: ((.agg #[.pointer (some ⟨v.1.b, 0, none⟩), .int .i64 v.2.1, .int .i64 v.2.2]) : Value) :: ((.slice (some ⟨g3, 0, none⟩) (rest.length + 1) c) : Value) :: ((.slice (some ⟨g3, 0, none⟩) (rest.length + 1) c) : Value) :: ((.int .i64 ((rest.length : Int) + 1)) : Value) :: ((.int .i64 (rest.length : Int)) : Value) :: ((.slice (some ⟨g3, 0, none⟩) rest.length c) : Value) :: ((.func (.yield l) #[] #[]) : Value) :: ((.agg #[.pointer (some ⟨v.1.b, 0, none⟩), .int .i64 v.2.1, .int .i64 v.2.2]) : Value) :: ((.bool true) : Value) :: ((.bool false) : Value) :: ((.pointer (some ⟨wr.heap.size, 1, none⟩)) : Value) :: ((.int .i64 v.2.1) : Value) :: ((.pointer (some ⟨wr.heap.size, 0, none⟩)) : Value) :: ((.pointer (some ⟨v.1.b, 0, none⟩)) : Value) :: ((.pointer (some ⟨v.1.b, 0, none⟩)) : Value) :: ((.pointer (some ⟨v.1.b, 0, none⟩)) : Value) :: ((.pointer (some ⟨v.1.b, 1, none⟩)) : Value) :: ((.int .i64 v.1.bt) : Value) :: ((.int .i64 (v.2.1 + v.1.bt)) : Value) :: ((.pointer (some ⟨wr.heap.size, 0, none⟩)) : Value) :: ((.pointer (some ⟨v.1.b, 0, none⟩)) : Value) :: ((.pointer (some ⟨v.1.b, 0, none⟩)) : Value) :: ((.pointer (some ⟨v.1.b, 10, none⟩)) : Value) :: ((.slice A v.1.kids.length ck) : Value) :: ((.func (.func 89) #[] #[.pointer (some ⟨W4.heap.size, 0, none⟩)]) : Value) :: ((.int .i64 (x : Int)) : Value) :: kp v.1.kids x :: undef :: undef :: undef :: undef :: undef :: undef :: undef :: undef :: undef :: undef :: undef :: undef :: undef :: undef :: undef :: undef :: []), defers := [] })
        (fun _ _ _ _ h _ => h) ?assign ?body ?done
      case assign =>
        intro l2 m2 p x W6 hI _ _
        gi_wp2_with fail
        exact ⟨by first | rfl | trivial, KT.refl _ _ _, hI⟩
      case body =>
        rintro l2 m2 p x rs a₁ W6 hxs ⟨i, y, tv, hpi, hI⟩ rfl
        obtain ⟨_, hpx⟩ := down_at hxs
        obtain rfl : i = x + 1 := by omega
        have hxl : x < v.1.kids.length := by omega
        have hkm : v.1.kids[x] ∈ v.1.kids := List.getElem_mem hxl
        have hkin := HVI.out.head.2.2 _ hkm
        have hkwf := HVW.out.kid _ hkm
        have hkok := Nd.WF.ok _ hkwf
        have hks1 := hvok.kbt _ hkm
        have hb6 := hb3.trans hI.rel.below
        have hyv := hI.ay (by omega)
        rw [sumBt_take_succ hxl] at hyv
        have hst0 : 0 ≤ sumBt (v.1.kids.take x) := (sumBt_ge fun q hq => (Nd.WF.ok q (HVW.out.kid q (List.mem_of_mem_take hq))).bt0).1
        have hkd := kidsV_drop v.2.1 (v.2.2 + 1) hxl
        have hle := sumBt_take_le (l := v.1.kids) (fun q hq => (Nd.WF.ok q (HVW.out.kid q hq)).bt0) x
        have hle2 := HVW.out.sum.2
        rw [kp_at hxl]
        have hkb := (hkin.below hb6).cells.c1
        obtain ⟨kd, hkd0⟩ : ∃ kd, kd = v.1.kids[x] := ⟨_, rfl⟩
        rw [← hkd0] at hkd hkin hkwf hkok hks1 hyv hkb ⊢
        have b1 := hkok.bt0
        have b2 := hkok.bt1
        have hw2 : IntKind.i64.wrap (y - kd.bt) = v.2.1 + sumBt (v.1.kids.take x) := by rw [IntKind.wrap_i64]; omega
        have hw3 : IntKind.i64.wrap (v.2.2 + 1) = v.2.2 + 1 := by have := hvok.ht1; rw [IntKind.wrap_i64]; omega
        have e0 : W6.cell? ⟨W3.heap.size, 0, none⟩ = some (.int .i64 y) := cell_of_heap hI.at_ rfl
        have z0 : W6.frozen? ⟨W3.heap.size, 0, none⟩ = false := frozen_of_heap hI.at_
        unfold Nd.ptr
        have HI := Lib.hid hI
        have HKD := Lib.hid hkd
        have HKD0 := Lib.hid hkd0
        have HYV := Lib.hid hyv
        clear hI hkd hkd0 hyv hi0 hrow5 hrow3
        gi_wp2_with fail
        refine wpIn_region_free (free_round l2) (S := fun W => W.cell? ⟨W3.heap.size, 0, none⟩ = some (.int .i64 y) ∧ W.cell? ⟨kd.b, 1, none⟩ = some (.int .i64 kd.bt)) hm (by rfl) ⟨e0, hkb⟩ 8 rfl (fun hH => ?_)
        refine AnyL.take (i := 0) (v := ?_) rfl (by kernel_rfl) (by kernel_rfl) (by kernel_rfl) (fun _ _ _ h => h) (Or.inl ⟨by rfl, ?_⟩) hH ?_
        rotate_left
        · (intro w hSw; (try dsimp only at hSw); go_simp; (try with_reducible rfl))
        (try simp only [List.getElem_toArray, List.getElem_cons_succ, List.getElem_cons_zero, Act.put, List.setIfInBounds_toArray, List.set_cons_zero, List.set_cons_succ])
        refine AnyL.take (i := 1) (v := ?_) rfl (by kernel_rfl) (by kernel_rfl) (by kernel_rfl) (fun _ _ _ h => h) (Or.inl ⟨by rfl, ?_⟩) hH ?_
        rotate_left
        · (intro w hSw; (try dsimp only at hSw); go_simp; (try with_reducible rfl))
        (try simp only [List.getElem_toArray, List.getElem_cons_succ, List.getElem_cons_zero, Act.put, List.setIfInBounds_toArray, List.set_cons_zero, List.set_cons_succ])
        refine AnyL.take (i := 2) (v := ?_) rfl (by kernel_rfl) (by kernel_rfl) (by kernel_rfl) (fun _ _ _ h => h) (Or.inl ⟨by rfl, ?_⟩) hH ?_
        rotate_left
        · (intro w hSw; (try dsimp only at hSw); go_simp; (try with_reducible rfl))
        (try simp only [List.getElem_toArray, List.getElem_cons_succ, List.getElem_cons_zero, Act.put, List.setIfInBounds_toArray, List.set_cons_zero, List.set_cons_succ])
        refine AnyL.take (i := 3) (v := ?_) rfl (by kernel_rfl) (by kernel_rfl) (by kernel_rfl) (fun _ _ _ h => h) (Or.inl ⟨by rfl, ?_⟩) hH ?_
        rotate_left
        · (intro w hSw; (try dsimp only at hSw); go_simp; (try with_reducible rfl))
        (try simp only [List.getElem_toArray, List.getElem_cons_succ, List.getElem_cons_zero, Act.put, List.setIfInBounds_toArray, List.set_cons_zero, List.set_cons_succ])
        refine AnyL.take (i := 4) (v := ?_) rfl (by kernel_rfl) (by kernel_rfl) (by kernel_rfl) (fun _ _ _ h => h) (Or.inl ⟨by rfl, ?_⟩) hH ?_
        rotate_left
        · (intro w hSw; (try dsimp only at hSw); go_simp; (try with_reducible rfl))
        (try simp only [List.getElem_toArray, List.getElem_cons_succ, List.getElem_cons_zero, Act.put, List.setIfInBounds_toArray, List.set_cons_zero, List.set_cons_succ])
        refine AnyL.take (i := 5) (v := ?_) rfl (by kernel_rfl) (by kernel_rfl) (by kernel_rfl) (fun _ _ _ h => h) (Or.inl ⟨by rfl, ?_⟩) hH ?_
        rotate_left
        · (intro w hSw; (try dsimp only at hSw); go_simp; (try with_reducible rfl))
        (try simp only [List.getElem_toArray, List.getElem_cons_succ, List.getElem_cons_zero, Act.put, List.setIfInBounds_toArray, List.set_cons_zero, List.set_cons_succ])
        refine AnyL.take (i := 6) (v := ?_) rfl (by kernel_rfl) (by kernel_rfl) (by kernel_rfl) (fun _ _ _ h => h) (Or.inl ⟨by rfl, ?_⟩) hH ?_
        rotate_left
        · (intro w hSw; (try dsimp only at hSw); go_simp; (try with_reducible rfl))
        (try simp only [List.getElem_toArray, List.getElem_cons_succ, List.getElem_cons_zero, Act.put, List.setIfInBounds_toArray, List.set_cons_zero, List.set_cons_succ])
        refine AnyL.step (i := 7) (by kernel_rfl) rfl (fun K hK => ?_)
        (try simp only [List.getElem_toArray, List.getElem_cons_succ, List.getElem_cons_zero])
        go_simp
        refine hK.out _ _ (.inl (by kernel_rfl)) ?_
        clear hK K
        (try simp only [List.getElem_toArray, List.getElem_cons_succ, List.getElem_cons_zero, Act.put, List.setIfInBounds_toArray, List.set_cons_zero, List.set_cons_succ])
        refine AnyL.done (by kernel_rfl) ?_ _
        dsimp only [OnNormal]
        clear hH
        obtain ⟨ny, hny⟩ : ∃ ny, ny = v.2.1 + sumBt (v.1.kids.take x) := ⟨_, rfl⟩
        rw [← hny]
        obtain ⟨W7, hW7⟩ : ∃ W7, (W6.setCell ⟨W3.heap.size, 0, none⟩ (.int .i64 ny)).drew = W7 := ⟨_, rfl⟩
        have hsz7 : W7.heap.size = W6.heap.size := by rw [← hW7]; simp [World.drew]
        have hblk : ∀ k, k ≠ W3.heap.size → W7.heap[k]? = W6.heap[k]? := fun k hk => by rw [← hW7]; exact Below.heap_setCell _ _ _ _ hk
        have hat7 : W7.heap[W3.heap.size]? = some (.cells #[.int .i64 ny] 3 (0, 0)) := by rw [← hW7]; exact setCell_heap (i := 0) HI.out.at_ _
        have hn3 : w₀.heap.size ≤ W3.heap.size := hb3.size
        have hn6 : W3.heap.size ≤ W6.heap.size := HI.out.rel.below.size
        have kt7 : KT [45] w₀.heap.size W6 W7 := by
          rw [← hW7]
          exact ((KT.refl _ _ W6).setCell (p := ⟨W3.heap.size, 0, none⟩) hn3 HI.out.at_ (by decide) _).trans ⟨(Below.refl _ _).drew, fun k o hk _ => hk⟩
        have at7 : AT [33, 120, 136, 3, 45] w₀.heap.size W3.heap.size W6 W7 := by
          rw [← hW7]
          exact ((AT.refl _ _ _ W6).setCell (p := ⟨W3.heap.size, 0, none⟩) hn3 HI.out.at_ (by decide) _).trans ⟨(Below.refl _ _).drew, fun k o hk _ _ => hk⟩
        have hbox7 := (hblk (W.heap.size + 1) (by omega)).trans HI.out.box
        have hvb7 := (hblk wr.heap.size (by omega)).trans HI.out.vbx
        have hrow7 := ownsRow_of_block HI.out.row (w' := W7) (fun k hk => hblk k (fun e => own_ne HI.out.row HI.out.at_ (by decide) (by rw [hk, e])))
        have hvbr := HI.out.vbr
        rw [hW7]
        clear hW7 hblk e0 z0 hkb
        have hql : (kidsV (v.2.1 + sumBt (v.1.kids.take (x + 1))) (v.2.2 + 1) (v.1.kids.drop (x + 1)) ++ rest).length ≤ 300000 := by
          rw [List.length_append, kidsV_len, List.length_drop]; omega
        have HQ := Lib.hid (show (kidsV (v.2.1 + sumBt (v.1.kids.take x)) (v.2.2 + 1) (v.1.kids.drop x) ++ rest).length = (kidsV (v.2.1 + sumBt (v.1.kids.take (x + 1))) (v.2.2 + 1) (v.1.kids.drop (x + 1)) ++ rest).length + 1 ∧
            (kidsV (v.2.1 + sumBt (v.1.kids.take x)) (v.2.2 + 1) (v.1.kids.drop x) ++ rest).reverse.flatMap vcells = (kidsV (v.2.1 + sumBt (v.1.kids.take (x + 1))) (v.2.2 + 1) (v.1.kids.drop (x + 1)) ++ rest).reverse.flatMap vcells ++ [.pointer (some ⟨kd.b, 0, none⟩), .int .i64 ny, .int .i64 (v.2.2 + 1)] by
          rw [HKD.out, hny]
          refine ⟨rfl, ?_⟩
          rw [List.cons_append, List.reverse_cons, List.flatMap_append]
          rfl)
        generalize kidsV (v.2.1 + sumBt (v.1.kids.take (x + 1))) (v.2.2 + 1) (v.1.kids.drop (x + 1)) ++ rest = st7 at hrow7 hql HQ
        obtain ⟨A2, c2, htv⟩ := row_any hrow7
        subst htv
        have f0 : W7.cell? ⟨W.heap.size + 1, 0, none⟩ = some (.slice A2 st7.length c2) := cell_of_heap hbox7 rfl
        have f1 : W7.cell? ⟨W3.heap.size, 0, none⟩ = some (.int .i64 ny) := cell_of_heap hat7 rfl
        have f2 : W7.cell? ⟨wr.heap.size, 2, none⟩ = some (.int .i64 v.2.2) := cell_of_heap hvb7 rfl
        have hl7 : W.heap.size + 1 < W7.heap.size := by omega
        have hm7 : W.heap.size ≤ W7.heap.size := by omega
        have HSZ7 := Lib.hid hsz7
        clear hsz7
        have HBOX7 := Lib.hid hbox7
        have HAT7 := Lib.hid hat7
        have HVB7 := Lib.hid hvb7
        have HROW7 := Lib.hid hrow7
        have HVBR := Lib.hid hvbr
        have HNY := Lib.hid hny
        have HKT7 := Lib.hid kt7
        have HAT77 := Lib.hid at7
        clear hbox7 hat7 hvb7 hvbr hny kt7 at7 hrow7
        gi_wp2_with (first | (gi_at_builtin; refine wpListIn_push rfl (.tmp 56) (.tmp 63) 136 rfl 120 _ 3 24 info120 Try.underlying136 rfl (by decide) W.heap.size (.slice A2 st7.length c2) st7.length (st7.reverse.flatMap vcells) rfl HROW7.out [.pointer (some ⟨kd.b, 0, none⟩), .int .i64 ny, .int .i64 (v.2.2 + 1)] rfl rfl (by simp [Value.oneCell']) (by omega) (by omega) (by omega) ?_; intro g9 c9 W9 hown9 hgr9 hg9; have G9 := (hgr9.block (W.heap.size + 1) (by simp; omega) (own_ne HROW7.out HBOX7.out (by decide))).trans ((Below.heap_alloc _ _ _ hl7).trans HBOX7.out); have f9 := cell_of_heap (i := 0) (v := .slice A2 st7.length c2) G9 rfl; have z9 : W9.frozen? ⟨W.heap.size + 1, 0, none⟩ = false := frozen_of_heap G9; have HG9 := Lib.hid G9; have HOWN9 := Lib.hid hown9; have HGR9 := Lib.hid hgr9; have HGG9 := Lib.hid hg9; clear G9 hown9 hgr9 hg9))
        have hsz7 := HSZ7.out
        have al7 := below_alloc W7 (.cells #[.pointer (some ⟨kd.b, 0, none⟩), .int .i64 ny, .int .i64 (v.2.2 + 1)] 120)
        have hgr := HGR9.out
        have hrb := row_block (HROW7.out.alloc (.cells #[.pointer (some ⟨kd.b, 0, none⟩), .int .i64 ny, .int .i64 (v.2.2 + 1)] 120))
        have hals := al7.size
        have kt9 : KT [45] w₀.heap.size W7 W9 := (KT.of_below al7 (by omega)).grown hgr (Nat.le_trans (by omega) hals) (fun k hk => by
          obtain ⟨h1, c, h2⟩ := hrb k hk
          exact ⟨by omega, c, _, _, h2, by decide⟩)
        have at9 : AT [33, 120, 136, 3, 45] w₀.heap.size W3.heap.size W7 W9 := (AT.of_below al7 (by omega)).grown hgr (Nat.le_trans (by omega) hals) (fun k hk => by
          obtain ⟨h1, c, h2⟩ := hrb k hk
          exact ⟨by omega, c, _, _, h2, by decide⟩)
        have hlt9 : ∀ {k : Nat} {o : Obj}, W7.heap[k]? = some o → k < (W7.alloc (.cells #[.pointer (some ⟨kd.b, 0, none⟩), .int .i64 ny, .int .i64 (v.2.2 + 1)] 120)).heap.size := fun h => Nat.lt_of_lt_of_le (Array.getElem?_eq_some_iff.1 h).1 hals
        have hat9 := (hgr.block _ (hlt9 HAT7.out) (own_ne HROW7.out HAT7.out (by decide))).trans ((Below.heap_alloc _ _ _ (Array.getElem?_eq_some_iff.1 HAT7.out).1).trans HAT7.out)
        have hvb9 := (hgr.block _ (hlt9 HVB7.out) HVBR.out).trans ((Below.heap_alloc _ _ _ (Array.getElem?_eq_some_iff.1 HVB7.out).1).trans HVB7.out)
        have hvlt := (Array.getElem?_eq_some_iff.1 HVB7.out).1
        obtain ⟨q1, q2⟩ := HQ.out
        refine ⟨(HKT7.out.trans kt9).setCell (p := ⟨W.heap.size + 1, 0, none⟩) (by show _ ≤ W.heap.size + 1; omega) HG9.out (by decide) _, x, ny, .slice (some ⟨g9, 0, none⟩) (st7.length + 1) c9, by rw [List.length_append, List.length_singleton]; omega, ?_⟩
        refine ⟨setCell_heap (i := 0) HG9.out _, (Below.heap_setCell _ _ _ _ (by show W3.heap.size ≠ W.heap.size + 1; omega)).trans hat9, fun _ => HNY.out, (Below.heap_setCell _ _ _ _ (by show wr.heap.size ≠ W.heap.size + 1; omega)).trans hvb9, ?_, ?_, ?_⟩
        · rw [q1, q2]
          exact ownsRow_of_block HOWN9.out (fun k hk => Below.heap_setCell _ _ _ _ (fun e => own_ne HOWN9.out HG9.out (by decide) (by rw [hk]; exact congrArg some e.symm)))
        · intro e
          have e' : wr.heap.size = g9 := by simpa [Value.ownBlock] using e
          rcases HGG9.out with h | h
          · exact HVBR.out (by rw [h, e'])
          · omega
        · exact HI.out.rel.trans (HAT77.out.trans (at9.setCell (p := ⟨W.heap.size + 1, 0, none⟩) (by show _ ≤ W.heap.size + 1; omega) HG9.out (by decide) _))
      case done =>
        rintro D W8 hD ⟨i, y, tv, hpi, hI⟩ hDW
        rw [down_len] at hpi
        obtain rfl : i = 0 := by omega
        have hk0 : kidsV (v.2.1 + sumBt (v.1.kids.take 0)) (v.2.2 + 1) (v.1.kids.drop 0) = kidsV v.2.1 (v.2.2 + 1) v.1.kids := by
          rw [List.take_zero, List.drop_zero, sumBt_nil, Int.add_zero]
        have hrow := hI.row
        rw [hk0] at hrow
        have hn8 := hI.rel.below.size
        have hm3 : W.heap.size ≤ W3.heap.size := by omega
        show K _ _
        refine hK _ _ (Handed.intro ((kidsV v.2.1 (v.2.2 + 1) v.1.kids ++ rest).flatMap preV).length ?_ (hJ' _ _ _ ⟨kidsV v.2.1 (v.2.2 + 1) v.1.kids ++ rest, pre ++ [v], D :: ds, tv, _, _, _, _, _, _, _, _, _, _, _, _, _, _, _, _, _, _, _, _, _, _, _, _, _, _, _, _, _, _, _, _, _, _, _, rfl, ?_⟩))
        · rw [← HL.out.g, List.flatMap_cons, List.flatMap_append, preV_eq v, List.length_append, List.length_append, List.length_cons]
          omega
        · refine ⟨?_, HJ.out _ _ _ hJ3 (hI.rel.mono' hm3), hI.box, hrow, ?_, hb3.trans hI.rel.below, ?_, ?_, rfl, by omega⟩
          · rw [HXS.out, List.flatMap_append, List.append_assoc]
            rfl
          · intro u hu
            rcases List.mem_append.1 hu with hu | hu
            · obtain ⟨k1, k2, k3, k4⟩ := kidsV_ok (v.2.2 + 1) v.1.kids v.2.1 (fun q hq => (Nd.WF.ok q (HVW.out.kid q hq)).bt0) u hu
              have ks := HVW.out.sum.2
              have kh := hvok.kht _ k1
              exact ⟨HVI.out.head.2.2 _ k1, HVW.out.kid _ k1, by omega, by omega, by omega, by omega⟩
            · exact HL.out.ok u (List.mem_cons_of_mem _ hu)
          · refine List.nodup_cons.2 ⟨fun h => ?_, HDS.out.1⟩
            have := (Array.getElem?_eq_some_iff.1 (HMY.out D h)).1
            have := hb35.size
            omega
          · intro D' hD'
            rcases List.mem_cons.1 hD' with rfl | hD'
            · exact ⟨by have := hb35.size; omega, hDW⟩
            · have h3 := hk3.same _ _ (HMY.out D' hD') (.inr rfl)
              exact ⟨(HDS.out.2 D' hD').1, hI.rel.same _ _ h3 (InT.not_of rfl) (.inr (Array.getElem?_eq_some_iff.1 h3).1)⟩

end Go.Proofs.Ytcjpmgfobnaoeaa

/- nodes.Leaves: the tokens of a tree. -/
namespace Go.Proofs.Ytcjpmgfobnaoeaa
set_option linter.unusedVariables false
set_option linter.unusedSimpArgs false
open Go.RowKit Go.Shelf
attribute [local go_sem] Oper.semAt_some

/-- What holds of a node and goes down to its kids holds of all that is visited. -/
theorem preN_all {p : Nd → Prop} (hp : ∀ m, p m → ∀ k ∈ m.kids, p k) : ∀ n : Nd, p n → ∀ a d, ∀ v ∈ preN a d n, p v.1 := by
  refine Nd.ind ?_
  intro n ih h a d v hv
  have hk : ∀ l : List Nd, (∀ k ∈ l, k ∈ n.kids) → ∀ a d, ∀ v ∈ preK a d l, p v.1 := by
    intro l
    induction l with
    | nil => intro _ a d v hv; simp [preK] at hv
    | cons k ks ihl =>
      intro hl a d v hv
      rw [preK_cons] at hv
      rcases List.mem_append.1 hv with hv | hv
      · exact ih k (hl k (by simp)) (hp n h k (hl k (by simp))) a d v hv
      · exact ihl (fun m hm => hl m (by simp [hm])) _ _ v hv
  rw [preN_kids] at hv
  rcases List.mem_cons.1 hv with rfl | hv
  · exact h
  · exact hk n.kids (fun _ h => h) _ _ v hv

end Go.Proofs.Ytcjpmgfobnaoeaa
