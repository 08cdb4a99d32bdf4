/- Built and great. -/
import Derived.Test.YtcjpmgfobnaoeaaA15
namespace Go.Proofs.Ytcjpmgfobnaoeaa
open Go.RowKit

/-- The data of a law. -/
structure Dt where
  tree : Tr
  tks : List (Int × Int × Int)
  sts : List (Int × Int × Bool)

/-- The value of the data; all lies below block B. -/
def Dt.At (B : Nat) (w : World) (v : Value) (d : Dt) : Prop :=
  ∃ kv tv sv, v = .agg #[.int .i64 d.tree.sy, .int .i64 d.tree.pr, kv, tv, sv] ∧ d.tree.At B w kv ∧ SlcAt B w 3 tv (d.tks.map tkCells) ∧ SlcAt B w 3 sv (d.sts.map stCells)

theorem Dt.At.keep {B : Nat} {w w' : World} {v : Value} {d : Dt} (h : d.At B w v) (hb : Below B w w') : d.At B w' v := by
  obtain ⟨kv, tv, sv, h0, h1, h2, h3⟩ := h
  exact ⟨kv, tv, sv, h0, h1.keep hb, h2.keep hb, h3.keep hb⟩

theorem SlcAt.up {B B' : Nat} {w : World} {sz : Nat} {v : Value} {es : List (List Value)} (h : SlcAt B w sz v es) (hb : B ≤ B') : SlcAt B' w sz v es := by
  rcases h with h | ⟨b, o, c, h1, h2, h3, h4⟩
  · exact .inl h
  · exact .inr ⟨b, o, c, h1, h2, by omega, h4⟩

mutual
theorem Tr.At.up {B B' : Nat} {w : World} (hb : B ≤ B') : ∀ {t : Tr} {kv : Value}, Tr.At B w kv t → Tr.At B' w kv t
  | .mk _ _ kids, kv, h => by
    unfold Tr.At at *
    obtain ⟨a, c, h1, h2, h3⟩ := h
    exact ⟨a, c, h1, h2, TrsAt.up hb h3⟩
theorem TrsAt.up {B B' : Nat} {w : World} (hb : B ≤ B') : ∀ {ts : List Tr} {a : Option Addr} {i : Nat}, TrsAt B w a i ts → TrsAt B' w a i ts
  | [], _, _, _ => by unfold TrsAt; trivial
  | t :: ts, a, i, h => by
    unfold TrsAt at *
    obtain ⟨⟨b, o, kv, h1, h2, h3, h4, h5, h6⟩, h7⟩ := h
    exact ⟨⟨b, o, kv, h1, by omega, h3, h4, h5, Tr.At.up hb h6⟩, TrsAt.up hb h7⟩
end

theorem Dt.At.up {B B' : Nat} {w : World} {v : Value} {d : Dt} (h : d.At B w v) (hb : B ≤ B') : d.At B' w v := by
  obtain ⟨kv, tv, sv, h0, h1, h2, h3⟩ := h
  exact ⟨kv, tv, sv, h0, h1.up hb, h2.up hb, h3.up hb⟩

/-- What the data builds. -/
def Dt.bld (d : Dt) : Except Int Pn := (bldT d.tks d.sts d.tree 0 0).1

/-- What Built says. -/
def BuiltSays (d : Dt) (w : World) (e : Ending) (w' : World) : Prop :=
  Below w.heap.size w w' ∧
  ((∃ x, d.bld = .error x ∧ x ≠ 0 ∧ e = .returned (.tuple #[.pointer none, .int .i64 x])) ∨
   (∃ n : Nd, d.bld = .ok n.plain ∧ e = .returned (.tuple #[n.ptr, .int .i64 0]) ∧ n.In w' ∧ n.WF ∧ n.ht ≤ d.tree.cnt ∧ n.cnt ≤ d.tree.cnt ∧ ∀ k ∈ n.blocks, w.heap.size ≤ k))

theorem BuiltSays.ok {d : Dt} {pn : Pn} {w w' : World} {e : Ending} (h : BuiltSays d w e w') (hd : d.bld = .ok pn) :
    Below w.heap.size w w' ∧ ∃ n : Nd, pn = n.plain ∧ e = .returned (.tuple #[n.ptr, .int .i64 0]) ∧ n.In w' ∧ n.WF ∧ n.ht ≤ d.tree.cnt ∧ n.cnt ≤ d.tree.cnt ∧ ∀ k ∈ n.blocks, w.heap.size ≤ k := by
  obtain ⟨h1, ⟨x, hx, _⟩ | ⟨n, hn, h3⟩⟩ := h
  · simp [hd] at hx
  · refine ⟨h1, n, ?_, h3⟩
    simpa [hd] using hn
theorem BuiltSays.err {d : Dt} {x : Int} {w w' : World} {e : Ending} (h : BuiltSays d w e w') (hd : d.bld = .error x) :
    Below w.heap.size w w' ∧ x ≠ 0 ∧ e = .returned (.tuple #[.pointer none, .int .i64 x]) := by
  obtain ⟨h1, ⟨y, hy, h0, h3⟩ | ⟨n, hn, h3⟩⟩ := h
  · have e : x = y := by simpa [hd] using hy
    subst e
    exact ⟨h1, h0, h3⟩
  · simp [hd] at hn

theorem built_any (B : Nat) (d : Dt) (v : Value) (w : World) (hv : d.At B w v) (hB : B ≤ w.heap.size) (hc : d.tree.cnt ≤ 1000000) : Calls Try.prog 21 #[v] w (BuiltSays d w) := by
  obtain ⟨kv, tv, sv, rfl, h1, h2, h3⟩ := hv
  have hcall : ∀ W, W = (w.alloc (.cells #[.int .i64 d.tree.sy, .int .i64 d.tree.pr, kv, tv, sv] 28)).alloc (.cells #[.int .i64 d.tree.sy, .int .i64 d.tree.pr, kv, tv, sv, .int .i64 0, .int .i64 0] 91) →
      Calls Try.prog 65 #[.pointer (some ⟨w.heap.size + 1, 0, none⟩), .agg #[.int .i64 d.tree.sy, .int .i64 d.tree.pr, kv]] W (NodeSays (w.heap.size + 1) d.tree.sy d.tree.pr kv tv sv (bldT d.tks d.sts d.tree 0 0) d.tree.cnt W) ∧ Below w.heap.size w W ∧
      W.cell? ⟨w.heap.size, 0, none⟩ = some (.int .i64 d.tree.sy) ∧ W.cell? ⟨w.heap.size, 1, none⟩ = some (.int .i64 d.tree.pr) ∧ W.cell? ⟨w.heap.size, 2, none⟩ = some kv ∧ W.heap.size = w.heap.size + 2 := by
    rintro W rfl
    have hb : Below w.heap.size w ((w.alloc (.cells #[.int .i64 d.tree.sy, .int .i64 d.tree.pr, kv, tv, sv] 28)).alloc (.cells #[.int .i64 d.tree.sy, .int .i64 d.tree.pr, kv, tv, sv, .int .i64 0, .int .i64 0] 91)) := ((Below.refl _ _).alloc (Nat.le_refl _) _).alloc (by simp) _
    have hx : ((w.alloc (.cells #[.int .i64 d.tree.sy, .int .i64 d.tree.pr, kv, tv, sv] 28)).alloc (.cells #[.int .i64 d.tree.sy, .int .i64 d.tree.pr, kv, tv, sv, .int .i64 0, .int .i64 0] 91)).heap[w.heap.size]? = some (.cells #[.int .i64 d.tree.sy, .int .i64 d.tree.pr, kv, tv, sv] 28 (0, 0)) := by
      rw [Below.heap_alloc _ _ _ (by simp)]; exact heap_alloc_new _ _
    refine ⟨?_, hb, cell_of_heap hx rfl, cell_of_heap hx rfl, cell_of_heap hx rfl, by simp⟩
    exact node_call _ _ _ _ _ _ d.tks d.sts d.tree kv 0 0 _ (heap_new2 _ _ _) ((h2.keep (hb.mono hB)).up (by omega)) ((h3.keep (hb.mono hB)).up (by omega)) ((h1.keep (hb.mono hB)).up (by omega)) (by omega) (by omega)
  have HC := Lib.hid hcall
  clear h1 h2 h3 hcall
  go_enter Try.func21, Try.ntmps21
  apply wp_seq_k
  intro K1 k1
  have H1 := Lib.hid k1
  clear k1
  go_wp2_with fail
  refine H1.out _ _ ?_
  clear H1 K1
  apply wp_seq_k
  intro K1 k1
  have H1 := Lib.hid k1
  clear k1
  go_wp2_with fail
  refine H1.out _ _ ?_
  clear H1 K1
  obtain ⟨hcall, hb, q0, q1, q2, hsz⟩ := HC.out _ rfl
  generalize (w.alloc (.cells #[.int .i64 d.tree.sy, .int .i64 d.tree.pr, kv, tv, sv] 28)).alloc (.cells #[.int .i64 d.tree.sy, .int .i64 d.tree.pr, kv, tv, sv, .int .i64 0, .int .i64 0] 91) = W at *
  rcases hr : bldT d.tks d.sts d.tree 0 0 with ⟨x | pn, lv2, md2⟩
  · rw [hr] at hcall
    have hd : d.bld = .error x := by unfold Dt.bld; rw [hr]
    clear HC
    go_wp2_with (go_at_call 65; refine hcall.mono ?_; rintro e w2 hsay; obtain ⟨hg2, hb2, hx0, rfl⟩ := hsay.err)
    exact bodyPost_ret (v := .tuple #[.pointer none, .int .i64 x]) (by simp [results, Try.results21, go_sem]) rfl ⟨hb.grown hg2 hb.size (fun k hk => by cases hk; omega), .inl ⟨x, hd, hx0, rfl⟩⟩
  · rw [hr] at hcall
    have hd : d.bld = .ok pn := by unfold Dt.bld; rw [hr]
    clear HC
    go_wp2_with (go_at_call 65; refine hcall.mono ?_; rintro e w2 hsay; obtain ⟨hg2, hb2, n, hpn, rfl, hin, hwf, hht, hcn, hbk⟩ := hsay.ok)
    exact bodyPost_ret (v := .tuple #[n.ptr, .int .i64 0]) (by simp [results, Try.results21, go_sem]) rfl ⟨hb.grown hg2 hb.size (fun k hk => by cases hk; omega), .inr ⟨n, by rw [hd, hpn], rfl, hin, hwf, hht, hcn, fun k hk => by have := hbk k hk; omega⟩⟩

/-- Is the data more than is looked at? -/
def Dt.great (d : Dt) : Bool := decide (60 < d.tree.cnt)

theorem great19 (B : Nat) (d : Dt) (v : Value) (w : World) (hv : d.At B w v) (hB : B ≤ w.heap.size) : Calls Try.prog 19 #[v] w fun e w' => e = .returned (.bool d.great) ∧ Below w.heap.size w w' := by
  obtain ⟨kv, tv, sv, rfl, h1, h2, h3⟩ := hv
  have eb := below_alloc w (.cells #[.int .i64 d.tree.sy, .int .i64 d.tree.pr, kv, tv, sv] 28)
  have hc := nodes_any B d.tree kv 60 _ (h1.keep (eb.mono hB)) (Nat.le_trans hB eb.size) (by decide) (by decide)
  rw [ndsT_is _ _ (by decide)] at hc
  have hg : (if (60 : Int) < min (d.tree.cnt : Int) (60 + 1) then true else false) = d.great := by
    unfold Dt.great
    by_cases h : 60 < d.tree.cnt
    · rw [if_pos (by omega), decide_eq_true h]
    · rw [if_neg (by omega), decide_eq_false h]
  clear h1 h2 h3
  go_enter Try.func19, Try.ntmps19
  go_wp2_with (go_at_call 63; refine hc.mono ?_; rintro e w2 ⟨rfl, hb2⟩)
  go_ret
  refine ⟨?_, eb.trans (hb2.mono eb.size)⟩
  rw [← hg]
  by_cases h : (60 : Int) < min (d.tree.cnt : Int) (60 + 1)
  · rw [if_pos h]; simp; omega
  · rw [if_neg h]; simp; omega

theorem great29 (B : Nat) (d : Dt) (v : Value) (w : World) (hv : d.At B w v) (hB : B ≤ w.heap.size) : Calls Try.prog 29 #[v] w fun e w' => e = .returned (.bool d.great) ∧ Below w.heap.size w w' := by
  obtain ⟨kv, tv, sv, rfl, h1, h2, h3⟩ := hv
  have eb := below_alloc w (.cells #[.int .i64 d.tree.sy, .int .i64 d.tree.pr, kv, tv, sv] 28)
  have hc := nodes_any B d.tree kv 60 _ (h1.keep (eb.mono hB)) (Nat.le_trans hB eb.size) (by decide) (by decide)
  rw [ndsT_is _ _ (by decide)] at hc
  have hg : (if (60 : Int) < min (d.tree.cnt : Int) (60 + 1) then true else false) = d.great := by
    unfold Dt.great
    by_cases h : 60 < d.tree.cnt
    · rw [if_pos (by omega), decide_eq_true h]
    · rw [if_neg (by omega), decide_eq_false h]
  clear h1 h2 h3
  go_enter Try.func29, Try.ntmps29
  go_wp2_with (go_at_call 63; refine hc.mono ?_; rintro e w2 ⟨rfl, hb2⟩)
  go_ret
  refine ⟨?_, eb.trans (hb2.mono eb.size)⟩
  rw [← hg]
  by_cases h : (60 : Int) < min (d.tree.cnt : Int) (60 + 1)
  · rw [if_pos h]; simp; omega
  · rw [if_neg h]; simp; omega

theorem great38 (B : Nat) (d : Dt) (v : Value) (w : World) (hv : d.At B w v) (hB : B ≤ w.heap.size) : Calls Try.prog 38 #[v] w fun e w' => e = .returned (.bool d.great) ∧ Below w.heap.size w w' := by
  obtain ⟨kv, tv, sv, rfl, h1, h2, h3⟩ := hv
  have eb := below_alloc w (.cells #[.int .i64 d.tree.sy, .int .i64 d.tree.pr, kv, tv, sv] 28)
  have hc := nodes_any B d.tree kv 60 _ (h1.keep (eb.mono hB)) (Nat.le_trans hB eb.size) (by decide) (by decide)
  rw [ndsT_is _ _ (by decide)] at hc
  have hg : (if (60 : Int) < min (d.tree.cnt : Int) (60 + 1) then true else false) = d.great := by
    unfold Dt.great
    by_cases h : 60 < d.tree.cnt
    · rw [if_pos (by omega), decide_eq_true h]
    · rw [if_neg (by omega), decide_eq_false h]
  clear h1 h2 h3
  go_enter Try.func38, Try.ntmps38
  go_wp2_with (go_at_call 63; refine hc.mono ?_; rintro e w2 ⟨rfl, hb2⟩)
  go_ret
  refine ⟨?_, eb.trans (hb2.mono eb.size)⟩
  rw [← hg]
  by_cases h : (60 : Int) < min (d.tree.cnt : Int) (60 + 1)
  · rw [if_pos h]; simp; omega
  · rw [if_neg h]; simp; omega

end Go.Proofs.Ytcjpmgfobnaoeaa
