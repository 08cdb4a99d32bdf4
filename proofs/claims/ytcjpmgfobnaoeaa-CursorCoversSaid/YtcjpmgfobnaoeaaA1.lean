/- The contracts of what a node tells of itself. -/
import Derived.Test.YtcjpmgfobnaoeaaA0
import Derived.Deep.QuietTactic
import Derived.BigQuiet
import Derived.WalkSpells
namespace Go.Proofs.Ytcjpmgfobnaoeaa
open Go.RowKit

theorem made_nil (w : World) : Calls Try.prog 70 #[.pointer none] w fun e w' => e = .returned (.bool false) ∧ w' = w := by
  go_enter Try.func70, Try.ntmps70
  go_wp2
  go_ret
  exact ⟨rfl, rfl⟩

theorem made_some (b : Nat) (h : Int) (w : World) (hc : w.cell? ⟨b, 3, none⟩ = some (.int .i64 h)) : Calls Try.prog 70 #[.pointer (some ⟨b, 0, none⟩)] w fun e w' => e = .returned (.bool (decide (0 < h))) ∧ w' = w := by
  go_enter Try.func70, Try.ntmps70
  go_wp2
  go_ret
  exact ⟨rfl, rfl⟩

theorem made_yes (n : Nd) (w : World) (h : n.In w) (h0 : 0 < n.ht) : Calls Try.prog 70 #[n.ptr] w fun e w' => e = .returned (.bool true) ∧ w' = w :=
  (made_some n.b n.ht w h.cells.c3).mono fun e w' ⟨h1, h2⟩ => ⟨by rw [h1, decide_eq_true h0], h2⟩
theorem made_no (n : Nd) (w : World) (h : n.In w) (h0 : n.ht ≤ 0) : Calls Try.prog 70 #[n.ptr] w fun e w' => e = .returned (.bool false) ∧ w' = w :=
  (made_some n.b n.ht w h.cells.c3).mono fun e w' ⟨h1, h2⟩ => ⟨by rw [h1, decide_eq_false (by omega)], h2⟩

theorem field85_0 (a b c d : Int) (w : World) : (Instr.field 85 (.agg #[.int .i64 a, .int .i64 b, .int .i64 c, .int .i64 d]) 0).run Try.prog w = .ok (.int .i64 a) w := by kernel_rfl
theorem field85_1 (a b c d : Int) (w : World) : (Instr.field 85 (.agg #[.int .i64 a, .int .i64 b, .int .i64 c, .int .i64 d]) 1).run Try.prog w = .ok (.int .i64 b) w := by kernel_rfl
theorem field85_2 (a b c d : Int) (w : World) : (Instr.field 85 (.agg #[.int .i64 a, .int .i64 b, .int .i64 c, .int .i64 d]) 2).run Try.prog w = .ok (.int .i64 c) w := by kernel_rfl
theorem field85_3 (a b c d : Int) (w : World) : (Instr.field 85 (.agg #[.int .i64 a, .int .i64 b, .int .i64 c, .int .i64 d]) 3).run Try.prog w = .ok (.int .i64 d) w := by kernel_rfl
attribute [local go_sem] field85_0 field85_1 field85_2 field85_3

theorem sum_nil (w : World) : Calls Try.prog 66 #[.pointer none] w fun e w' => e = .returned (.agg #[.int .i64 0, .int .i64 0, .int .i64 0, .int .i64 0]) ∧ Below w.heap.size w w' := by
  go_enter Try.func66, Try.ntmps66
  go_wp2
  exact bodyPost_ret (v := .agg #[.int .i64 0, .int .i64 0, .int .i64 0, .int .i64 0]) (by simp [results, Try.results66, go_sem]) rfl ⟨rfl, (Below.refl _ _).alloc (Nat.le_refl _) _⟩

theorem sum_some (b : Nat) (k1 k2 k3 k4 : Int) (w : World) (h0 : w.cell? ⟨b, 0, none⟩ = some (.int .i64 k1)) (h1 : w.cell? ⟨b, 1, none⟩ = some (.int .i64 k2)) (h2 : w.cell? ⟨b, 2, none⟩ = some (.int .i64 k3)) (h3 : w.cell? ⟨b, 3, none⟩ = some (.int .i64 k4)) :
    Calls Try.prog 66 #[.pointer (some ⟨b, 0, none⟩)] w fun e w' => e = .returned (.agg #[.int .i64 k1, .int .i64 k2, .int .i64 k3, .int .i64 k4]) ∧ Below w.heap.size w w' := by
  have lb : b < w.heap.size := World.block_lt_of_cell? w _ h0
  go_enter Try.func66, Try.ntmps66
  go_wp2
  exact bodyPost_ret (v := .agg #[.int .i64 k1, .int .i64 k2, .int .i64 k3, .int .i64 k4]) (by simp [results, Try.results66, go_sem]) rfl ⟨rfl, (Below.refl _ _).alloc (Nat.le_refl _) _⟩

theorem tokens_nil (w : World) : Calls Try.prog 24 #[.pointer none] w fun e w' => e = .returned (.int .i64 0) ∧ Below w.heap.size w w' := by
  go_enter Try.func24, Try.ntmps24
  go_wp2_with (go_at_call 66; refine (sum_nil _).mono ?_; rintro e w' ⟨rfl, hb⟩)
  go_ret
  exact ⟨rfl, hb⟩
theorem tokens_some (n : Nd) (w : World) (h : n.In w) : Calls Try.prog 24 #[n.ptr] w fun e w' => e = .returned (.int .i64 n.tk) ∧ Below w.heap.size w w' := by
  have hc := h.cells
  unfold Nd.ptr
  go_enter Try.func24, Try.ntmps24
  go_wp2_with (go_at_call 66; refine (sum_some n.b _ _ _ _ _ hc.c0 hc.c1 hc.c2 hc.c3).mono ?_; rintro e w' ⟨rfl, hb⟩)
  go_ret
  exact ⟨rfl, hb⟩

theorem bytes_nil (w : World) : Calls Try.prog 36 #[.pointer none] w fun e w' => e = .returned (.int .i64 0) ∧ Below w.heap.size w w' := by
  go_enter Try.func36, Try.ntmps36
  go_wp2_with (go_at_call 66; refine (sum_nil _).mono ?_; rintro e w' ⟨rfl, hb⟩)
  go_ret
  exact ⟨rfl, hb⟩
theorem bytes_some (n : Nd) (w : World) (h : n.In w) : Calls Try.prog 36 #[n.ptr] w fun e w' => e = .returned (.int .i64 n.bt) ∧ Below w.heap.size w w' := by
  have hc := h.cells
  unfold Nd.ptr
  go_enter Try.func36, Try.ntmps36
  go_wp2_with (go_at_call 66; refine (sum_some n.b _ _ _ _ _ hc.c0 hc.c1 hc.c2 hc.c3).mono ?_; rintro e w' ⟨rfl, hb⟩)
  go_ret
  exact ⟨rfl, hb⟩

theorem lead_nil (w : World) : Calls Try.prog 37 #[.pointer none] w fun e w' => e = .returned (.int .i64 0) ∧ Below w.heap.size w w' := by
  go_enter Try.func37, Try.ntmps37
  go_wp2_with (go_at_call 66; refine (sum_nil _).mono ?_; rintro e w' ⟨rfl, hb⟩)
  go_ret
  exact ⟨rfl, hb⟩
theorem lead_some (n : Nd) (w : World) (h : n.In w) : Calls Try.prog 37 #[n.ptr] w fun e w' => e = .returned (.int .i64 n.ld) ∧ Below w.heap.size w w' := by
  have hc := h.cells
  unfold Nd.ptr
  go_enter Try.func37, Try.ntmps37
  go_wp2_with (go_at_call 66; refine (sum_some n.b _ _ _ _ _ hc.c0 hc.c1 hc.c2 hc.c3).mono ?_; rintro e w' ⟨rfl, hb⟩)
  go_ret
  exact ⟨rfl, hb⟩

theorem height_nil (w : World) : Calls Try.prog 62 #[.pointer none] w fun e w' => e = .returned (.int .i64 0) ∧ Below w.heap.size w w' := by
  go_enter Try.func62, Try.ntmps62
  go_wp2_with (go_at_call 66; refine (sum_nil _).mono ?_; rintro e w' ⟨rfl, hb⟩)
  go_ret
  exact ⟨rfl, hb⟩
theorem height_some (n : Nd) (w : World) (h : n.In w) : Calls Try.prog 62 #[n.ptr] w fun e w' => e = .returned (.int .i64 n.ht) ∧ Below w.heap.size w w' := by
  have hc := h.cells
  unfold Nd.ptr
  go_enter Try.func62, Try.ntmps62
  go_wp2_with (go_at_call 66; refine (sum_some n.b _ _ _ _ _ hc.c0 hc.c1 hc.c2 hc.c3).mono ?_; rintro e w' ⟨rfl, hb⟩)
  go_ret
  exact ⟨rfl, hb⟩

/-- What is none: nil, or a node that was not made. -/
def Dud (w : World) (p : Value) : Prop := p = .pointer none ∨ ∃ n : Nd, p = n.ptr ∧ n.In w ∧ n.ht ≤ 0

theorem made_dud {w : World} {p : Value} (h : Dud w p) : Calls Try.prog 70 #[p] w fun e w' => e = .returned (.bool false) ∧ w' = w := by
  rcases h with rfl | ⟨n, rfl, h1, h2⟩
  · exact made_nil w
  · exact made_no n w h1 h2

theorem sym_dud {w : World} {p : Value} (h : Dud w p) : Calls Try.prog 32 #[p] w fun e w' => e = .returned (.int .i64 0) ∧ w' = w := by
  go_enter Try.func32, Try.ntmps32
  go_wp2_with (go_at_call 70; refine (made_dud h).mono ?_; rintro e w' ⟨rfl, rfl⟩)
  go_ret
  exact ⟨rfl, rfl⟩
theorem sym_some (n : Nd) (w : World) (h : n.In w) (h0 : 0 < n.ht) : Calls Try.prog 32 #[n.ptr] w fun e w' => e = .returned (.int .i64 n.sy) ∧ w' = w := by
  have hc := h.cells.c4
  have hm : Calls Try.prog 70 #[.pointer (some ⟨n.b, 0, none⟩)] w fun e w' => e = .returned (.bool true) ∧ w' = w := made_yes n w h h0
  unfold Nd.ptr
  go_enter Try.func32, Try.ntmps32
  go_wp2_with (go_at_call 70; refine hm.mono ?_; rintro e w' ⟨rfl, rfl⟩)
  go_ret
  exact ⟨rfl, rfl⟩

theorem prod_dud {w : World} {p : Value} (h : Dud w p) : Calls Try.prog 44 #[p] w fun e w' => e = .returned (.int .i64 0) ∧ w' = w := by
  go_enter Try.func44, Try.ntmps44
  go_wp2_with (go_at_call 70; refine (made_dud h).mono ?_; rintro e w' ⟨rfl, rfl⟩)
  go_ret
  exact ⟨rfl, rfl⟩
theorem prod_some (n : Nd) (w : World) (h : n.In w) (h0 : 0 < n.ht) : Calls Try.prog 44 #[n.ptr] w fun e w' => e = .returned (.int .i64 n.pr) ∧ w' = w := by
  have hc := h.cells.c5
  have hm : Calls Try.prog 70 #[.pointer (some ⟨n.b, 0, none⟩)] w fun e w' => e = .returned (.bool true) ∧ w' = w := made_yes n w h h0
  unfold Nd.ptr
  go_enter Try.func44, Try.ntmps44
  go_wp2_with (go_at_call 70; refine hm.mono ?_; rintro e w' ⟨rfl, rfl⟩)
  go_ret
  exact ⟨rfl, rfl⟩

/-- What is none stays none in a world that has grown. -/
theorem Dud.below {w w' : World} {p : Value} (h : Dud w p) (hb : Below w.heap.size w w') : Dud w' p := by
  rcases h with rfl | ⟨n, rfl, h1, h2⟩
  · exact .inl rfl
  · exact .inr ⟨n, rfl, h1.below hb, h2⟩

theorem below_alloc (w : World) (o : Obj) : Below w.heap.size w (w.alloc o) := (Below.refl _ _).alloc (Nat.le_refl _) _

theorem stamp_dud {w : World} {p : Value} (h : Dud w p) : Calls Try.prog 61 #[p] w fun e w' => e = .returned (.agg #[.int .i64 0, .int .i64 0, .bool false]) ∧ Below w.heap.size w w' := by
  go_enter Try.func61, Try.ntmps61
  go_wp2_with (go_at_call 70; refine (made_dud (h.below (below_alloc _ _))).mono ?_; rintro e w' ⟨rfl, rfl⟩)
  exact bodyPost_ret (v := .agg #[.int .i64 0, .int .i64 0, .bool false]) (by simp [results, Try.results61, go_sem]) rfl ⟨rfl, (Below.refl _ _).alloc (Nat.le_refl _) _⟩
theorem stamp_some (n : Nd) (w : World) (h : n.In w) (h0 : 0 < n.ht) : Calls Try.prog 61 #[n.ptr] w fun e w' => e = .returned (.agg #[.int .i64 n.st, .int .i64 n.lk, .bool n.fm]) ∧ Below w.heap.size w w' := by
  have hc7 := h.cells.c7
  have hc8 := h.cells.c8
  have hc9 := h.cells.c9
  have lb : n.b < w.heap.size := World.block_lt_of_cell? w _ hc7
  have hm : ∀ o, Calls Try.prog 70 #[.pointer (some ⟨n.b, 0, none⟩)] (w.alloc o) fun e w' => e = .returned (.bool true) ∧ w' = w.alloc o := fun o => made_yes n _ (h.below (below_alloc _ _)) h0
  unfold Nd.ptr
  go_enter Try.func61, Try.ntmps61
  go_wp2_with (go_at_call 70; refine (hm _).mono ?_; rintro e w' ⟨rfl, rfl⟩)
  exact bodyPost_ret (v := .agg #[.int .i64 n.st, .int .i64 n.lk, .bool n.fm]) (by simp [results, Try.results61, go_sem]) rfl ⟨rfl, (Below.refl _ _).alloc (Nat.le_refl _) _⟩

theorem token_dud {w : World} {p : Value} (h : Dud w p) : Calls Try.prog 60 #[p] w fun e w' => e = .returned (.tuple #[.agg #[.int .i64 0, .int .i64 0, .int .i64 0], .bool false]) ∧ Below w.heap.size w w' := by
  go_enter Try.func60, Try.ntmps60
  go_wp2_with (go_at_call 70; refine (made_dud (h.below (below_alloc _ _))).mono ?_; rintro e w' ⟨rfl, rfl⟩)
  exact bodyPost_ret (v := .tuple #[.agg #[.int .i64 0, .int .i64 0, .int .i64 0], .bool false]) (by simp [results, Try.results60, go_sem]) rfl ⟨rfl, (Below.refl _ _).alloc (Nat.le_refl _) _⟩

set_option maxHeartbeats 1000000 in
theorem token_leaf (n : Nd) (w : World) (h : n.In w) (h0 : 0 < n.ht) (h1 : n.pr < 0) : Calls Try.prog 60 #[n.ptr] w fun e w' => e = .returned (.tuple #[.agg #[.int .i64 n.sy, .int .i64 n.ld, .int .i64 n.wd], .bool true]) ∧ Below w.heap.size w w' := by
  have hc2 := h.cells.c2
  have hc4 := h.cells.c4
  have hc5 := h.cells.c5
  have hc6 := h.cells.c6
  have lb : n.b < w.heap.size := World.block_lt_of_cell? w _ hc5
  have hm : ∀ o, Calls Try.prog 70 #[.pointer (some ⟨n.b, 0, none⟩)] (w.alloc o) fun e w' => e = .returned (.bool true) ∧ w' = w.alloc o := fun o => made_yes n _ (h.below (below_alloc _ _)) h0
  unfold Nd.ptr
  go_enter Try.func60, Try.ntmps60
  go_wp2_with (go_at_call 70; refine (hm _).mono ?_; rintro e w' ⟨rfl, rfl⟩)
  go_region
  go_wp2
  exact bodyPost_ret (v := .tuple #[.agg #[.int .i64 n.sy, .int .i64 n.ld, .int .i64 n.wd], .bool true]) (by simp [results, Try.results60, go_sem]) rfl ⟨rfl, ((Below.refl _ _).alloc (Nat.le_refl _) _).drew⟩
theorem token_node (n : Nd) (w : World) (h : n.In w) (h0 : 0 < n.ht) (h1 : 0 ≤ n.pr) : Calls Try.prog 60 #[n.ptr] w fun e w' => e = .returned (.tuple #[.agg #[.int .i64 0, .int .i64 0, .int .i64 0], .bool false]) ∧ Below w.heap.size w w' := by
  have hc5 := h.cells.c5
  have lb : n.b < w.heap.size := World.block_lt_of_cell? w _ hc5
  have hm : ∀ o, Calls Try.prog 70 #[.pointer (some ⟨n.b, 0, none⟩)] (w.alloc o) fun e w' => e = .returned (.bool true) ∧ w' = w.alloc o := fun o => made_yes n _ (h.below (below_alloc _ _)) h0
  unfold Nd.ptr
  go_enter Try.func60, Try.ntmps60
  go_wp2_with (go_at_call 70; refine (hm _).mono ?_; rintro e w' ⟨rfl, rfl⟩)
  exact bodyPost_ret (v := .tuple #[.agg #[.int .i64 0, .int .i64 0, .int .i64 0], .bool false]) (by simp [results, Try.results60, go_sem]) rfl ⟨rfl, (Below.refl _ _).alloc (Nat.le_refl _) _⟩


/-! ### slices.Clone at pointers to nodes -/
theorem info33 : (Try.prog.info? 33).map (fun i => (i.zero, i.size, i.bytes)) = some (some (.pointer none), 1, 8) := by kernel_rfl

theorem clone_nil (n c : Nat) (w : World) : Calls Try.prog 73 #[.slice none n c] w fun e w' => e = .returned (.slice none 0 0) ∧ w' = w := by
  have q45 : ∀ (w : World) (a : Option Addr) (n c n' c' : Nat), (binOp .eql 45 (.slice a n c) (.slice none n' c')).run Try.prog w = .ok (.bool a.isNone) w := fun w a n c n' c' => Lib.run_eql_slice_nil w _ _ a n c n' c' Try.underlying45
  go_enter Try.func73, Try.ntmps73
  go_wp2
  go_ret
  exact ⟨rfl, rfl⟩

set_option maxHeartbeats 1000000 in
theorem clone_some (ad : Addr) (n c : Nat) (xs : List Value) (w : World) (hl : xs.length = n) (hx : ∀ j u, xs[j]? = some u → w.cell? (ad.add j) = some u) (h1 : ∀ u ∈ xs, u.oneCell' = true) (hb : n * 8 ≤ 140737488355328) :
    Calls Try.prog 73 #[.slice (some ad) n c] w fun e w' => ∃ v', e = .returned v' ∧ w'.ownsRow w.heap.size 33 1 v' n xs ∧ v' ≠ .slice none 0 0 ∧ Below w.heap.size w w' := by
  have q45 : ∀ (w : World) (a : Option Addr) (n c n' c' : Nat), (binOp .eql 45 (.slice a n c) (.slice none n' c')).run Try.prog w = .ok (.bool a.isNone) w := fun w a n c n' c' => Lib.run_eql_slice_nil w _ _ a n c n' c' Try.underlying45
  obtain ⟨i0, hi, hz0, hz1, hz2⟩ := info_parts info33
  have HX := Lib.hid hx
  clear hx
  have HL := Lib.hid hl
  clear hl
  go_enter Try.func73, Try.ntmps73
  go_wp2_with (at_builtin; refine wpList_append_own _ rfl _ _ 45 rfl w.heap.size 33 i0 (.pointer none) 1 8 Try.underlying45 hi hz0 hz1 hz2 rfl (by decide) _ _ _ rfl (World.ownsRow_made w #[] 0 (Nat.le_refl _) (Nat.zero_le _) rfl) ad n c xs rfl ?qc1 ?qc2 ?qc3 ?qc4 ?qc5 ?qc6 ?_)
  case qc1 => rw [HL.out, Nat.mul_one]
  case qc2 =>
    intro j u hj
    exact Lib.cell?_alloc_some _ (HX.out j u hj)
  case qc3 => exact h1
  case qc4 => unfold maxLen; omega
  case qc5 => omega
  case qc6 => simp
  intro v' w1 hown hgrow hnil
  go_wp2
  go_ret
  refine ⟨v', rfl, by simpa using hown, ?_, ?_⟩
  · exact hnil
  · exact ((Below.refl _ w).alloc (Nat.le_refl _) _).grown hgrow (by simp) (by intro k hk; simp [Value.ownBlock] at hk; omega)

theorem ownsRow_cell {w : World} {base e : Nat} {v : Value} {n : Nat} {xs : List Value} (h : w.ownsRow base e 1 v n xs) (h0 : v ≠ .slice none 0 0) :
    ∃ g c, v = .slice (some ⟨g, 0, none⟩) n c ∧ n ≤ c ∧ base ≤ g ∧ g < w.heap.size ∧ ∀ j u, xs[j]? = some u → w.cell? ⟨g, j, none⟩ = some u := by
  rcases h.2 with ⟨h1, _⟩ | ⟨g, cap, cur, rfl, hb, hg, h3, h4, h5, h6⟩
  · exact absurd h1 h0
  · refine ⟨g, cap, rfl, h3, hb, (Array.getElem?_eq_some_iff.1 hg).1, fun j u hu => cell_of_heap hg ?_⟩
    rw [← h6] at hu
    rw [List.getElem?_take] at hu
    split at hu
    · simpa using hu
    · simp at hu

theorem oneCell_ptrs {ns : List Nd} : ∀ u ∈ ns.map Nd.ptr, u.oneCell' = true := by
  intro u hu
  obtain ⟨n, _, rfl⟩ := List.mem_map.1 hu
  rfl

theorem kids_dud {w : World} {p : Value} (h : Dud w p) : Calls Try.prog 34 #[p] w fun e w' => e = .returned (.slice none 0 0) ∧ w' = w := by
  go_enter Try.func34, Try.ntmps34
  go_wp2_with (go_at_call 70; refine (made_dud h).mono ?_; rintro e w' ⟨rfl, rfl⟩)
  go_ret
  exact ⟨rfl, rfl⟩

/-- Kids: the pointers to the kids, in a row of the caller's own. -/
theorem kids_some (n : Nd) (w : World) (h : n.In w) (h0 : 0 < n.ht) (hl : n.kids.length ≤ 1000000) : Calls Try.prog 34 #[n.ptr] w fun e w' =>
    ∃ v', e = .returned v' ∧ w'.ownsRow w.heap.size 33 1 v' n.kids.length (n.kids.map Nd.ptr) ∧ Below w.heap.size w w' := by
  have hc := h.cells.c10
  have hm : Calls Try.prog 70 #[.pointer (some ⟨n.b, 0, none⟩)] w fun e w' => e = .returned (.bool true) ∧ w' = w := made_yes n w h h0
  have hr := h.head.2.1
  by_cases hs : n.ks = .slice none 0 0
  · have hk : n.kids = [] := by
      rcases hr.2 with ⟨_, h2⟩ | ⟨g, cap, cur, h1, _⟩
      · simpa using h2
      · rw [hs] at h1; simp at h1
    rw [hs] at hc
    rw [hk]
    clear hr hs hk
    unfold Nd.ptr
    go_enter Try.func34, Try.ntmps34
    go_wp2_with (first | (go_at_call 70; refine hm.mono ?_; rintro e w' ⟨rfl, rfl⟩) | (go_at_call 73; refine (clone_nil 0 0 _).mono ?_; rintro e w' ⟨rfl, rfl⟩))
    go_ret
    exact ⟨_, rfl, World.ownsRow_nil _ _ _ _, Below.refl _ _⟩
  · obtain ⟨g, c, h1, h2, h3, h4, h5⟩ := ownsRow_cell hr hs
    rw [h1] at hc
    have hlen : (n.kids.map Nd.ptr).length = n.kids.length := by simp
    have hcl : ∀ W, W = w → Calls Try.prog 73 #[.slice (some ⟨g, 0, none⟩) n.kids.length c] W fun e w' => ∃ v', e = .returned v' ∧ w'.ownsRow w.heap.size 33 1 v' n.kids.length (n.kids.map Nd.ptr) ∧ v' ≠ .slice none 0 0 ∧ Below w.heap.size w w' := by
      rintro W rfl
      exact clone_some ⟨g, 0, none⟩ _ c _ _ hlen (fun j u hu => by rw [Addr.add_lit, Nat.zero_add]; exact h5 j u hu) oneCell_ptrs (by omega)
    have HCL := Lib.hid hcl
    clear hr hs h1 h2 h3 h4 h5 hlen hcl
    unfold Nd.ptr
    go_enter Try.func34, Try.ntmps34
    go_wp2_with (first | (go_at_call 70; refine hm.mono ?_; rintro e w' ⟨rfl, rfl⟩) | (go_at_call 73; refine (HCL.out _ rfl).mono ?_; rintro e w' ⟨v', rfl, ho, _, hb⟩))
    go_ret
    exact ⟨v', rfl, ho, hb⟩

end Go.Proofs.Ytcjpmgfobnaoeaa
