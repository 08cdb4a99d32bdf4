/- Leaf; the symbols of kids held against a body. -/
import Derived.Test.YtcjpmgfobnaoeaaA6
namespace Go.Proofs.Ytcjpmgfobnaoeaa
open Go.RowKit

theorem heap_new2 (w : World) (a b : Obj) : ((w.alloc a).alloc b).heap[w.heap.size + 1]? = some b := by
  have := heap_alloc_new (w.alloc a) b
  simpa using this
theorem heap_new3 (w : World) (a b c : Obj) : (((w.alloc a).alloc b).alloc c).heap[w.heap.size + 1 + 1]? = some c := by
  have := heap_alloc_new ((w.alloc a).alloc b) c
  simpa using this

/-- Why a leaf is refused; 0: it is not. -/
def leafE (k l wd st : Int) : Int := if k < 0 ∨ 32 ≤ k ∨ st < 0 ∨ l < 0 ∨ wd < 0 then 2 else if 65536 < l ∨ 65536 - l < wd then 3 else 0

/-- A leaf's node. -/
def leafNd (g : Nat) (k l wd st : Int) (fm : Bool) : Nd := .mk g 1 (l + wd) l 1 k (-1) wd st (-1) fm (.slice none 0 0) []

set_option maxHeartbeats 1000000 in
theorem leaf_bad (k l wd st : Int) (fm : Bool) (w : World) (h : leafE k l wd st ≠ 0) : Calls Try.prog 45 #[.agg #[.int .i64 k, .int .i64 l, .int .i64 wd], .int .i64 st, .bool fm] w fun e w' =>
    e = .returned (.tuple #[.pointer none, .int .i64 (leafE k l wd st)]) ∧ Below w.heap.size w w' := by
  by_cases h2 : k < 0 ∨ 32 ≤ k ∨ st < 0 ∨ l < 0 ∨ wd < 0
  · rw [leafE, if_pos h2]
    have H := Lib.hid h2
    clear h h2
    go_enter Try.func45, Try.ntmps45
    go_wp2
    all_goals first
      | (go_ret2; exact ⟨rfl, (Below.refl _ _).alloc (Nat.le_refl _) _⟩)
      | (exfalso; have := H.out; omega)
  · have h3 : 65536 < l ∨ 65536 - l < wd := by
      unfold leafE at h
      rw [if_neg h2] at h
      by_cases h3 : 65536 < l ∨ 65536 - l < wd
      · exact h3
      · rw [if_neg h3] at h; exact absurd rfl h
    rw [leafE, if_neg h2, if_pos h3]
    have H := Lib.hid h3
    have h21 : 0 ≤ k := by omega
    have h22 : k < 32 := by omega
    have h23 : 0 ≤ st := by omega
    have h24 : 0 ≤ l := by omega
    have h25 : 0 ≤ wd := by omega
    clear h h2 h3
    go_enter Try.func45, Try.ntmps45
    go_wp2
    all_goals first
      | (go_ret2; exact ⟨rfl, (Below.refl _ _).alloc (Nat.le_refl _) _⟩)
      | (exfalso; have := H.out; omega)

theorem leaf_ok (k l wd st : Int) (fm : Bool) (w : World) (h : leafE k l wd st = 0) : Calls Try.prog 45 #[.agg #[.int .i64 k, .int .i64 l, .int .i64 wd], .int .i64 st, .bool fm] w fun e w' =>
    ∃ g, e = .returned (.tuple #[.pointer (some ⟨g, 0, none⟩), .int .i64 0]) ∧ w'.heap[g]? = some (.cells (leafNd g k l wd st fm).cs 87 (0, 0)) ∧ w.heap.size ≤ g ∧ Below w.heap.size w w' := by
  have h21 : 0 ≤ k ∧ k < 32 ∧ 0 ≤ st ∧ 0 ≤ l ∧ 0 ≤ wd ∧ l ≤ 65536 ∧ wd ≤ 65536 - l := by
    unfold leafE at h
    split at h
    · simp at h
    · split at h
      · simp at h
      · omega
  obtain ⟨h1, h2, h3, h4, h5, h6, h7⟩ := h21
  clear h
  go_enter Try.func45, Try.ntmps45
  go_wp2
  go_ret2
  refine ⟨_, rfl, ?_, ?_, ((((Below.refl _ _).alloc (Nat.le_refl _) _).alloc (by simp) _).alloc (by simp; omega) _)⟩
  · exact heap_new3 _ _ _ _
  · omega

theorem leafNd_in {g : Nat} {k l wd st : Int} {fm : Bool} {w : World} (h : w.heap[g]? = some (.cells (leafNd g k l wd st fm).cs 87 (0, 0))) : (leafNd g k l wd st fm).In w :=
  Nd.In.mk' h (World.ownsRow_nil _ _ _ _) (by intro k hk; simp [leafNd, Nd.kids] at hk)

theorem leafNd_wf {g : Nat} {k l wd st : Int} {fm : Bool} (h : leafE k l wd st = 0) : (leafNd g k l wd st fm).WF := by
  have h21 : 0 ≤ k ∧ k < 32 ∧ 0 ≤ st ∧ 0 ≤ l ∧ 0 ≤ wd ∧ l ≤ 65536 ∧ wd ≤ 65536 - l := by
    unfold leafE at h
    split at h
    · simp at h
    · split at h
      · simp at h
      · omega
  unfold leafNd Nd.WF
  refine ⟨.inl ⟨rfl, rfl, rfl, rfl, rfl, by omega, by omega, by omega, by omega, by omega, by omega, rfl⟩, ?_⟩
  unfold NdsWF
  trivial

theorem leafNd_blocks {g : Nat} {k l wd st : Int} {fm : Bool} : (leafNd g k l wd st fm).blocks = [g] := by
  simp [leafNd, Nd.blocks, NdsBlocks, Value.ownBlock]

/-! ### slices.EqualFunc at a body and kids -/
theorem symEq_call (s : Int) (n : Nd) (w : World) (h : n.In w) : Calls Try.prog 72 #[.int .i64 s, n.ptr] w fun e w' => e = .returned (.bool (n.sy == s)) ∧ w' = w := by
  have hc := h.cells.c4
  unfold Nd.ptr
  go_enter Try.func72, Try.ntmps72
  go_wp2
  go_ret
  exact ⟨rfl, rfl⟩

/-- Ints that lie in a slice. -/
def IntsAt (w : World) (v : Value) (xs : List Int) : Prop := ∃ a c, v = .slice a xs.length c ∧ ∀ j (h : j < xs.length), ∃ b o, a = some ⟨b, o, none⟩ ∧ w.cell? ⟨b, o + j, none⟩ = some (.int .i64 xs[j])
/-- Pointers that lie in a slice. -/
def PtrsAt (w : World) (v : Value) (ns : List Nd) : Prop := ∃ a c, v = .slice a ns.length c ∧ ∀ j (h : j < ns.length), ∃ b o, a = some ⟨b, o, none⟩ ∧ w.cell? ⟨b, o + j, none⟩ = some (ns[j]).ptr

set_option maxHeartbeats 1000000 in
theorem eqSyms_call (v u : Value) (xs : List Int) (ns : List Nd) (w : World) (hv : IntsAt w v xs) (hu : PtrsAt w u ns) (hn : ∀ n ∈ ns, n.In w) (hl : xs.length ≤ 1000000) (_ : ns.length ≤ 1000000) :
    Calls Try.prog 71 #[v, u, .func (.func 72) #[] #[]] w fun e w' => e = .returned (.bool (decide (xs = ns.map Nd.sy))) ∧ w' = w := by
  obtain ⟨a, c, rfl, hx⟩ := hv
  obtain ⟨a2, c2, rfl, hy⟩ := hu
  have HX := Lib.hid hx
  have HY := Lib.hid hy
  have HN := Lib.hid hn
  clear hx hy hn
  by_cases h0 : xs.length = ns.length
  · have hq : (xs.length : Int) = (ns.length : Int) := by omega
    have hq2 : ((xs.length : Int) != (ns.length : Int)) = false := by simp [h0]
    have HQ := Lib.hid h0
    clear h0 hq
    go_enter Try.func71, Try.ntmps71
    go_wp2
    go_loop [17] (fun iv => ∃ i : Nat, iv = .int .i64 i ∧ i ≤ xs.length ∧ Hid (xs.take i = (ns.map Nd.sy).take i)) (fun iv => xs.length - (intOf iv).toNat)
    case atStart => exact ⟨0, rfl, by omega, by simp [Hid]⟩
    case round =>
      obtain ⟨i, rfl, hi, HI⟩ := hrel
      by_cases hlt : i < xs.length
      · have hlt2 : i < ns.length := by have := HQ.out; omega
        obtain ⟨b1, o1, rfl, hc1⟩ := HX.out i hlt
        obtain ⟨b2, o2, rfl, hc2⟩ := HY.out i hlt2
        obtain ⟨x, hx⟩ : ∃ x, x = xs[i] := ⟨_, rfl⟩
        obtain ⟨n, hn⟩ : ∃ n, n = ns[i] := ⟨_, rfl⟩
        rw [← hx] at hc1
        rw [← hn] at hc2
        have hnin : n.In w := HN.out n (by rw [hn]; exact List.getElem_mem hlt2)
        have hc2' : w.cell? ⟨b2, o2 + i, none⟩ = some (.pointer (some ⟨n.b, 0, none⟩)) := hc2
        have HXI := Lib.hid hx
        have HNI := Lib.hid hn
        have HIN := Lib.hid hnin
        have hltI : (i : Int) < (xs.length : Int) := by omega
        have hltI2 : (i : Int) < (ns.length : Int) := by omega
        clear hx hn hnin hc2
        by_cases he : n.sy = x
        · have hcall : Calls Try.prog 72 #[.int .i64 x, .pointer (some ⟨n.b, 0, none⟩)] w fun e w' => e = .returned (.bool true) ∧ w' = w := by
            have := symEq_call x n w HIN.out
            rw [show (n.sy == x) = true by simpa using he] at this
            exact this
          have HE := Lib.hid he
          clear he
          go_wp2_with (go_at_call 72; refine hcall.mono ?_; rintro e w' ⟨rfl, rfl⟩)
          go_round
          case rel =>
            refine ⟨i + 1, by go_num, by omega, ?_⟩
            have h1 := HI.out
            have h2 := HE.out
            rw [HXI.out, HNI.out] at h2
            show xs.take (i + 1) = (ns.map Nd.sy).take (i + 1)
            rw [List.take_succ_eq_append_getElem hlt, List.take_succ_eq_append_getElem (by simpa using hlt2), h1, ← h2]
            simp
          case measure => simp [intOf]; omega
        · have hcall : Calls Try.prog 72 #[.int .i64 x, .pointer (some ⟨n.b, 0, none⟩)] w fun e w' => e = .returned (.bool false) ∧ w' = w := by
            have := symEq_call x n w HIN.out
            rw [show (n.sy == x) = false by simpa using he] at this
            exact this
          have HE := Lib.hid he
          clear he
          go_wp2_with (go_at_call 72; refine hcall.mono ?_; rintro e w' ⟨rfl, rfl⟩)
          go_ret
          refine ⟨ret_bool ?_, rfl⟩
          symm
          rw [decide_eq_false_iff_not]
          intro h
          have h2 := HE.out
          rw [HXI.out, HNI.out] at h2
          apply h2
          have : xs[i] = (ns.map Nd.sy)[i]'(by simpa using hlt2) := by simp only [h]
          rw [this]
          simp
      · have hge : ¬ ((i : Int) < (xs.length : Int)) := by omega
        have HE := Lib.hid (show xs = ns.map Nd.sy by
          have := HI.out
          rw [List.take_of_length_le (by omega), List.take_of_length_le (by simp; have := HQ.out; omega)] at this
          exact this)
        clear HI
        go_wp2
        go_ret
        exact ⟨ret_bool (by rw [decide_eq_true HE.out]), rfl⟩
  · have hq2 : ((xs.length : Int) != (ns.length : Int)) = true := by simp; omega
    have HQ := Lib.hid h0
    clear h0
    go_enter Try.func71, Try.ntmps71
    go_wp2
    go_ret
    refine ⟨ret_bool ?_, rfl⟩
    symm
    rw [decide_eq_false_iff_not]
    intro h
    exact HQ.out (by rw [h]; simp)
end Go.Proofs.Ytcjpmgfobnaoeaa
