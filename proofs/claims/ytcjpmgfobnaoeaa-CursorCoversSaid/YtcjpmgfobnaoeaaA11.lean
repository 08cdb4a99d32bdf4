/- How many nodes a tree has. -/
import Derived.Test.YtcjpmgfobnaoeaaA8
import Derived.BigRegion
namespace Go.Proofs.Ytcjpmgfobnaoeaa
open Go.RowKit

/-! ### How many nodes a tree has -/
mutual
/-- How many nodes a tree has, gone through no further than to more than 'most'. -/
def ndsT (most : Int) : Tr → Int
  | .mk _ _ kids => ndsL most 1 kids
def ndsL (most : Int) (n : Int) : List Tr → Int
  | [] => n
  | t :: ts => if n ≤ most then ndsL most (n + ndsT (most - n) t) ts else n
end
mutual
def Tr.cnt : Tr → Nat
  | .mk _ _ kids => 1 + TrsCnt kids
def TrsCnt : List Tr → Nat
  | [] => 0
  | t :: ts => t.cnt + TrsCnt ts
end

theorem Tr.ind {p : Tr → Prop} (h : ∀ t : Tr, (∀ k ∈ t.kids, p k) → p t) : ∀ t : Tr, p t := by
  intro t
  refine Tr.rec (motive_1 := p) (motive_2 := fun l => ∀ k ∈ l, p k) ?_ ?_ ?_ t
  · intro s r kids ih
    exact h _ ih
  · intro k hk
    simp at hk
  · intro n ns h1 h2 k hk
    rcases List.mem_cons.1 hk with rfl | hk
    · exact h1
    · exact h2 k hk

theorem ndsT_eq (most : Int) (t : Tr) : ndsT most t = ndsL most 1 t.kids := by cases t; rfl
theorem Tr.cnt_eq (t : Tr) : t.cnt = 1 + TrsCnt t.kids := by cases t; rfl

mutual
theorem ndsT_is : ∀ (t : Tr) (most : Int), 0 ≤ most → ndsT most t = min (t.cnt : Int) (most + 1)
  | .mk _ _ kids, most, h => by
    unfold ndsT Tr.cnt
    rw [ndsL_is kids most 1 h (by omega) (by omega)]
    omega
theorem ndsL_is : ∀ (ts : List Tr) (most n : Int), 0 ≤ most → 0 ≤ n → n ≤ most + 1 → ndsL most n ts = min (n + TrsCnt ts) (most + 1)
  | [], most, n, h, h0, h1 => by unfold ndsL TrsCnt; omega
  | t :: ts, most, n, h, h0, h1 => by
    unfold ndsL TrsCnt
    split
    · have h2 := ndsT_is t (most - n) (by omega)
      rw [ndsL_is ts most (n + ndsT (most - n) t) h (by omega) (by omega), h2]
      omega
    · omega
end

theorem ret_int' {a b : Int} (h : a = b) : Ending.returned (.int .i64 a) = .returned (.int .i64 b) := by rw [h]

theorem TrsCnt_drop {l : List Tr} {i : Nat} : TrsCnt (l.drop i) ≤ TrsCnt l := by
  induction l generalizing i with
  | nil => simp
  | cons t ts ih =>
    cases i with
    | zero => simp
    | succ i => simp only [List.drop_succ_cons]; have := ih (i := i); simp only [TrsCnt]; omega

theorem Tr.At.len {B : Nat} {w : World} {kv : Value} {t : Tr} (h : Tr.At B w kv t) : ∃ a c, kv = .slice a t.kids.length c ∧ TrsAt B w a 0 t.kids := by
  cases t with
  | mk s p kids => unfold Tr.At at h; obtain ⟨a, c, h1, _, h3⟩ := h; exact ⟨a, c, h1, h3⟩

set_option maxHeartbeats 2000000 in
theorem nodes_any (B : Nat) (t : Tr) : ∀ (kv : Value) (most : Int) (w : World), t.At B w kv → B ≤ w.heap.size → 0 ≤ most → most ≤ 1000000 →
    Calls Try.prog 63 #[.agg #[.int .i64 t.sy, .int .i64 t.pr, kv], .int .i64 most] w fun e w' => e = .returned (.int .i64 (ndsT most t)) ∧ Below w.heap.size w w' := by
  revert t
  refine Tr.ind ?_
  intro t ih kv most w hat hB h0 h1
  obtain ⟨a, c, rfl, hts⟩ := hat.len
  have IH := Lib.hid ih
  have HTS := Lib.hid hts
  have e0 : (w.alloc (.cells #[.int .i64 t.sy, .int .i64 t.pr, .slice a t.kids.length c] 24)).heap[w.heap.size]? = some (.cells #[.int .i64 t.sy, .int .i64 t.pr, .slice a t.kids.length c] 24 (0, 0)) := heap_alloc_new _ _
  have eb := below_alloc w (.cells #[.int .i64 t.sy, .int .i64 t.pr, .slice a t.kids.length c] 24)
  have E0 := Lib.hid e0
  clear ih hts hat e0
  go_enter Try.func63, Try.ntmps63
  go_wp2_with fail
  go_loopg [5, 6] t.kids.length (fun gi nv iv wx => ∃ (i : Nat) (n : Int), nv = .int .i64 n ∧ iv = .int .i64 i ∧ i + gi = t.kids.length ∧ Below w.heap.size w wx ∧ wx.heap[w.heap.size]? = some (.cells #[.int .i64 t.sy, .int .i64 t.pr, .slice a t.kids.length c] 24 (0, 0)) ∧
      Hid (ndsL most n (t.kids.drop i) = ndsT most t ∧ (i : Int) + 1 ≤ n ∧ n ≤ most + 1))
  case atStart => exact ⟨0, 1, rfl, rfl, by omega, eb, E0.out, by rw [List.drop_zero, ndsT_eq], by omega, by omega⟩
  case round =>
    obtain ⟨i, n, rfl, rfl, hi, hbx, hx, HI⟩ := hrel
    have x2 : wr.cell? ⟨w.heap.size, 2, none⟩ = some (.slice a t.kids.length c) := cell_of_heap hx rfl
    have HX := Lib.hid hx
    have hi1 := HI.out.2.1
    have hi2 := HI.out.2.2
    clear hx
    by_cases hlt : i < t.kids.length
    · by_cases hn : n ≤ most
      · obtain ⟨b, o, kvi, rfl, hb, q0, q1, q2, hati⟩ := HTS.out.get i hlt
        have hdrop := drop_cons hlt
        obtain ⟨kd, hkd⟩ : ∃ kd, kd = t.kids[i] := ⟨_, rfl⟩
        rw [← hkd] at hdrop q0 q1 hati
        have hmem : kd ∈ t.kids := by rw [hkd]; exact List.getElem_mem hlt
        rw [Nat.zero_add] at q0 q1 q2
        have hbw : b < w.heap.size := by omega
        have d0 : wr.cell? ⟨b, o + i * 3, none⟩ = some (.int .i64 kd.sy) := (hbx.cell (p := ⟨b, _, none⟩) hbw).trans q0
        have d1 : wr.cell? ⟨b, o + i * 3 + 1, none⟩ = some (.int .i64 kd.pr) := (hbx.cell (p := ⟨b, _, none⟩) hbw).trans q1
        have d2 : wr.cell? ⟨b, o + i * 3 + 2, none⟩ = some kvi := (hbx.cell (p := ⟨b, _, none⟩) hbw).trans q2
        have hati' : kd.At B wr kvi := hati.keep (hbx.mono hB)
        have HC := Lib.hid (IH.out kd hmem kvi (most - n) wr hati' (Nat.le_trans hB hbx.size) (by omega) (by omega))
        have hle := ndsT_is kd (most - n) (by omega)
        have hcp : 1 ≤ kd.cnt := by rw [Tr.cnt_eq]; omega
        have hr1 : 1 ≤ ndsT (most - n) kd := by omega
        have hr2 : ndsT (most - n) kd ≤ most - n + 1 := by omega
        obtain ⟨akd, ckd, rfl, _⟩ := hati.len
        have HDR := Lib.hid hdrop
        have hltI : (i : Int) < (t.kids.length : Int) := by omega
        clear q0 q1 q2 hati hati' hdrop hkd hmem hle hcp
        go_wp2_with (go_at_call 63; refine HC.out.mono ?_; rintro e w2 ⟨rfl, hb2⟩)
        go_roundg (gk - 1)
        case measure => omega
        case rel =>
          refine ⟨i + 1, n + ndsT (most - n) kd, rfl, by go_num, by omega, hbx.trans (hb2.mono hbx.size), ?_, ?_, by omega, by omega⟩
          · rw [hb2.block _ (Array.getElem?_eq_some_iff.1 HX.out).1]; exact HX.out
          · have h2 := HI.out.1
            rw [HDR.out] at h2
            unfold ndsL at h2
            rw [if_pos hn] at h2
            exact h2
      · have hn' : most < n := by omega
        have HN := Lib.hid hn
        have hltI : (i : Int) < (t.kids.length : Int) := by omega
        have HRES := Lib.hid (show n = ndsT most t by
          have h2 := HI.out.1
          rw [drop_cons hlt] at h2
          unfold ndsL at h2
          rw [if_neg hn] at h2
          exact h2)
        clear hn
        go_wp2_with fail
        go_ret
        exact ⟨ret_int' HRES.out, hbx⟩
    · have hge : ¬ ((i : Int) < (t.kids.length : Int)) := by omega
      have HRES := Lib.hid (show n = ndsT most t by
        have h2 := HI.out.1
        rw [List.drop_of_length_le (by omega)] at h2
        unfold ndsL at h2
        exact h2)
      go_wp2_with fail
      go_ret
      exact ⟨ret_int' HRES.out, hbx⟩

end Go.Proofs.Ytcjpmgfobnaoeaa
