/- The leaf that the builder makes. -/
import Derived.Test.YtcjpmgfobnaoeaaA7
import Derived.Test.YtcjpmgfobnaoeaaA10
import Derived.Test.YtcjpmgfobnaoeaaA12
import Derived.Test.YtcjpmgfobnaoeaaA13
namespace Go.Proofs.Ytcjpmgfobnaoeaa
open Go.RowKit

theorem leafP_err {k l wd st : Int} {fm : Bool} (h : leafE k l wd st ≠ 0) : leafP k l wd st fm = .error (leafE k l wd st) := by
  unfold leafP leafE at *
  split
  · rfl
  · rename_i h1
    rw [if_neg h1] at h
    split
    · rfl
    · rename_i h2; rw [if_neg h2] at h; exact absurd rfl h
theorem leafP_ok {g : Nat} {k l wd st : Int} {fm : Bool} (h : leafE k l wd st = 0) : leafP k l wd st fm = .ok (leafNd g k l wd st fm).plain := by
  unfold leafP
  unfold leafE at h
  split at h
  · simp at h
  · rename_i h1
    split at h
    · simp at h
    · rename_i h2
      rw [if_neg h1, if_neg h2]
      rfl

theorem sums_plain {kids : List Nd} (h : ∀ k ∈ kids, k.WF) : sumTk kids = (PnsLeaves (kids.map Nd.plain)).length ∧ sumBt kids = bytesOf (PnsLeaves (kids.map Nd.plain)) := by
  induction kids with
  | nil => simp [sumTk, sumBt, PnsLeaves, bytesOf]
  | cons k ks ih =>
    obtain ⟨a1, a2⟩ := ih fun x hx => h x (by simp [hx])
    obtain ⟨b1, b2, _, _⟩ := (Nd.WF.adds k) (h k (by simp))
    simp only [List.map_cons]
    unfold PnsLeaves
    rw [sumTk_cons, sumBt_cons, bytesOf_append, List.length_append]
    refine ⟨by omega, ?_⟩
    rw [a2, b2]
    rfl

theorem map_plain_sy (kids : List Nd) : (kids.map Nd.plain).map Pn.sy = kids.map Nd.sy := by
  rw [List.map_map]
  apply List.map_congr_left
  intro n _
  exact plain_sy n

theorem makeP_err {head : Int} {body : List Int} {prod st lk : Int} {fm : Bool} {kids : List Nd} (hw : ∀ k ∈ kids, k.WF) (h : makeE head body prod st lk kids ≠ 0) : makeP head body prod st lk fm (kids.map Nd.plain) = .error (makeE head body prod st lk kids) := by
  obtain ⟨h1, h2⟩ := sums_plain hw
  unfold makeP makeE at *
  rw [map_plain_sy, ← h1, ← h2]
  split
  · rfl
  · rename_i g1
    rw [if_neg g1] at h
    split
    · rfl
    · rename_i g2
      rw [if_neg g2] at h
      split
      · rfl
      · rename_i g3
        rw [if_neg g3] at h
        exact absurd rfl h
theorem makeP_ok {g : Nat} {ks : Value} {head : Int} {body : List Int} {prod st lk : Int} {fm : Bool} {kids : List Nd} (hw : ∀ k ∈ kids, k.WF) (h : makeE head body prod st lk kids = 0) :
    makeP head body prod st lk fm (kids.map Nd.plain) = .ok (makeNd g ks head prod st lk fm kids).plain := by
  obtain ⟨h1, h2⟩ := sums_plain hw
  unfold makeP
  unfold makeE at h
  rw [map_plain_sy, ← h1, ← h2]
  split at h
  · simp at h
  · rename_i g1
    split at h
    · simp at h
    · rename_i g2
      split at h
      · simp at h
      · rename_i g3
        rw [if_neg g1, if_neg g2, if_neg g3]
        unfold makeNd
        rw [Nd.plain_eq]
        have hp : ¬ prod < 0 := by omega
        simp [Nd.sy, Nd.pr, Nd.wd, Nd.st, Nd.lk, Nd.fm, Nd.kids, hp]

theorem makeNd_in {g : Nat} {ks : Value} {head prod st lk : Int} {fm : Bool} {kids : List Nd} {w : World} {B : Nat} (h : w.heap[g]? = some (.cells (makeNd g ks head prod st lk fm kids).cs 87 (0, 0))) (hk : w.ownsRow B 33 1 ks kids.length (kids.map Nd.ptr)) (hi : ∀ k ∈ kids, k.In w) :
    (makeNd g ks head prod st lk fm kids).In w := Nd.In.mk' h (ownsRow_base hk (Nat.zero_le _)) hi

theorem makeNd_wf {g : Nat} {ks : Value} {head : Int} {body : List Int} {prod st lk : Int} {fm : Bool} {kids : List Nd} (hw : ∀ k ∈ kids, k.WF) (h : makeE head body prod st lk kids = 0) : (makeNd g ks head prod st lk fm kids).WF := by
  unfold makeE at h
  split at h
  · simp at h
  · rename_i g1
    split at h
    · simp at h
    · rename_i g2
      split at h
      · simp at h
      · rename_i g3
        unfold makeNd Nd.WF
        refine ⟨.inr ⟨by omega, ?_, rfl, rfl, rfl, rfl, rfl, by omega, by omega, by omega, by omega, by omega⟩, NdsWF_iff.2 hw⟩
        intro e
        subst e
        simp at g2
        exact g1 (by simp [g2])

theorem makeNd_blocks {g : Nat} {ks : Value} {head prod st lk : Int} {fm : Bool} {kids : List Nd} {B : Nat} (hg : B ≤ g) (hk : ∀ k, ks.ownBlock = some k → B ≤ k) (hb : ∀ n ∈ kids, ∀ k ∈ n.blocks, B ≤ k) : ∀ k ∈ (makeNd g ks head prod st lk fm kids).blocks, B ≤ k := by
  intro k hk'
  unfold makeNd at hk'
  rw [Nd.blocks_eq] at hk'
  simp only [Nd.b, Nd.ks, Nd.kids, List.mem_cons, List.mem_append, Option.mem_toList] at hk'
  rcases hk' with rfl | h | h
  · exact hg
  · exact hk k h
  · obtain ⟨n, h1, h2⟩ := mem_NdsBlocks.1 h
    exact hb n h1 k h2

theorem ints_at {w : World} {B : Nat} {v : Value} {xs : List Int} (h : w.ownsRow B 3 1 v xs.length (ints xs)) : IntsAt w v xs := by
  obtain ⟨a, c, rfl, hc⟩ := ownsRow_any h
  refine ⟨a, c, rfl, fun j hj => ?_⟩
  obtain ⟨g, h1, _, _, h2⟩ := hc j (.int .i64 xs[j]) (by simp [ints, hj])
  exact ⟨g, 0, h1, by rw [Nat.zero_add]; exact h2⟩
theorem ptrs_at {w : World} {B : Nat} {v : Value} {ns : List Nd} (h : w.ownsRow B 33 1 v ns.length (ns.map Nd.ptr)) : PtrsAt w v ns := by
  obtain ⟨a, c, rfl, hc⟩ := ownsRow_any h
  refine ⟨a, c, rfl, fun j hj => ?_⟩
  obtain ⟨g, h1, _, _, h2⟩ := hc j (ns[j]).ptr (by simp [hj])
  exact ⟨g, 0, h1, by rw [Nat.zero_add]; exact h2⟩

/-- What the builder leaves. -/
def NodeSays (g : Nat) (S P : Int) (KV tv sv : Value) (r : Except Int Pn × Nat × Nat) (cnt : Nat) (w : World) (e : Ending) (w' : World) : Prop :=
  w.grownBy w' (some g) ∧ w'.heap[g]? = some (.cells (bcells S P KV tv sv r.2.1 r.2.2) 91 (0, 0)) ∧
  ((∃ x, r.1 = .error x ∧ x ≠ 0 ∧ e = .returned (.tuple #[.pointer none, .int .i64 x])) ∨
   (∃ n : Nd, r.1 = .ok n.plain ∧ e = .returned (.tuple #[n.ptr, .int .i64 0]) ∧ n.In w' ∧ n.WF ∧ n.ht ≤ cnt ∧ n.cnt ≤ cnt ∧ ∀ k ∈ n.blocks, w.heap.size ≤ k))

theorem grown_block_lt {w w' : World} {g k : Nat} (h : w.grownBy w' (some g)) (hk : k < w.heap.size) : k < w'.heap.size := Nat.lt_of_lt_of_le hk h.size

theorem leaf_case (g : Nat) (S P : Int) (KV tv sv : Value) (tks : List (Int × Int × Int)) (sts : List (Int × Int × Bool)) (s p : Int) (a : Option Addr) (c lv md : Nat) (w : World)
    (hg : w.heap[g]? = some (.cells (bcells S P KV tv sv lv md) 91 (0, 0))) (htv : SlcAt g w 3 tv (tks.map tkCells)) (hsv : SlcAt g w 3 sv (sts.map stCells)) (hlv : lv ≤ 1000000) (hmd : md ≤ 1000000) :
    Calls Try.prog 65 #[.pointer (some ⟨g, 0, none⟩), .agg #[.int .i64 s, .int .i64 p, .slice a 0 c]] w
      (NodeSays g S P KV tv sv (leafP s (leadP tks lv).1 (leadP tks lv).2 (stampP sts md).1 (stampP sts md).2.2, lv + 1, md + 1) 1 w) := by
  have lg : g < w.heap.size := (Array.getElem?_eq_some_iff.1 hg).1
  have hst : ∀ W, Below w.heap.size w W → Calls Try.prog 80 #[.pointer (some ⟨g, 0, none⟩)] W fun e w' => e = .returned (.agg #[.int .i64 (stampP sts md).1, .int .i64 (stampP sts md).2.1, .bool (stampP sts md).2.2]) ∧
      w'.heap[g]? = some (.cells (bcells S P KV tv sv lv (md + 1)) 91 (0, 0)) ∧ W.grownBy w' (some g) := fun W hW =>
    stamp_call g g S P KV tv sv lv md sts W (by rw [hW.block g lg]; exact hg) (hsv.keep (hW.mono (by omega))) hmd
  have htk : ∀ W W2, Below w.heap.size w W → W2.heap[g]? = some (.cells (bcells S P KV tv sv lv (md + 1)) 91 (0, 0)) → W.grownBy W2 (some g) → Calls Try.prog 81 #[.pointer (some ⟨g, 0, none⟩), .int .i64 s] W2 fun e w' =>
      e = .returned (.agg #[.int .i64 s, .int .i64 (leadP tks lv).1, .int .i64 (leadP tks lv).2]) ∧ w'.heap[g]? = some (.cells (bcells S P KV tv sv (lv + 1) (md + 1)) 91 (0, 0)) ∧ W2.grownBy w' (some g) := fun W W2 hW h1 h2 =>
    token_call g g S P s KV tv sv lv (md + 1) tks W2 h1 (htv.keep ((hW.mono (by omega)).trans (below_gb h2 (Nat.le_refl _) (by have := hW.size; omega)))) hlv
  generalize (stampP sts md) = x at *
  generalize (leadP tks lv) = y at *
  have HST := Lib.hid hst
  have HTK := Lib.hid htk
  have e0 := below_alloc w (.cells #[.int .i64 s, .int .i64 p, .slice a 0 c] 24)
  have e1 : (w.alloc (.cells #[.int .i64 s, .int .i64 p, .slice a 0 c] 24)).heap[w.heap.size]? = some (.cells #[.int .i64 s, .int .i64 p, .slice a 0 c] 24 (0, 0)) := heap_alloc_new _ _
  have E1 := Lib.hid e1
  clear hg htv hsv hst htk e1
  go_enter Try.func65, Try.ntmps65
  go_wp2_with (go_at_call 80; refine (HST.out _ e0).mono ?_; rintro e w1 ⟨rfl, hg1, hb1⟩)
  have hb2 : (w.alloc (.cells #[.int .i64 s, .int .i64 p, .slice a 0 c] 24)).grownBy (w1.alloc (.cells #[.int .i64 x.1, .int .i64 x.2.1, .bool x.2.2] 57)) (some g) := gb_alloc hb1 _
  have hs1 := hb1.size
  rw [World.size_alloc] at hs1
  have hg2 : (w1.alloc (.cells #[.int .i64 x.1, .int .i64 x.2.1, .bool x.2.2] 57)).heap[g]? = some (.cells (bcells S P KV tv sv lv (md + 1)) 91 (0, 0)) := (Below.heap_alloc _ _ _ (by omega)).trans hg1
  have hx2 : (w1.alloc (.cells #[.int .i64 x.1, .int .i64 x.2.1, .bool x.2.2] 57)).heap[w1.heap.size]? = some (.cells #[.int .i64 x.1, .int .i64 x.2.1, .bool x.2.2] 57 (0, 0)) := heap_alloc_new _ _
  have ht2 : (w1.alloc (.cells #[.int .i64 x.1, .int .i64 x.2.1, .bool x.2.2] 57)).heap[w.heap.size]? = some (.cells #[.int .i64 s, .int .i64 p, .slice a 0 c] 24 (0, 0)) := (hb2.block _ (by simp) (fun e => by simp at e; omega)).trans E1.out
  have hsz : w1.heap.size < (w1.alloc (.cells #[.int .i64 x.1, .int .i64 x.2.1, .bool x.2.2] 57)).heap.size := by simp
  generalize w1.alloc (.cells #[.int .i64 x.1, .int .i64 x.2.1, .bool x.2.2] 57) = W2 at *
  have q0 : W2.cell? ⟨w.heap.size, 0, none⟩ = some (.int .i64 s) := cell_of_heap ht2 rfl
  have q1 : W2.cell? ⟨w1.heap.size, 0, none⟩ = some (.int .i64 x.1) := cell_of_heap hx2 rfl
  have q2 : W2.cell? ⟨w1.heap.size, 2, none⟩ = some (.bool x.2.2) := cell_of_heap hx2 rfl
  have HX := Lib.hid (And.intro hg2 (And.intro hx2 ht2))
  have hgw : w.grownBy W2 (some g) := gb_trans (gb_alloc (gb_refl _ _) _) hb2
  clear hg2 hx2 ht2 hg1 hb1
  by_cases h0 : leafE s y.1 y.2 x.1 = 0
  · have H0 := Lib.hid h0
    clear h0
    go_region_held3 (fun W => W.cell? ⟨w.heap.size, 0, none⟩ = some (.int .i64 s) ∧ W.cell? ⟨w1.heap.size, 0, none⟩ = some (.int .i64 x.1) ∧ W.cell? ⟨w1.heap.size, 2, none⟩ = some (.bool x.2.2))
      (first | exact ⟨q0, q1, q2⟩ | exact ⟨q0', q1', q2'⟩ | exact ⟨q0'', q1'', q2''⟩)
      (first
        | (go_at_call 81; refine (HTK.out _ W2.drew e0 HX.out.1 (gb_drew hb2)).mono ?_; rintro e w3 ⟨rfl, hg3, hb3⟩; have q0' := hb3.cell (a := ⟨w.heap.size, 0, none⟩) q0 (fun e => by simp at e; omega); have q1' := hb3.cell (a := ⟨w1.heap.size, 0, none⟩) q1 (fun e => by simp at e; omega); have q2' := hb3.cell (a := ⟨w1.heap.size, 2, none⟩) q2 (fun e => by simp at e; omega))
        | (go_at_call 45; refine (leaf_ok _ _ _ _ _ _ H0.out).mono ?_; rintro e w4 ⟨g5, rfl, hg5, hl5, hb5⟩; have q0'' := (hb5.cell (World.block_lt_of_cell? _ _ q0')).trans q0'; have q1'' := (hb5.cell (World.block_lt_of_cell? _ _ q1')).trans q1'; have q2'' := (hb5.cell (World.block_lt_of_cell? _ _ q2')).trans q2'))
    go_wp2_with fail
    have hgw' := gb_below (gb_trans (gb_drew hgw) hb3) hb5
    refine bodyPost_ret (v := .tuple #[.pointer (some ⟨g5, 0, none⟩), .int .i64 0]) (by simp [results, Try.results65, go_sem]) rfl ⟨hgw', (hb5.block g (Nat.lt_of_lt_of_le lg (Nat.le_trans hgw.size hb3.size))).trans hg3, .inr ⟨leafNd g5 s y.1 y.2 x.1 x.2.2, leafP_ok H0.out, rfl, leafNd_in hg5, leafNd_wf H0.out, ?_, ?_, ?_⟩⟩
    · simp [leafNd, Nd.ht]
    · simp [leafNd, Nd.cnt, NdsCnt]
    · rw [leafNd_blocks]
      intro k hk
      simp at hk
      subst hk
      exact Nat.le_trans (Nat.le_trans hgw.size hb3.size) hl5
  · have H0 := Lib.hid h0
    clear h0
    go_region_held3 (fun W => W.cell? ⟨w.heap.size, 0, none⟩ = some (.int .i64 s) ∧ W.cell? ⟨w1.heap.size, 0, none⟩ = some (.int .i64 x.1) ∧ W.cell? ⟨w1.heap.size, 2, none⟩ = some (.bool x.2.2))
      (first | exact ⟨q0, q1, q2⟩ | exact ⟨q0', q1', q2'⟩ | exact ⟨q0'', q1'', q2''⟩)
      (first
        | (go_at_call 81; refine (HTK.out _ W2.drew e0 HX.out.1 (gb_drew hb2)).mono ?_; rintro e w3 ⟨rfl, hg3, hb3⟩; have q0' := hb3.cell (a := ⟨w.heap.size, 0, none⟩) q0 (fun e => by simp at e; omega); have q1' := hb3.cell (a := ⟨w1.heap.size, 0, none⟩) q1 (fun e => by simp at e; omega); have q2' := hb3.cell (a := ⟨w1.heap.size, 2, none⟩) q2 (fun e => by simp at e; omega))
        | (go_at_call 45; refine (leaf_bad _ _ _ _ _ _ H0.out).mono ?_; rintro e w4 ⟨rfl, hb5⟩; have q0'' := (hb5.cell (World.block_lt_of_cell? _ _ q0')).trans q0'; have q1'' := (hb5.cell (World.block_lt_of_cell? _ _ q1')).trans q1'; have q2'' := (hb5.cell (World.block_lt_of_cell? _ _ q2')).trans q2'))
    go_wp2_with fail
    have hgw' := gb_below (gb_trans (gb_drew hgw) hb3) hb5
    exact bodyPost_ret (v := .tuple #[.pointer none, .int .i64 (leafE s y.1 y.2 x.1)]) (by simp [results, Try.results65, go_sem]) rfl ⟨hgw', (hb5.block g (Nat.lt_of_lt_of_le lg (Nat.le_trans hgw.size hb3.size))).trans hg3, .inl ⟨_, leafP_err H0.out, H0.out, rfl⟩⟩

end Go.Proofs.Ytcjpmgfobnaoeaa
