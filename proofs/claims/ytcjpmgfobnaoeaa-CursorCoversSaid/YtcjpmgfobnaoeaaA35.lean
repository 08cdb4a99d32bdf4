/- nodes.Leaves: the tokens of a tree. -/
import Derived.Test.YtcjpmgfobnaoeaaA33
namespace Go.Proofs.Ytcjpmgfobnaoeaa
open Go.RowKit Go.Shelf
attribute [local go_sem] Oper.semAt_some

/-- The tokens of visits: kind, lead, width. -/
def tokV (v : Vs) : List (Int × Int × Int) := if v.1.pr < 0 then [(v.1.sy, v.1.ld, v.1.wd)] else []
def tokC (t : Int × Int × Int) : List Value := [.int .i64 t.1, .int .i64 t.2.1, .int .i64 t.2.2]
theorem info72 : (Try.prog.info? 72).map (fun i => (i.zero, i.size, i.bytes)) = some (some (.agg #[.int .i64 0, .int .i64 0, .int .i64 0]), 3, 24) := by kernel_rfl

/-- What holds of a node and goes down to its kids holds of all that is visited. -/
theorem preN_all {p : Nd → Prop} (hp : ∀ m, p m → ∀ k ∈ m.kids, p k) : ∀ n : Nd, p n → ∀ a d, ∀ v ∈ preN a d n, p v.1 := by
  refine Nd.ind ?_
  intro n ih h a d v hv
  have hk : ∀ l : List Nd, (∀ k ∈ l, k ∈ n.kids) → ∀ a d, ∀ v ∈ preK a d l, p v.1 := by
    intro l
    induction l with
    | nil => intro _ a d v hv; simp [preK] at hv
    | cons k ks ihl =>
      intro hl a d v hv
      rw [preK_cons] at hv
      rcases List.mem_append.1 hv with hv | hv
      · exact ih k (hl k (by simp)) (hp n h k (hl k (by simp))) a d v hv
      · exact ihl (fun m hm => hl m (by simp [hm])) _ _ v hv
  rw [preN_kids] at hv
  rcases List.mem_cons.1 hv with rfl | hv
  · exact h
  · exact hk n.kids (fun _ h => h) _ _ v hv

set_option maxRecDepth 100000 in
set_option maxHeartbeats 8000000 in
theorem leaves_call (n : Nd) (w : World) (hin : n.In w) (hwf : n.WF) (hcn : n.cnt ≤ 1000) : Calls Try.prog 42 #[n.ptr] w fun e w' =>
    ∃ v, e = .returned v ∧ w'.ownsRow w.heap.size 72 3 v ((preN 0 0 n).flatMap tokV).length (((preN 0 0 n).flatMap tokV).flatMap tokC) ∧ Below w.heap.size w w' := by
  refine (callsIn_wide (n := 3)).1 ?_
  have hb0 : ∀ W, W = (w.alloc (.cells #[.slice none 0 0] 25)).alloc (.cells #[n.ptr] 33) → Below w.heap.size w W ∧ W.heap[w.heap.size]? = some (.cells #[.slice none 0 0] 25 (0, 0)) ∧ W.heap[w.heap.size + 1]? = some (.cells #[n.ptr] 33 (0, 0)) := by
    rintro W rfl
    exact ⟨((Below.refl _ _).alloc (Nat.le_refl _) _).alloc (by simp) _, by rw [Below.heap_alloc _ _ _ (by simp)]; exact heap_alloc_new _ _, heap_new2 _ _ _⟩
  have hal := fun W => callsIn_wide (n := 2) |>.2 (all_call (some ⟨n.b, 0, none⟩) W)
  have HB := Lib.hid hb0
  have HIN := Lib.hid hin
  have HWF := Lib.hid hwf
  have HAL := Lib.hid hal
  clear hb0 hin hwf hal
  unfold Nd.ptr at HB ⊢
  refine callsIn_of_wp_marks Try.func42 rfl trivial ?_ rfl
  simp only [Try.ntmps42, List.size_toArray, List.length_cons, List.length_nil, Nat.reduceAdd, Nat.reduceSub, Array.replicate_succ, Array.replicate_zero, List.push_toArray, List.append_toArray, List.nil_append, List.cons_append]
  gi_wp2_with (first | (refine ⟨trivial, ?_⟩; gi_at_call 69; refine (HAL.out _).mono ?_; rintro e w5 ⟨rfl, h5⟩; rw [h5]; clear h5))
  obtain ⟨hb1, x0, x1⟩ := HB.out _ rfl
  have hsz1 : ((w.alloc (.cells #[.slice none 0 0] 25)).alloc (.cells #[.pointer (some ⟨n.b, 0, none⟩)] 33)).heap.size = w.heap.size + 2 := by simp
  generalize (w.alloc (.cells #[.slice none 0 0] 25)).alloc (.cells #[.pointer (some ⟨n.b, 0, none⟩)] 33) = W1 at *
  have hlen : ((preN 0 0 n).flatMap tokV).length ≤ 1000 := by
    have h : ∀ l : List Vs, (l.flatMap tokV).length ≤ l.length := by
      intro l
      induction l with
      | nil => simp
      | cons v l ih =>
        rw [List.flatMap_cons, List.length_append, List.length_cons]
        have : (tokV v).length ≤ 1 := by unfold tokV; split <;> simp
        omega
    have := h (preN 0 0 n)
    rw [preN_len] at this
    omega
  refine wpIn_rangeT (gf := 85) (lb := #[.pointer (some ⟨w.heap.size + 1, 0, none⟩)]) rfl (enters_of Try.func85 (by kernel_rfl) rfl) (all1_gives n w W1 (w.heap.size + 1) HIN.out HWF.out hcn hb1 x1) (Below.refl _ _) hb1.size (fun _ => rfl)
    (fun p Wc => ∃ tv, Wc.heap[w.heap.size]? = some (.cells #[tv] 25 (0, 0)) ∧ Wc.ownsRow w.heap.size 72 3 tv (p.flatMap tokV).length ((p.flatMap tokV).flatMap tokC) ∧ Below w.heap.size w Wc)
    (fun p X Y ⟨tv, h1, h2, h3⟩ hat => ⟨tv, hat.keep h1 (by decide), row_at h2 hat (by decide), h3.trans hat.below⟩)
    ⟨_, x0, World.ownsRow_nil _ _ _ _, hb1⟩
    (fun x a' Wc => ∃ bx, Wc.heap[bx]? = some (.cells #[.pointer (some ⟨x.1.b, 0, none⟩), .int .i64 x.2.1, .int .i64 x.2.2] 120 (0, 0)) ∧ a' = { tmps := #[((.pointer (some ⟨n.b, 0, none⟩)) : Value), undef, ((.slice none 0 0) : Value), (.pointer (some ⟨w.heap.size, 0, none⟩)), (.pointer (some ⟨bx, 0, none⟩)), undef, undef, (.pointer (some ⟨n.b, 0, none⟩)), (.func (.func 85) #[] #[.pointer (some ⟨w.heap.size + 1, 0, none⟩)]), (.agg #[.pointer (some ⟨x.1.b, 0, none⟩), .int .i64 x.2.1, .int .i64 x.2.2]), undef, undef, undef, undef, undef, undef, undef, undef, undef, undef, undef, undef], defers := [] })
    (fun x a' X Y ⟨bx, h1, h2⟩ hat => ⟨bx, hat.keep h1 (by decide), h2⟩) ?assign ?body ?done
  case assign =>
    rintro l m p x Wc ⟨tv, h1, h2, h3⟩ _ hs
    unfold visV Nd.ptr
    gi_wp2_with fail
    exact ⟨⟨Wc.heap.size, heap_alloc_new _ _, rfl⟩, KT.of_below (below_alloc _ _) (by omega), tv, (Below.heap_alloc _ _ _ (by omega)).trans h1, h2.alloc _, h3.alloc h3.size _⟩
  case body =>
    rintro l m p x rs a₁ Wc hxs ⟨tv, h1, h2, h3⟩ ⟨bx, hbx, rfl⟩
    have hmem : x ∈ preN 0 0 n := by rw [hxs]; simp
    have hwin := preN_in n HWF.out 0 0 x hmem
    have hxin : x.1.In w := preN_all (p := fun m => m.In w) (fun m hm => hm.head.2.2) n HIN.out 0 0 x hmem
    obtain ⟨L, hL⟩ : ∃ L, p.flatMap tokV = L := ⟨_, rfl⟩
    have hq : L.length ≤ 1000 := by
      rw [hxs, List.flatMap_append, List.length_append, hL] at hlen
      omega
    have HL := Lib.hid hL
    rw [hL] at h2
    clear hL
    obtain ⟨A, c, htv⟩ := row_any h2
    subst htv
    have hok := Nd.WF.ok _ hwin.wf
    have c0 : Wc.cell? ⟨bx, 0, none⟩ = some (.pointer (some ⟨x.1.b, 0, none⟩)) := cell_of_heap hbx rfl
    have hht := hok.ht1
    have H1 := Lib.hid h1
    have H2 := Lib.hid h2
    have hl1 := (Array.getElem?_eq_some_iff.1 h1).1
    by_cases hpr : x.1.pr < 0
    · have htk := CallsIn.inRound l (callsIn_wide (n := m - 1) |>.2 (token_leaf x.1 Wc (hxin.below h3) (by omega) hpr))
      have htv : tokV x = [(x.1.sy, x.1.ld, x.1.wd)] := by unfold tokV; rw [if_pos hpr]
      have HTV := Lib.hid htv
      unfold Nd.ptr at htk
      clear h1 h2 htv hwin hok hxs hmem hlen hbx
      gi_upto_region 6 with (first
        | (refine ⟨trivial, fun h => (by simp [Fence.wide] at h), ?_⟩; gi_at_call 60; refine htk.mono ?_; rintro e w2 ⟨rfl, hb2⟩))
      have hw3 : ∀ w3, w3 = w2.alloc (.cells #[.int .i64 x.1.sy, .int .i64 x.1.ld, .int .i64 x.1.wd] 72) → Below Wc.heap.size Wc w3 ∧ w3.heap[w2.heap.size]? = some (.cells #[.int .i64 x.1.sy, .int .i64 x.1.ld, .int .i64 x.1.wd] 72 (0, 0)) := by
        rintro w3 rfl
        exact ⟨hb2.alloc hb2.size _, heap_alloc_new _ _⟩
      obtain ⟨hb3, ht3⟩ := hw3 _ rfl
      generalize w2.alloc (.cells #[.int .i64 x.1.sy, .int .i64 x.1.ld, .int .i64 x.1.wd] 72) = w3 at *
      have hl3 := Nat.lt_of_lt_of_le hl1 hb3.size
      have E1 := Lib.hid ((hb3.block _ hl1).trans H1.out)
      have R2 := Lib.hid (ownsRow_of_block H2.out (w' := w3) (fun k hk => hb3.block k (H2.out.lt k hk).2))
      have f0 : w3.cell? ⟨w.heap.size, 0, none⟩ = some (.slice A L.length c) := cell_of_heap E1.out rfl
      have f1 : w3.cell? ⟨w2.heap.size, 0, none⟩ = some (.int .i64 x.1.sy) := cell_of_heap ht3 rfl
      have f2 : w3.cell? ⟨w2.heap.size, 1, none⟩ = some (.int .i64 x.1.ld) := cell_of_heap ht3 rfl
      have f3 : w3.cell? ⟨w2.heap.size, 2, none⟩ = some (.int .i64 x.1.wd) := cell_of_heap ht3 rfl
      clear hw3 ht3 htk
      gi_wp2_with (first
        | (gi_at_builtin; refine wpListIn_push rfl (.tmp 17) (.tmp 19) 25 rfl 72 _ 3 24 info72 Try.underlying25 rfl (by decide) w.heap.size (.slice A L.length c) L.length (L.flatMap tokC) rfl R2.out [.int .i64 x.1.sy, .int .i64 x.1.ld, .int .i64 x.1.wd] rfl rfl (by simp [Value.oneCell']) (by omega) (by omega) (by omega) ?_; intro g9 c9 W9 hown9 hgr9 hg9; have G9 := (hgr9.block w.heap.size (by simp; omega) (own_ne R2.out E1.out (by decide))).trans ((Below.heap_alloc _ _ _ hl3).trans E1.out); have f9 := cell_of_heap (i := 0) (v := .slice A L.length c) G9 rfl; have z9 : W9.frozen? ⟨w.heap.size, 0, none⟩ = false := frozen_of_heap G9; have HG9 := Lib.hid G9; have HOWN9 := Lib.hid hown9; have HGR9 := Lib.hid hgr9; clear G9 hown9 hgr9 hg9))
      have hbl := hb3.trans ((below_alloc w3 (.cells #[.int .i64 x.1.sy, .int .i64 x.1.ld, .int .i64 x.1.wd] 72)).mono hb3.size)
      have hbs := hbl.size
      have kt9 := (KT.of_below (T := [33, 120, 136, 3, 45]) (n₀ := w.heap.size) hbl (by omega)).grown HGR9.out (Nat.le_trans (by omega) hbs) (fun k hk => by
        obtain ⟨h1, c, h2⟩ := row_block (R2.out.alloc _) k hk
        exact ⟨by omega, c, _, _, h2, by decide⟩)
      have kt := kt9.setCell (p := ⟨w.heap.size, 0, none⟩) (Nat.le_refl _) HG9.out (by decide) (.slice (some ⟨g9, 0, none⟩) (L.length + 1) c9)
      refine ⟨kt, _, setCell_heap (i := 0) HG9.out _, ?_, h3.trans kt.below⟩
      rw [List.flatMap_append, List.flatMap_singleton, HTV.out, HL.out, List.flatMap_append, List.length_append]
      exact ownsRow_of_block HOWN9.out (fun k hk => Below.heap_setCell _ _ _ _ (fun e => own_ne HOWN9.out HG9.out (by decide) (by rw [hk]; exact congrArg some e.symm)))
    · have htk := CallsIn.inRound l (callsIn_wide (n := m - 1) |>.2 (token_node x.1 Wc (hxin.below h3) (by omega) (by omega)))
      have htv : tokV x = [] := by unfold tokV; rw [if_neg hpr]
      have HTV := Lib.hid htv
      unfold Nd.ptr at htk
      clear h1 h2 htv hwin hok hxs hmem hlen hbx
      gi_wp2_with (first
        | (refine ⟨trivial, fun h => (by simp [Fence.wide] at h), ?_⟩; gi_at_call 60; refine htk.mono ?_; rintro e w2 ⟨rfl, hb2⟩))
      have hbl := hb2.trans (((Below.refl w2.heap.size w2).alloc (Nat.le_refl _) (.cells #[.int .i64 0, .int .i64 0, .int .i64 0] 72)).mono hb2.size)
      have hn : w.heap.size ≤ Wc.heap.size := by omega
      refine ⟨KT.of_below hbl hn, _, (hbl.block _ hl1).trans H1.out, ?_, h3.trans (hbl.mono hn)⟩
      rw [List.flatMap_append, List.flatMap_singleton, HTV.out, HL.out, List.append_nil]
      exact ownsRow_of_block H2.out (fun k hk => hbl.block k (H2.out.lt k hk).2)
  case done =>
    rintro D Wc hD ⟨tv, h1, h2, h3⟩ hDW
    obtain ⟨L, hL⟩ : ∃ L, (preN 0 0 n).flatMap tokV = L := ⟨_, rfl⟩
    have HL := Lib.hid hL
    rw [hL] at h2
    clear hL
    obtain ⟨A, c, htv⟩ := row_any h2
    subst htv
    have c0 : Wc.cell? ⟨w.heap.size, 0, none⟩ = some (.slice A L.length c) := cell_of_heap h1 rfl
    have H2 := Lib.hid h2
    have HDW := Lib.hid hDW
    clear h1 h2 hDW hlen
    gi_wp2_with fail
    refine leaves_marks (T := []) (n₀ := w.heap.size) (m := w.heap.size) [D] Wc (by simp) (fun D' hD' => ?_) (fun W' hat => ⟨.slice A L.length c, (by simp [results, Try.results42, go_sem]), .slice A L.length c, rfl, (by rw [HL.out]; exact row_at H2.out hat (by simp)), h3.trans hat.below⟩)
    obtain rfl := List.mem_singleton.1 hD'
    exact ⟨by omega, by omega, HDW.out⟩

end Go.Proofs.Ytcjpmgfobnaoeaa
