/- FindTells: the walk. -/
import Derived.Test.YtcjpmgfobnaoeaaA38
import Derived.Test.YtcjpmgfobnaoeaaA29
namespace Go.Proofs.Ytcjpmgfobnaoeaa
open Go.RowKit

theorem sp_eq (s : Sp) : (s.sy == s.sy && (s.pr == s.pr && ((s.fa == s.fa && (s.fz == s.fz)) && (s.dp == s.dp)))) = true := by simp

attribute [local irreducible] Calls
set_option maxRecDepth 100000 in
set_option maxHeartbeats 8000000 in
theorem findTells_walk (d : Dt) (v : Value) (at' : Int) (w : World) (hd : d.At w.heap.size w v) :
    Calls Try.prog 12 #[v, .int .i64 at'] w fun e w' => e = .returned (.bool true) ∧ Below w.heap.size w w' := by
  have hd' := hd
  obtain ⟨kv, tv, sv, rfl, _, _, _⟩ := hd'
  have hW : ∀ W, W = w.alloc (.cells #[.int .i64 d.tree.sy, .int .i64 d.tree.pr, kv, tv, sv] 28) → Below w.heap.size w W ∧
      W.heap[w.heap.size]? = some (.cells #[.int .i64 d.tree.sy, .int .i64 d.tree.pr, kv, tv, sv] 28 (0, 0)) := by
    rintro W rfl
    exact ⟨below_alloc _ _, heap_alloc_new _ _⟩
  have HW := Lib.hid hW
  have HD := Lib.hid hd
  clear hW hd
  go_enter Try.func12, Try.ntmps12
  apply wp_seq_k
  intro K1 k1
  have H1 := Lib.hid k1
  clear k1
  go_wp2_with fail
  refine H1.out _ _ ?_
  clear H1 K1
  obtain ⟨hB, hx2⟩ := HW.out _ rfl
  generalize w.alloc (.cells #[.int .i64 d.tree.sy, .int .i64 d.tree.pr, kv, tv, sv] 28) = W at *
  have p0 : W.cell? ⟨w.heap.size, 0, none⟩ = some (.int .i64 d.tree.sy) := cell_of_heap hx2 rfl
  have p1 : W.cell? ⟨w.heap.size, 1, none⟩ = some (.int .i64 d.tree.pr) := cell_of_heap hx2 rfl
  have p2 : W.cell? ⟨w.heap.size, 2, none⟩ = some kv := cell_of_heap hx2 rfl
  have p3 : W.cell? ⟨w.heap.size, 3, none⟩ = some tv := cell_of_heap hx2 rfl
  have p4 : W.cell? ⟨w.heap.size, 4, none⟩ = some sv := cell_of_heap hx2 rfl
  have hgr := great38 w.heap.size d _ W (HD.out.keep hB) hB.size
  have hX : ∀ wx, Below W.heap.size W wx → wx.heap[w.heap.size]? = some (.cells #[.int .i64 d.tree.sy, .int .i64 d.tree.pr, kv, tv, sv] 28 (0, 0)) := fun wx hb =>
    (hb.block _ (Array.getElem?_eq_some_iff.1 hx2).1).trans hx2
  have HX := Lib.hid hX
  clear HW hx2 hX
  cases hg : d.great with
  | true =>
    rw [hg] at hgr
    go_wp2_with (first | (go_at_call 38; refine hgr.mono ?_; rintro e w1 ⟨rfl, hb1⟩) | (go_at_call 39; refine (lives25 _).mono ?_; rintro e w2 ⟨rfl, hb2⟩))
    go_ret
    exact ⟨rfl, hB.trans ((hb1.trans (hb2.mono hb1.size)).mono hB.size)⟩
  | false =>
    rw [hg] at hgr
    have hcnt : d.tree.cnt ≤ 60 := by unfold Dt.great at hg; simpa using hg
    apply wp_seq_k
    intro K1 k1
    have H1 := Lib.hid k1
    clear k1
    go_wp2_with (first | (go_at_call 38; refine hgr.mono ?_; rintro e w1 ⟨rfl, hb1⟩))
    refine H1.out _ _ ?_
    clear H1 K1 hgr p0 p1 p2 p3 p4
    have hx1 := HX.out _ hb1
    have p0 : w1.cell? ⟨w.heap.size, 0, none⟩ = some (.int .i64 d.tree.sy) := cell_of_heap hx1 rfl
    have p1 : w1.cell? ⟨w.heap.size, 1, none⟩ = some (.int .i64 d.tree.pr) := cell_of_heap hx1 rfl
    have p2 : w1.cell? ⟨w.heap.size, 2, none⟩ = some kv := cell_of_heap hx1 rfl
    have p3 : w1.cell? ⟨w.heap.size, 3, none⟩ = some tv := cell_of_heap hx1 rfl
    have p4 : w1.cell? ⟨w.heap.size, 4, none⟩ = some sv := cell_of_heap hx1 rfl
    clear hx1
    have hBW := hB.trans (hb1.mono hB.size)
    have hbt := built_any w.heap.size d _ w1 (HD.out.keep hBW) hBW.size (by omega)
    rcases hr : d.bld with x | pn
    · have HR := Lib.hid hr
      have hpn := fun W => path_nil at' W
      have hsn := fun W => spots_dud none W (.inl rfl)
      have hrn := fun W => refPath_call (.slice none 0 0) [] at' W (SpotsAt.nil W) (by simp)
      have han := fun W => at_err (.pointer none) at' 1 W (by decide) (fun W2 _ => path_nil at' W2)
      have hss := fun W => sameSpots_call (.slice none 0 0) (.slice none 0 0) [] W (SpotsAt.nil W) (SpotsAt.nil W) (by simp)
      unfold Sp.val sp0 at han
      have HPN := Lib.hid hpn
      have HSN := Lib.hid hsn
      have HRN := Lib.hid hrn
      have HAN := Lib.hid han
      have HSS := Lib.hid hss
      clear hr hpn hsn hrn han hss
      go_wp2_with (first
        | (go_at_call 21; refine hbt.mono ?_; rintro e w2 hsay; obtain ⟨hb2, hx0, rfl⟩ := hsay.err HR.out; have hcur := hb1.trans (hb2.mono hb1.size))
        | (go_at_call 40; refine (HPN.out _).mono ?_; rintro e w4 ⟨rfl, hb4⟩; replace hcur := hcur.trans (hb4.mono hcur.size))
        | (go_at_call 31; refine (HSN.out _).mono ?_; rintro e w5 ⟨rfl, hb5⟩; replace hcur := hcur.trans (hb5.mono hcur.size))
        | (go_at_call 59; refine (HRN.out _).mono ?_; rintro e w6 ⟨hb6, hsay⟩; obtain ⟨_, rfl⟩ | ⟨hx, _⟩ | ⟨hx, _⟩ := hsay; rotate_left; exact absurd rfl hx; exact absurd rfl hx; replace hcur := hcur.trans (hb6.mono hcur.size))
        | (go_at_call 41; refine (HAN.out _).mono ?_; rintro e w7 ⟨rfl, hb7⟩; replace hcur := hcur.trans (hb7.mono hcur.size); have hal := hcur.alloc hcur.size (.cells #[.int .i64 0, .int .i64 0, .int .i64 0, .int .i64 0, .int .i64 0] 66); have hnw := Lib.hid (heap_alloc_new w7 (.cells #[.int .i64 0, .int .i64 0, .int .i64 0, .int .i64 0, .int .i64 0] 66)); have hls := Lib.hid (World.size_alloc w7 (.cells #[.int .i64 0, .int .i64 0, .int .i64 0, .int .i64 0, .int .i64 0] 66)))
        | (go_at_call 35; refine (HSS.out _).mono ?_; rintro e w8 ⟨rfl, hb8⟩; replace hcur := hal.trans (hb8.mono hal.size); have g8 := (hb8.block w7.heap.size (by rw [hls.out]; omega)).trans hnw.out; have y0 := cell_of_heap (i := 0) (v := .int .i64 0) g8 rfl; have y1 := cell_of_heap (i := 1) (v := .int .i64 0) g8 rfl; have y2 := cell_of_heap (i := 2) (v := .int .i64 0) g8 rfl; have y3 := cell_of_heap (i := 3) (v := .int .i64 0) g8 rfl; have y4 := cell_of_heap (i := 4) (v := .int .i64 0) g8 rfl; clear g8)
        | (go_at_call 39; refine (lives25 _).mono ?_; rintro e w9 ⟨rfl, hb9⟩; replace hcur := hcur.trans (hb9.mono hcur.size)))
      go_ret
      exact ⟨rfl, hB.trans (hcur.mono hB.size)⟩
    · have HR := Lib.hid hr
      clear hr
      apply wp_seq_k
      intro K1 k1
      have H1 := Lib.hid k1
      clear k1
      go_wp2_with (first
        | (go_at_call 21; refine hbt.mono ?_; rintro e w2 hsay; obtain ⟨hb2, n, rfl, rfl, hin, hwf, hht, hcn, _⟩ := hsay.ok HR.out))
      refine H1.out _ _ ?_
      clear H1 K1 hbt p0 p1 p2 p3 p4
      have hbx := hB.trans ((hb1.trans (hb2.mono hb1.size)).mono hB.size)
      have hok := Nd.WF.ok n hwf
      have hc3 : n.cnt ≤ 1000 := by omega
      have hsn := fun W (hW : Below w2.heap.size w2 W) => spots_call n W (hin.below hW) hwf hc3
      have hsp := spots_path n hwf at'
      have hsl : (spotsN n).length = n.cnt := by unfold spotsN; rw [List.length_map, preN_len]
      have hs0 : spotsN n ≠ [] := by
        intro e
        have h1 := n.cnt_eq
        rw [e, List.length_nil] at hsl
        omega
      by_cases hout : at' < 0 ∨ n.bt ≤ at'
      · have hpn := fun W (hW : Below w2.heap.size w2 W) => path_out n at' W (hin.below hW) hwf hout
        have han := fun W (hW : Below w2.heap.size w2 W) => at_err n.ptr at' 4 W (by decide) (fun W2 hW2 => path_out n at' W2 (hin.below (hW.trans (hW2.mono hW.size))) hwf hout)
        have hss := fun W => sameSpots_call (.slice none 0 0) (.slice none 0 0) [] W (SpotsAt.nil W) (SpotsAt.nil W) (by simp)
        rw [if_pos hout] at hsp
        have hrn := fun W v (h : SpotsAt W v (spotsN n)) => refPath_call v (spotsN n) at' W h (by omega)
        unfold Sp.val sp0 at han
        unfold Nd.ptr at hsn han ⊢
        have HPN := Lib.hid hpn
        have HSN := Lib.hid hsn
        have HAN := Lib.hid han
        have HSS := Lib.hid hss
        have HRN := Lib.hid hrn
        have HSP := Lib.hid hsp
        have HS0 := Lib.hid hs0
        clear hpn hsn han hss hrn hsp hs0 hin hwf hok hout hsl
        have hcur := Below.refl w2.heap.size w2
        go_wp2_with (first
          | (go_at_call 40; refine (HPN.out _ hcur).mono ?_; rintro e w4 ⟨rfl, hb4⟩; replace hcur := hcur.trans (hb4.mono hcur.size))
          | (go_at_call 31; refine (HSN.out _ hcur).mono ?_; rintro e w5 ⟨v5, rfl, hrow5, hb5⟩; replace hcur := hcur.trans (hb5.mono hcur.size); have S5 := Lib.hid (SpotsAt.of_row hrow5); clear hrow5)
          | (go_at_call 59; refine (HRN.out _ _ S5.out).mono ?_; rintro e w6 ⟨hb6, hsay⟩; obtain ⟨hx, _⟩ | ⟨_, _, rfl⟩ | ⟨hx, _⟩ := hsay; exact absurd hx HS0.out; rotate_left; exact absurd HSP.out hx; replace hcur := hcur.trans (hb6.mono hcur.size))
          | (go_at_call 41; refine (HAN.out _ hcur).mono ?_; rintro e w7 ⟨rfl, hb7⟩; replace hcur := hcur.trans (hb7.mono hcur.size); have hal := hcur.alloc hcur.size (.cells #[.int .i64 0, .int .i64 0, .int .i64 0, .int .i64 0, .int .i64 0] 66); have hnw := Lib.hid (heap_alloc_new w7 (.cells #[.int .i64 0, .int .i64 0, .int .i64 0, .int .i64 0, .int .i64 0] 66)); have hls := Lib.hid (World.size_alloc w7 (.cells #[.int .i64 0, .int .i64 0, .int .i64 0, .int .i64 0, .int .i64 0] 66)))
          | (go_at_call 35; refine (HSS.out _).mono ?_; rintro e w8 ⟨rfl, hb8⟩; replace hcur := hal.trans (hb8.mono hal.size); have g8 := (hb8.block w7.heap.size (by rw [hls.out]; omega)).trans hnw.out; have y0 := cell_of_heap (i := 0) (v := .int .i64 0) g8 rfl; have y1 := cell_of_heap (i := 1) (v := .int .i64 0) g8 rfl; have y2 := cell_of_heap (i := 2) (v := .int .i64 0) g8 rfl; have y3 := cell_of_heap (i := 3) (v := .int .i64 0) g8 rfl; have y4 := cell_of_heap (i := 4) (v := .int .i64 0) g8 rfl; clear g8)
          | (go_at_call 39; refine (lives25 _).mono ?_; rintro e w9 ⟨rfl, hb9⟩; replace hcur := hcur.trans (hb9.mono hcur.size)))
        go_ret
        exact ⟨rfl, hbx.trans (hcur.mono hbx.size)⟩
      · have ha0 : 0 ≤ at' := by omega
        have ha1 : at' < n.bt := by omega
        rw [if_neg hout] at hsp
        have hlen := pathA_len n at'
        obtain ⟨m, hlm⟩ : ∃ m, (pathA n at').length = m + 1 := ⟨(pathA n at').length - 1, by simp [pathA]⟩
        have hlb : m < 1000 := by omega
        obtain ⟨sp, hlast⟩ : ∃ sp, (pathA n at').getLast? = some sp := ⟨_, List.getLast?_eq_some_getLast (by simp [pathA])⟩
        have hget : ∀ h : m < (pathA n at').length, (pathA n at')[m] = sp := by
          intro h
          rw [List.getLast?_eq_getElem?, hlm] at hlast
          simpa [h] using hlast
        have hpn := fun W (hW : Below w2.heap.size w2 W) => path_in n at' W (hin.below hW) hwf hc3 ha0 ha1
        have han := fun W (hW : Below w2.heap.size w2 W) => at_okv n.ptr at' (pathA n at') sp W (by omega) hlast fun W2 hW2 => path_in n at' W2 (hin.below (hW.trans (hW2.mono hW.size))) hwf hc3 ha0 ha1
        have hrn := fun W v (h : SpotsAt W v (spotsN n)) => refPath_call v (spotsN n) at' W h (by omega)
        have hp0 : pathA n at' ≠ [] := by simp [pathA]
        have hss := fun W u v (h : SpotsAt W u (pathA n at')) (h' : SpotsAt W v (pathA n at')) => sameSpots_call u v (pathA n at') W h h' (by omega)
        unfold Sp.val at han
        unfold Nd.ptr at hsn han ⊢
        have HPN := Lib.hid hpn
        have HSN := Lib.hid hsn
        have HAN := Lib.hid han
        have HSS := Lib.hid hss
        have HRN := Lib.hid hrn
        have HSP := Lib.hid hsp
        have HP0 := Lib.hid hp0
        have HGET := Lib.hid hget
        have HLM := Lib.hid hlm
        have HS0 := Lib.hid hs0
        clear hpn hsn han hss hrn hsp hp0 hin hwf hok hout hsl hget hs0
        generalize pathA n at' = l at *
        have hcur := Below.refl w2.heap.size w2
        go_upto_region 11 with (first
          | (go_at_call 40; refine (HPN.out _ hcur).mono ?_; rintro e w4 ⟨v4, rfl, hrow4, hb4⟩; replace hcur := hcur.trans (hb4.mono hcur.size); have S4 := Lib.hid (SpotsAt.of_row hrow4); clear hrow4)
          | (go_at_call 31; refine (HSN.out _ hcur).mono ?_; rintro e w5 ⟨v5, rfl, hrow5, hb5⟩; replace hcur := hcur.trans (hb5.mono hcur.size); have S5 := Lib.hid (SpotsAt.of_row hrow5); clear hrow5; have h45 := hb5)
          | (go_at_call 59; refine (HRN.out _ _ S5.out).mono ?_; rintro e w6 ⟨hb6, hsay⟩; obtain ⟨hx, _⟩ | ⟨_, hx, _⟩ | ⟨_, v6, rfl, hrow6⟩ := hsay; exact absurd hx HS0.out; exact absurd (HSP.out.symm.trans hx) HP0.out; replace hcur := hcur.trans (hb6.mono hcur.size); have S6 := Lib.hid (SpotsAt.of_row hrow6); clear hrow6; rw [HSP.out] at S6; have h46 := h45.trans (hb6.mono h45.size))
          | (go_at_call 41; refine (HAN.out _ hcur).mono ?_; rintro e w7 ⟨rfl, hb7⟩; replace hcur := hcur.trans (hb7.mono hcur.size); have hal := hcur.alloc hcur.size (.cells #[.int .i64 sp.sy, .int .i64 sp.pr, .int .i64 sp.fa, .int .i64 sp.fz, .int .i64 sp.dp] 66); have hnw := Lib.hid (heap_alloc_new w7 (.cells #[.int .i64 sp.sy, .int .i64 sp.pr, .int .i64 sp.fa, .int .i64 sp.fz, .int .i64 sp.dp] 66)); have hls := Lib.hid (World.size_alloc w7 (.cells #[.int .i64 sp.sy, .int .i64 sp.pr, .int .i64 sp.fa, .int .i64 sp.fz, .int .i64 sp.dp] 66)); have h67 := hb7.alloc hb7.size (.cells #[.int .i64 sp.sy, .int .i64 sp.pr, .int .i64 sp.fa, .int .i64 sp.fz, .int .i64 sp.dp] 66); have h47 := h46.trans (h67.mono h46.size))
          | (go_at_call 35; refine (HSS.out _ _ _ (S4.out.keep h47) (S6.out.keep h67)).mono ?_; rintro e w8 ⟨rfl, hb8⟩; replace hcur := hal.trans (hb8.mono hal.size); have g8 := (hb8.block w7.heap.size (by rw [hls.out]; omega)).trans hnw.out; have s8 := (S6.out.keep h67).keep hb8; have G8 := Lib.hid g8; have S8 := Lib.hid s8; clear g8 s8))
        have s8 := S8.out
        obtain ⟨A6, c6, hv6, hcell⟩ := s8
        subst hv6
        have hm2 : m < l.length := by rw [HLM.out]; omega
        obtain ⟨g, rfl, lg, z0, z1, z2, z3, z4⟩ := hcell m hm2
        rw [HGET.out hm2] at z0 z1 z2 z3 z4
        have g8 := G8.out
        obtain ⟨xb, hxb⟩ : ∃ b, b = w7.heap.size := ⟨_, rfl⟩
        rw [← hxb] at g8 ⊢
        have y0 : ∀ s : Sb w8, s.w.cell? ⟨g, m * 5, none⟩ = some (.int .i64 sp.sy) := fun s => s.cell z0
        have y1 : ∀ s : Sb w8, s.w.cell? ⟨g, m * 5 + 1, none⟩ = some (.int .i64 sp.pr) := fun s => s.cell z1
        have y2 : ∀ s : Sb w8, s.w.cell? ⟨g, m * 5 + 2, none⟩ = some (.int .i64 sp.fa) := fun s => s.cell z2
        have y3 : ∀ s : Sb w8, s.w.cell? ⟨g, m * 5 + 3, none⟩ = some (.int .i64 sp.fz) := fun s => s.cell z3
        have y4 : ∀ s : Sb w8, s.w.cell? ⟨g, m * 5 + 4, none⟩ = some (.int .i64 sp.dp) := fun s => s.cell z4
        have x0 : ∀ s : Sb w8, s.w.cell? ⟨xb, 0, none⟩ = some (.int .i64 sp.sy) := fun s => s.cell (cell_of_heap g8 rfl)
        have x1 : ∀ s : Sb w8, s.w.cell? ⟨xb, 1, none⟩ = some (.int .i64 sp.pr) := fun s => s.cell (cell_of_heap g8 rfl)
        have x2 : ∀ s : Sb w8, s.w.cell? ⟨xb, 2, none⟩ = some (.int .i64 sp.fa) := fun s => s.cell (cell_of_heap g8 rfl)
        have x3 : ∀ s : Sb w8, s.w.cell? ⟨xb, 3, none⟩ = some (.int .i64 sp.fz) := fun s => s.cell (cell_of_heap g8 rfl)
        have x4 : ∀ s : Sb w8, s.w.cell? ⟨xb, 4, none⟩ = some (.int .i64 sp.dp) := fun s => s.cell (cell_of_heap g8 rfl)
        have HLV := Lib.hid (fun s : Sb w8 => Calls.sb (lives25 s.w))
        have hm0 : (0 : Int) ≤ (m : Int) := Int.natCast_nonneg _
        have hmI : (m : Int) < (m : Int) + 1 := by omega
        have hwr : IntKind.i64.wrap ((m : Int) + 1 - 1) = (m : Int) := by rw [IntKind.wrap_i64]; omega
        have hwr2 : IntKind.i64.wrap (m : Int) = (m : Int) := by rw [IntKind.wrap_i64]; omega
        have hlm := HLM.out
        clear z0 z1 z2 z3 z4 hxb g8 hcell hm2
        rw [hlm] at *
        refine wp_region_sb (by kernel_rfl) (by kernel_rfl) ?_
        repeat (go_big_quiet_step (first | (go_at_call 39; exact HLV.out _)))
        refine wpQuiet_nil ?_
        intro s
        clear y0 y1 y2 y3 y4 x0 x1 x2 x3 x4
        go_wp2_with fail
        go_ret
        exact ⟨rfl, hbx.trans ((hcur.trans (s.below.mono hcur.size)).mono hbx.size)⟩

end Go.Proofs.Ytcjpmgfobnaoeaa
