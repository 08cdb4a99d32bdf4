/- Merged out of own texts: A74, A40, A43, A75, A76. -/
import Derived.Test.YtcjpmgfobnaoeaaT0
import Derived.Test.YtcjpmgfobnaoeaaT1
/- builder.plain: the walk. -/
namespace Go.Proofs.Ytcjpmgfobnaoeaa
set_option linter.unusedVariables false
set_option linter.unusedSimpArgs false
open PNodesTell (S79 S72 S57 S66 S64 S24 k79 k72)
open Go.RowKit Go.Proofs.YtcjpmgfobnaoeaaW.PrintWords
attribute [local irreducible] Calls

theorem nodeV_make {head prod st lk : Int} {fm : Bool} {kids : List Pn} {kv : Value} (h : 0 ≤ prod) : nodeV (Pn.mk head prod 0 0 st lk fm kids).s79 kv = .agg #[.int .i64 head, .int .i64 prod, .int .i64 0, .int .i64 0, .int .i64 0, .int .i64 st, .int .i64 lk, .bool fm, kv] := by
  rw [Pn.s79_eq, if_neg (by show ¬ prod < 0; omega)]
  rfl
theorem makeP_pr {head : Int} {body : List Int} {prod st lk : Int} {fm : Bool} {kids : List Pn} {n : Pn} (h : makeP head body prod st lk fm kids = .ok n) : 0 ≤ prod := by
  unfold makeP at h
  split at h
  · simp at h
  · omega
theorem makeP_err0 {head : Int} {body : List Int} {prod st lk : Int} {fm : Bool} {kids : List Pn} {x : Int} (h : makeP head body prod st lk fm kids = .error x) : x ≠ 0 := by
  unfold makeP at h
  split at h
  · injection h with h; omega
  · split at h
    · injection h with h; omega
    · split at h
      · injection h with h; omega
      · simp at h
theorem RefMakeSays.err {w w' : World} {head : Int} {body : List Int} {prod st lk : Int} {fm : Bool} {kids : List Pn} {kv : Value} {x : Int} {e : Ending} (h : RefMakeSays w head body prod st lk fm kids kv e w') (hm : makeP head body prod st lk fm kids = .error x) :
    Below w.heap.size w w' ∧ e = .returned (.tuple #[zero79, .int .i64 x]) := by
  rcases h.2 with ⟨y, h1, h2, h3⟩ | ⟨h1, _⟩
  · rw [hm] at h1
    injection h1 with h1
    subst h1
    exact ⟨h.1, h3⟩
  · rw [hm] at h1; simp at h1
theorem RefMakeSays.ok {w w' : World} {head : Int} {body : List Int} {prod st lk : Int} {fm : Bool} {kids : List Pn} {kv : Value} {n : Pn} {e : Ending} (h : RefMakeSays w head body prod st lk fm kids kv e w') (hm : makeP head body prod st lk fm kids = .ok n) :
    Below w.heap.size w w' ∧ e = .returned (.tuple #[.agg #[.int .i64 head, .int .i64 prod, .int .i64 0, .int .i64 0, .int .i64 0, .int .i64 st, .int .i64 lk, .bool fm, kv], .int .i64 0]) := by
  rcases h.2 with ⟨y, h1, _⟩ | ⟨_, h1⟩
  · rw [hm] at h1; simp at h1
  · exact ⟨h.1, h1⟩

set_option maxRecDepth 100000 in
set_option maxHeartbeats 8000000 in
theorem plain_call (g : Nat) (S P : Int) (KV tv sv : Value) (tks : List (Int × Int × Int)) (sts : List (Int × Int × Bool)) (t : Tr) : ∀ (kv : Value) (lv md : Nat) (w : World),
    w.heap[g]? = some (.cells (bcells S P KV tv sv lv md) 91 (0, 0)) → SlcAt g w 3 tv (tks.map tkCells) → SlcAt g w 3 sv (sts.map stCells) → t.At g w kv → lv + t.cnt ≤ 1000000 → md + t.cnt ≤ 1000000 →
    Calls Try.prog 49 #[.pointer (some ⟨g, 0, none⟩), .agg #[.int .i64 t.sy, .int .i64 t.pr, kv]] w (PlainSays g S P KV tv sv (bldT tks sts t lv md) w) := by
  revert t
  refine Tr.ind ?_
  intro t ih kv lv md w hg htv hsv hat hlv hmd
  have hc1 : t.cnt = 1 + TrsCnt t.kids := Tr.cnt_eq t
  have lg : g < w.heap.size := (Array.getElem?_eq_some_iff.1 hg).1
  obtain ⟨a, c, rfl, hts⟩ := hat.len
  by_cases h0 : t.kids.length = 0
  · have hb : bldT tks sts t lv md = (leafP t.sy (leadP tks lv).1 (leadP tks lv).2 (stampP sts md).1 (stampP sts md).2.2, lv + 1, md + 1) := by
      cases t with
      | mk s p kids => unfold bldT; exact if_pos h0
    rw [hb, h0]
    exact plainLeaf_call g S P KV tv sv tks sts t.sy t.pr a c lv md w hg htv hsv (by omega) (by omega)
  · have hbox : ∀ W, W = (w.alloc (.cells #[.int .i64 t.sy, .int .i64 t.pr, .slice a t.kids.length c] 24)).alloc (.cells #[.int .i64 0, .int .i64 0, .int .i64 0, .int .i64 0, .int .i64 0, .int .i64 0, .int .i64 0, .bool false, .slice none 0 0] 79) →
        PlainLoop g S P KV tv sv tks sts w #[.int .i64 t.sy, .int .i64 t.pr, .slice a t.kids.length c] t.kids lv md 0 (.slice none 0 0) [] lv md W := by
      rintro W rfl
      exact ⟨gb_alloc (gb_alloc (gb_refl _ _) _) _, by rw [Below.heap_alloc _ _ _ (by simp)]; exact heap_alloc_new _ _, heap_new2 _ _ _, ((Below.heap_alloc _ _ _ (by simp; omega)).trans (Below.heap_alloc _ _ _ lg)).trans hg, World.ownsRow_nil _ _ _ _, rfl, by simp, by simp, by rw [List.map_nil, afterP_nil, List.drop_zero], by rw [List.drop_zero]; omega, by rw [List.drop_zero]; omega⟩
    have hbT : bldT tks sts t lv md = match bldL tks sts t.kids lv md with
      | (.error e, lv', md') => (.error e, lv', md')
      | (.ok l, lv', md') => (makeP t.sy (t.kids.map Tr.sy) t.pr (stampP sts md').1 (stampP sts md').2.1 (stampP sts md').2.2 l, lv', md' + 1) := by
      cases t with
      | mk s p kids => rw [bldT]; exact if_neg h0
    have hkeep : ∀ W, w.grownBy W (some g) → Below g w W := fun W hW => below_gb hW (Nat.le_refl _) (Nat.le_of_lt lg)
    have hlen0 : ((t.kids.length : Int) == 0) = false := beq_eq_false_iff_ne.2 (by omega)
    have IH := Lib.hid ih
    have HTS := Lib.hid hts
    have HTV := Lib.hid htv
    have HSV := Lib.hid hsv
    have HBT := Lib.hid hbT
    have HAT := Lib.hid hat
    have HKEEP := Lib.hid hkeep
    have HBOX := Lib.hid hbox
    have HB := Lib.hid (And.intro hlv (And.intro hmd hc1))
    clear ih hts htv hsv hbT hat hkeep hbox hg hlv hmd hc1 h0
    go_enter Try.func49, Try.ntmps49
    apply wp_seq_k
    intro K1 h1
    have H1 := Lib.hid h1
    clear h1
    go_wp2_with fail
    refine H1.out _ _ ?_
    clear H1 K1
    have L0 := HBOX.out _ rfl
    generalize (w.alloc (.cells #[.int .i64 t.sy, .int .i64 t.pr, .slice a t.kids.length c] 24)).alloc (.cells #[.int .i64 0, .int .i64 0, .int .i64 0, .int .i64 0, .int .i64 0, .int .i64 0, .int .i64 0, .bool false, .slice none 0 0] 79) = W at *
    have HL0 := Lib.hid L0
    have y2 : W.cell? ⟨w.heap.size, 2, none⟩ = some (.slice a t.kids.length c) := cell_of_heap L0.box rfl
    clear L0 HBOX
    go_wp2_with fail
    clear y2
    go_loopg [7, 8] t.kids.length (fun gi nsv iv wx => ∃ (i : Nat) (l : List (Pn × Value)) (lv' md' : Nat), iv = .int .i64 i ∧ i + gi = t.kids.length ∧ Hid (PlainLoop g S P KV tv sv tks sts w #[.int .i64 t.sy, .int .i64 t.pr, .slice a t.kids.length c] t.kids lv md i nsv l lv' md' wx))
    case atStart => exact ⟨0, [], lv, md, rfl, by omega, HL0.out⟩
    case round =>
      obtain ⟨i, l, lv', md', rfl, hi, HL⟩ := hrel
      have y2 : wr.cell? ⟨w.heap.size, 2, none⟩ = some (.slice a t.kids.length c) := cell_of_heap HL.out.box rfl
      have hs0 := HL.out.grown.size
      have lres := (Array.getElem?_eq_some_iff.1 HL.out.res).1
      by_cases hlt : i < t.kids.length
      · obtain ⟨b, o, kvi, rfl, hb, q0, q1, q2, hati⟩ := HTS.out.get i hlt
        have hdrop := drop_cons hlt
        obtain ⟨kd, hkd⟩ : ∃ kd, kd = t.kids[i] := ⟨_, rfl⟩
        rw [← hkd] at hdrop q0 q1 hati
        have hmem : kd ∈ t.kids := by rw [hkd]; exact List.getElem_mem hlt
        rw [Nat.zero_add] at q0 q1 q2
        have hbx : Below g w wr := HKEEP.out _ HL.out.grown
        have d0 : wr.cell? ⟨b, o + i * 3, none⟩ = some (.int .i64 kd.sy) := (hbx.cell (p := ⟨b, _, none⟩) hb).trans q0
        have d1 : wr.cell? ⟨b, o + i * 3 + 1, none⟩ = some (.int .i64 kd.pr) := (hbx.cell (p := ⟨b, _, none⟩) hb).trans q1
        have d2 : wr.cell? ⟨b, o + i * 3 + 2, none⟩ = some kvi := (hbx.cell (p := ⟨b, _, none⟩) hb).trans q2
        have hdc : TrsCnt (t.kids.drop i) = kd.cnt + TrsCnt (t.kids.drop (i + 1)) := by rw [hdrop]; rfl
        have HC := Lib.hid (IH.out kd hmem kvi lv' md' wr HL.out.bld (HTV.out.keep hbx) (HSV.out.keep hbx) (hati.keep hbx) (by have := HL.out.hlv; omega) (by have := HL.out.hmd; omega))
        obtain ⟨akd, ckd, rfl, _⟩ := hati.len
        have HDR := Lib.hid hdrop
        have hltI : (i : Int) < (t.kids.length : Int) := by omega
        have hi6 : i + 1 ≤ 1000000 := by have := len_le_cnt t.kids; have := HB.out.1; have := HB.out.2.2; omega
        clear q0 q1 q2 hati hdrop hkd hmem
        rcases hr : bldT tks sts kd lv' md' with ⟨x | n, lv2, md2⟩
        · rw [hr] at HC
          have HR := Lib.hid hr
          clear hr
          go_upto_region 10 with (go_at_call 49; refine HC.out.mono ?_; rintro e w2 hsay; obtain ⟨hg2, hb2, hx0, A2, c2, rfl⟩ := hsay.err; have hq : (x == 0) = false := beq_eq_false_iff_ne.2 hx0; unfold zeroV)
          have hres := (Below.heap_alloc w2 (.cells #[.int .i64 0, .int .i64 0, .int .i64 0, .int .i64 0, .int .i64 0, .int .i64 0, .int .i64 0, .bool false, .slice A2 0 c2] 79) (w.heap.size + 1) (by have := hg2.size; omega)).trans ((hg2.block _ lres (fun e => by simp at e; omega)).trans HL.out.res)
          have hgb := gb_alloc (gb_trans HL.out.grown hg2) (.cells #[.int .i64 0, .int .i64 0, .int .i64 0, .int .i64 0, .int .i64 0, .int .i64 0, .int .i64 0, .bool false, .slice A2 0 c2] 79)
          have hbb := (Below.heap_alloc w2 (.cells #[.int .i64 0, .int .i64 0, .int .i64 0, .int .i64 0, .int .i64 0, .int .i64 0, .int .i64 0, .bool false, .slice A2 0 c2] 79) g (by have := hg2.size; omega)).trans hb2
          generalize w2.alloc (.cells #[.int .i64 0, .int .i64 0, .int .i64 0, .int .i64 0, .int .i64 0, .int .i64 0, .int .i64 0, .bool false, .slice A2 0 c2] 79) = W3 at *
          obtain ⟨r0, r1, r2, r3, r4, r5, r6, r7, r8⟩ := nine_of hres
          have hz : ∀ i, W3.frozen? ⟨w.heap.size + 1, i, none⟩ = false := fun i => frozen_of_heap hres
          have HRES := Lib.hid hres
          have HBB := Lib.hid hbb
          have hans : bldT tks sts t lv md = (.error x, lv2, md2) := by
            rw [HBT.out, ← HL.out.ans, HDR.out, afterP_cons, HR.out]
          have HANS := Lib.hid hans
          clear hres hbb hb2 hans hq
          go_wp2_with fail
          rw [HANS.out]
          exact end79 (X := put9 W3 (w.heap.size + 1) (.int .i64 0) (.int .i64 0) (.int .i64 0) (.int .i64 0) (.int .i64 0) (.int .i64 0) (.int .i64 0) (.bool false) (.slice none 0 0)) rfl rfl (put9_heap HRES.out _ _ _ _ _ _ _ _ _) rfl rfl rfl ⟨gb_put9 hgb (by omega) _ _ _ _ _ _ _ _ _, (put9_far W3 (w.heap.size + 1) _ _ _ _ _ _ _ _ _ g (by omega)).trans HBB.out, .inl ⟨x, none, 0, rfl, hx0, rfl⟩⟩
        · rw [hr] at HC
          have HR := Lib.hid hr
          clear hr
          go_upto_region 11 with (go_at_call 49; refine HC.out.mono ?_; rintro e w2 hsay; obtain ⟨hg2, hb2, kv2, hok2, rfl, hV⟩ := hsay.ok; obtain ⟨A2, c2, rfl⟩ := Kd.V_slice hV; rw [List.length_map] at hV ⊢; unfold nodeV)
          have hs2 := hg2.size
          have hgw2 := gb_trans HL.out.grown hg2
          obtain ⟨s, hs⟩ : ∃ s, n.s79 = s := ⟨_, rfl⟩
          rw [hs]
          have HS := Lib.hid hs
          have HVV := Lib.hid hV
          have HB2 := Lib.hid hb2
          obtain ⟨d0', d1', d2', d3', d4', d5', d6', d7', d8'⟩ := nine_of (heap_alloc_new w2 (.cells #[.int .i64 s.f0, .int .i64 s.f1, .int .i64 s.f2.f0, .int .i64 s.f2.f1, .int .i64 s.f2.f2, .int .i64 s.f3.f0, .int .i64 s.f3.f1, .bool s.f3.f2, .slice A2 n.kids.length c2] 79))
          have hrow := (row_gb HL.out.row hg2 (by omega)).alloc (.cells #[.int .i64 s.f0, .int .i64 s.f1, .int .i64 s.f2.f0, .int .i64 s.f2.f1, .int .i64 s.f2.f2, .int .i64 s.f3.f0, .int .i64 s.f3.f1, .bool s.f3.f2, .slice A2 n.kids.length c2] 79)
          have HROW := Lib.hid hrow
          have HBL := Lib.hid (below_alloc w2 (.cells #[.int .i64 s.f0, .int .i64 s.f1, .int .i64 s.f2.f0, .int .i64 s.f2.f1, .int .i64 s.f2.f2, .int .i64 s.f3.f0, .int .i64 s.f3.f1, .bool s.f3.f2, .slice A2 n.kids.length c2] 79))
          clear hs hrow hV hb2
          generalize hW3 : w2.alloc (.cells #[.int .i64 s.f0, .int .i64 s.f1, .int .i64 s.f2.f0, .int .i64 s.f2.f1, .int .i64 s.f2.f2, .int .i64 s.f3.f0, .int .i64 s.f3.f1, .bool s.f3.f2, .slice A2 n.kids.length c2] 79) = W3 at *
          have hs3 : w2.heap.size < W3.heap.size := by rw [← hW3]; simp
          clear hW3
          have hwi : IntKind.i64.wrap ((i : Int) + 1) = ((i + 1 : Nat) : Int) := by rw [IntKind.wrap_i64]; omega
          go_wp2_with (first | (at_builtin; go_loud (refine wpList_push rfl _ _ 76 rfl 79 _ 9 88 info79 Try.underlying76 rfl (by decide) (w.heap.size + 2) u7 i (l.flatMap kidN) rfl HROW.out [.int .i64 s.f0, .int .i64 s.f1, .int .i64 s.f2.f0, .int .i64 s.f2.f1, .int .i64 s.f2.f2, .int .i64 s.f3.f0, .int .i64 s.f3.f1, .bool s.f3.f2, .slice A2 n.kids.length c2] rfl rfl (by simp [Value.oneCell']) (by omega) (by omega) (by omega) ?_; intro g4 c4 w4 hown4 hgr4; have HOWN := Lib.hid hown4; have HGR := Lib.hid hgr4; clear hown4 hgr4)))
          go_roundg (gk - 1)
          case measure => omega
          case rel => exact ⟨i + 1, l ++ [(n, .slice A2 n.kids.length c2)], lv2, md2, by go_num, by omega, HL.out.step lg HDR.out hg2 HB2.out HR.out hok2 HVV.out HBL.out (by rw [HS.out]; exact HOWN.out) HGR.out⟩
      · have hge : ¬ ((i : Int) < (t.kids.length : Int)) := by omega
        have hil : i = t.kids.length := by omega
        subst hil
        have hend := plainL_end HL.out
        obtain ⟨va, vc, rfl⟩ := row_any HL.out.row
        have hbl : bldT tks sts t lv md = (makeP t.sy (t.kids.map Tr.sy) t.pr (stampP sts md').1 (stampP sts md').2.1 (stampP sts md').2.2 (l.map Prod.fst), lv', md' + 1) := by rw [HBT.out, hend]
        have y0 : wr.cell? ⟨w.heap.size, 0, none⟩ = some (.int .i64 t.sy) := cell_of_heap HL.out.box rfl
        have y1 : wr.cell? ⟨w.heap.size, 1, none⟩ = some (.int .i64 t.pr) := cell_of_heap HL.out.box rfl
        have hkl : t.kids.length ≤ 1000000 := by have := len_le_cnt t.kids; have := HB.out.1; have := HB.out.2.2; omega
        have hll : (l.map Prod.fst).length = t.kids.length := by rw [List.length_map, HL.out.len]
        have hV : Kd.V k79 79 wr 0 (fun k => w.heap.size + 2 ≤ k ∧ k < wr.heap.size) (.slice va t.kids.length vc) ((l.map Prod.fst).map Pn.s79) := by
          have h := V_row (ok := fun k => w.heap.size + 2 ≤ k ∧ k < wr.heap.size) HL.out.row (fun k hk => HL.out.row.lt k hk) (fun p hp => Kd.V_mono (HL.out.kid p hp) (fun k hk => ⟨hk.1, hk.2.1⟩))
          rw [List.map_map]
          exact h
        have hV' : ∀ W, wr.grownBy W (some g) → Kd.V k79 79 W 0 (fun k => w.heap.size + 2 ≤ k ∧ k < wr.heap.size) (.slice va t.kids.length vc) ((l.map Prod.fst).map Pn.s79) := fun W hW =>
          Kd.V_step hV (fun k hk hlt => hW.block k hlt (fun e => by injection e with e; omega))
        have hbody : ∀ W, wr.grownBy W (some g) → Calls Try.prog 82 #[.agg #[.int .i64 t.sy, .int .i64 t.pr, .slice a t.kids.length c]] W fun e w' => ∃ bv, e = .returned (.agg #[.int .i64 t.sy, bv, .bool false]) ∧ w'.ownsRow wr.heap.size 3 1 bv t.kids.length (ints (t.kids.map Tr.sy)) ∧ Below W.heap.size W w' := fun W hW =>
          (body_call g t _ W (HAT.out.keep (HKEEP.out _ (gb_trans HL.out.grown hW))) (by have := hW.size; omega) hkl).mono fun e w' ⟨bv, h1, h2, h3⟩ => ⟨bv, h1, ownsRow_base h2 hW.size, h3⟩
        have hstamp : ∀ W, wr.grownBy W (some g) → W.heap[g]? = some (.cells (bcells S P KV tv sv lv' md') 91 (0, 0)) → Calls Try.prog 80 #[.pointer (some ⟨g, 0, none⟩)] W fun e w' => e = .returned (.agg #[.int .i64 (stampP sts md').1, .int .i64 (stampP sts md').2.1, .bool (stampP sts md').2.2]) ∧
            w'.heap[g]? = some (.cells (bcells S P KV tv sv lv' (md' + 1)) 91 (0, 0)) ∧ W.grownBy w' (some g) := fun W hW h1 =>
          stamp_call g g S P KV tv sv lv' md' sts W h1 (HSV.out.keep (HKEEP.out _ (gb_trans HL.out.grown hW))) (by have := HL.out.hmd; omega)
        have hmake : ∀ W bv, wr.grownBy W (some g) → W.ownsRow wr.heap.size 3 1 bv t.kids.length (ints (t.kids.map Tr.sy)) → Calls Try.prog 47 #[.agg #[.int .i64 t.sy, bv, .bool false], .int .i64 t.pr, .agg #[.int .i64 (stampP sts md').1, .int .i64 (stampP sts md').2.1, .bool (stampP sts md').2.2], .slice va t.kids.length vc] W
            (RefMakeSays W t.sy (t.kids.map Tr.sy) t.pr (stampP sts md').1 (stampP sts md').2.1 (stampP sts md').2.2 (l.map Prod.fst) (.slice va t.kids.length vc)) := fun W bv hW h1 => by
          have hC := (Kd.V_reads' (hV' W hW)).2.2
          rw [List.length_map, hll] at hC
          have h := refMake_call t.sy bv (t.kids.map Tr.sy) false t.pr (stampP sts md').1 (stampP sts md').2.1 (stampP sts md').2.2 va vc (l.map Prod.fst) W (ints_at (by rw [List.length_map]; exact h1)) (by rw [hll]; exact hC) (fun n hn => by obtain ⟨p, hp, rfl⟩ := List.mem_map.1 hn; exact HL.out.ok p hp) (by rw [List.length_map]; exact hkl) (by rw [hll]; exact hkl)
          rw [hll] at h
          exact h
        have hkeep4 : ∀ w4 : World, w4.cell? ⟨w.heap.size, 0, none⟩ = some (.int .i64 t.sy) → w4.cell? ⟨w.heap.size, 1, none⟩ = some (.int .i64 t.pr) → w4.cell? ⟨w.heap.size, 2, none⟩ = some (.slice a t.kids.length c) → ∀ {v0 v1 v2 v3 v4 v5 v6 v7 v8 : Value},
            (put9 w4 (w.heap.size + 1) v0 v1 v2 v3 v4 v5 v6 v7 v8).cell? ⟨w.heap.size, 0, none⟩ = some (.int .i64 t.sy) ∧ (put9 w4 (w.heap.size + 1) v0 v1 v2 v3 v4 v5 v6 v7 v8).cell? ⟨w.heap.size, 1, none⟩ = some (.int .i64 t.pr) ∧ (put9 w4 (w.heap.size + 1) v0 v1 v2 v3 v4 v5 v6 v7 v8).cell? ⟨w.heap.size, 2, none⟩ = some (.slice a t.kids.length c) := by
          intro w4 h0 h1 h2 v0 v1 v2 v3 v4 v5 v6 v7 v8
          exact ⟨cell_same (put9_far w4 (w.heap.size + 1) _ _ _ _ _ _ _ _ _ _ (by omega)) h0, cell_same (put9_far w4 (w.heap.size + 1) _ _ _ _ _ _ _ _ _ _ (by omega)) h1, cell_same (put9_far w4 (w.heap.size + 1) _ _ _ _ _ _ _ _ _ _ (by omega)) h2⟩
        have KEEP := Lib.hid hkeep4
        have HBODY := Lib.hid hbody
        have HSTAMP := Lib.hid hstamp
        have HMAKE := Lib.hid hmake
        have HVV := Lib.hid hV'
        have HBL := Lib.hid hbl
        have HOKS := Lib.hid (show ∀ n ∈ l.map Prod.fst, n.Ok from fun n hn => by obtain ⟨p, hp, rfl⟩ := List.mem_map.1 hn; exact HL.out.ok p hp)
        have hgg0 : wr.grownBy wr.drew (some g) := gb_drew (gb_refl _ _)
        have hst0 := HL.out.bld
        have lgr : g < wr.heap.size := grown_block_lt HL.out.grown lg
        clear hend hbody hstamp hmake hbl hV hV' hll hkeep4
        rcases hmk : makeP t.sy (t.kids.map Tr.sy) t.pr (stampP sts md').1 (stampP sts md').2.1 (stampP sts md').2.2 (l.map Prod.fst) with x | pn
        · have HMK := Lib.hid hmk
          clear hmk
          go_upto_region 12 with fail
          refine wp_region_last (S := fun W => W.cell? ⟨w.heap.size, 0, none⟩ = some (.int .i64 t.sy) ∧ W.cell? ⟨w.heap.size, 1, none⟩ = some (.int .i64 t.pr) ∧ W.cell? ⟨w.heap.size, 2, none⟩ = some (.slice a t.kids.length c)) (by kernel_rfl) ⟨y0, y1, y2⟩ 12 rfl (fun hH => ?_)
          (try simp only [List.getElem_toArray, List.getElem_cons_succ, List.getElem_cons_zero, Act.put, List.setIfInBounds_toArray, List.set_cons_zero, List.set_cons_succ])
          refine AnyL.take (i := 0) (v := ?_) rfl (by kernel_rfl) (by kernel_rfl) (by kernel_rfl) (fun _ _ _ h => h) (Or.inl ⟨by rfl, ?_⟩) hH ?_
          rotate_left
          · (intro w hSw; (try dsimp only at hSw); go_simp; (try with_reducible rfl))
          (try simp only [List.getElem_toArray, List.getElem_cons_succ, List.getElem_cons_zero, Act.put, List.setIfInBounds_toArray, List.set_cons_zero, List.set_cons_succ])
          refine AnyL.take (i := 2) (v := ?_) rfl (by kernel_rfl) (by kernel_rfl) (by kernel_rfl) (fun _ _ _ h => h) (Or.inl ⟨by rfl, ?_⟩) hH ?_
          rotate_left
          · (intro w hSw; (try dsimp only at hSw); go_simp; (try with_reducible rfl))
          (try simp only [List.getElem_toArray, List.getElem_cons_succ, List.getElem_cons_zero, Act.put, List.setIfInBounds_toArray, List.set_cons_zero, List.set_cons_succ])
          refine AnyL.take (i := 3) (v := ?_) rfl (by kernel_rfl) (by kernel_rfl) (by kernel_rfl) (fun _ _ _ h => h) (Or.inl ⟨by rfl, ?_⟩) hH ?_
          rotate_left
          · (intro w hSw; (try dsimp only at hSw); go_simp; (try with_reducible rfl))
          (try simp only [List.getElem_toArray, List.getElem_cons_succ, List.getElem_cons_zero, Act.put, List.setIfInBounds_toArray, List.set_cons_zero, List.set_cons_succ])
          refine AnyL.take (i := 4) (v := ?_) rfl (by kernel_rfl) (by kernel_rfl) (by kernel_rfl) (fun _ _ _ h => h) (Or.inl ⟨by rfl, ?_⟩) hH ?_
          rotate_left
          · (intro w hSw; (try dsimp only at hSw); go_simp; (try with_reducible rfl))
          (try simp only [List.getElem_toArray, List.getElem_cons_succ, List.getElem_cons_zero, Act.put, List.setIfInBounds_toArray, List.set_cons_zero, List.set_cons_succ])
          refine AnyL.take (i := 6) (v := ?_) rfl (by kernel_rfl) (by kernel_rfl) (by kernel_rfl) (fun _ _ _ h => h) (Or.inl ⟨by rfl, ?_⟩) hH ?_
          rotate_left
          · (intro w hSw; (try dsimp only at hSw); go_simp; (try with_reducible rfl))
          (try simp only [List.getElem_toArray, List.getElem_cons_succ, List.getElem_cons_zero, Act.put, List.setIfInBounds_toArray, List.set_cons_zero, List.set_cons_succ])
          refine AnyL.step (i := 1) (by kernel_rfl) rfl (fun K hK => ?_)
          (try simp only [List.getElem_toArray, List.getElem_cons_succ, List.getElem_cons_zero])
          go_simp
          go_at_call 82
          refine (HBODY.out _ hgg0).mono ?_
          rintro e w82 ⟨bv, rfl, hbv, hb82⟩
          have hg82 := gb_below hgg0 hb82
          have hst1 := (hb82.block g lgr).trans hst0
          have r0 := (hb82.cell (p := ⟨w.heap.size, 0, none⟩) (World.block_lt_of_cell? _ _ y0)).trans y0
          have r1 := (hb82.cell (p := ⟨w.heap.size, 1, none⟩) (World.block_lt_of_cell? _ _ y1)).trans y1
          have r2 := (hb82.cell (p := ⟨w.heap.size, 2, none⟩) (World.block_lt_of_cell? _ _ y2)).trans y2
          refine hK.out _ _ (.inr ⟨r0, r1, r2⟩) ?_
          clear hK K
          (try simp only [List.getElem_toArray, List.getElem_cons_succ, List.getElem_cons_zero, Act.put, List.setIfInBounds_toArray, List.set_cons_zero, List.set_cons_succ])
          refine AnyL.step (i := 5) (by kernel_rfl) rfl (fun K hK => ?_)
          (try simp only [List.getElem_toArray, List.getElem_cons_succ, List.getElem_cons_zero])
          go_simp
          go_at_call 80
          refine (HSTAMP.out _ hg82 hst1).mono ?_
          rintro e w80 ⟨rfl, hst2, hgs⟩
          have hg80 := gb_trans hg82 hgs
          have hbv' := row_gb hbv hgs lgr
          have s0 := hgs.cell (a := ⟨w.heap.size, 0, none⟩) r0 (fun e => by simp at e; omega)
          have s1 := hgs.cell (a := ⟨w.heap.size, 1, none⟩) r1 (fun e => by simp at e; omega)
          have s2 := hgs.cell (a := ⟨w.heap.size, 2, none⟩) r2 (fun e => by simp at e; omega)
          refine hK.out _ _ (.inr ⟨s0, s1, s2⟩) ?_
          clear hK K
          (try simp only [List.getElem_toArray, List.getElem_cons_succ, List.getElem_cons_zero, Act.put, List.setIfInBounds_toArray, List.set_cons_zero, List.set_cons_succ])
          refine AnyL.step (i := 7) (by kernel_rfl) rfl (fun K hK => ?_)
          (try simp only [List.getElem_toArray, List.getElem_cons_succ, List.getElem_cons_zero])
          go_simp
          go_at_call 47
          refine (HMAKE.out _ _ hg80 hbv').mono ?_
          rintro e w47 hsay
          obtain ⟨hb47, rfl⟩ := hsay.err HMK.out
          have m0 := (hb47.cell (p := ⟨w.heap.size, 0, none⟩) (World.block_lt_of_cell? _ _ s0)).trans s0
          have m1 := (hb47.cell (p := ⟨w.heap.size, 1, none⟩) (World.block_lt_of_cell? _ _ s1)).trans s1
          have m2 := (hb47.cell (p := ⟨w.heap.size, 2, none⟩) (World.block_lt_of_cell? _ _ s2)).trans s2
          have hres := (hb47.block _ (by have := hg80.size; omega)).trans ((hg80.block _ lres (fun e => by simp at e; omega)).trans HL.out.res)
          obtain ⟨x0, x1, x2, x3, x4, x5, x6, x7, x8⟩ := nine_of hres
          have hz : ∀ i, w47.frozen? ⟨w.heap.size + 1, i, none⟩ = false := fun i => frozen_of_heap hres
          have HRES := Lib.hid hres
          clear hres
          unfold zero79 zs79
          refine hK.out _ _ (.inr ⟨m0, m1, m2⟩) ?_
          clear hK K
          (try simp only [List.getElem_toArray, List.getElem_cons_succ, List.getElem_cons_zero, Act.put, List.setIfInBounds_toArray, List.set_cons_zero, List.set_cons_succ])
          refine AnyL.take (i := 8) (v := ?_) rfl (by kernel_rfl) (by kernel_rfl) (by kernel_rfl) (fun _ _ _ h => h) (Or.inl ⟨by rfl, ?_⟩) ⟨m0, m1, m2⟩ ?_
          rotate_left
          · (intro w hSw; (try dsimp only at hSw); go_simp; (try with_reducible rfl))
          (try simp only [List.getElem_toArray, List.getElem_cons_succ, List.getElem_cons_zero, Act.put, List.setIfInBounds_toArray, List.set_cons_zero, List.set_cons_succ])
          refine AnyL.take (i := 9) (v := ?_) rfl (by kernel_rfl) (by kernel_rfl) (by kernel_rfl) (fun _ _ _ h => h) (Or.inl ⟨by rfl, ?_⟩) ⟨m0, m1, m2⟩ ?_
          rotate_left
          · (intro w hSw; (try dsimp only at hSw); go_simp; (try with_reducible rfl))
          (try simp only [List.getElem_toArray, List.getElem_cons_succ, List.getElem_cons_zero, Act.put, List.setIfInBounds_toArray, List.set_cons_zero, List.set_cons_succ])
          refine AnyL.step (i := 10) (by kernel_rfl) rfl (fun K hK => ?_)
          (try simp only [List.getElem_toArray, List.getElem_cons_succ, List.getElem_cons_zero])
          go_simp
          refine hK.out _ _ (.inr (KEEP.out w47 m0 m1 m2)) ?_
          clear hK K
          (try simp only [List.getElem_toArray, List.getElem_cons_succ, List.getElem_cons_zero, Act.put, List.setIfInBounds_toArray, List.set_cons_zero, List.set_cons_succ])
          refine AnyL.take (i := 11) (v := ?_) rfl (by kernel_rfl) (by kernel_rfl) (by kernel_rfl) (fun _ _ _ h => h) (Or.inl ⟨by rfl, ?_⟩) (KEEP.out w47 m0 m1 m2) ?_
          rotate_left
          · (intro w hSw; (try dsimp only at hSw); go_simp; (try with_reducible rfl))
          (try simp only [List.getElem_toArray, List.getElem_cons_succ, List.getElem_cons_zero, Act.put, List.setIfInBounds_toArray, List.set_cons_zero, List.set_cons_succ])
          refine AnyL.done (by kernel_rfl) ?_ _
          clear x0 x1 x2 x3 x4 x5 x6 x7 x8 hz
          have hgw := gb_below (gb_trans HL.out.grown hg80) hb47
          have lg8 : g < w80.heap.size := Nat.lt_of_lt_of_le lgr hg80.size
          have hx0 := makeP_err0 HMK.out
          go_wp2_with fail
          rw [HBL.out, HMK.out]
          exact end79 (X := put9 w47 (w.heap.size + 1) (.int .i64 0) (.int .i64 0) (.int .i64 0) (.int .i64 0) (.int .i64 0) (.int .i64 0) (.int .i64 0) (.bool false) (.slice none 0 0)) rfl rfl (put9_heap HRES.out _ _ _ _ _ _ _ _ _) rfl rfl rfl ⟨gb_put9 hgw (by omega) _ _ _ _ _ _ _ _ _, (put9_far w47 (w.heap.size + 1) _ _ _ _ _ _ _ _ _ g (by omega)).trans ((hb47.block g lg8).trans hst2), .inl ⟨x, none, 0, rfl, hx0, rfl⟩⟩
        · have HMK := Lib.hid hmk
          clear hmk
          go_upto_region 12 with fail
          refine wp_region_last (S := fun W => W.cell? ⟨w.heap.size, 0, none⟩ = some (.int .i64 t.sy) ∧ W.cell? ⟨w.heap.size, 1, none⟩ = some (.int .i64 t.pr) ∧ W.cell? ⟨w.heap.size, 2, none⟩ = some (.slice a t.kids.length c)) (by kernel_rfl) ⟨y0, y1, y2⟩ 12 rfl (fun hH => ?_)
          (try simp only [List.getElem_toArray, List.getElem_cons_succ, List.getElem_cons_zero, Act.put, List.setIfInBounds_toArray, List.set_cons_zero, List.set_cons_succ])
          refine AnyL.take (i := 0) (v := ?_) rfl (by kernel_rfl) (by kernel_rfl) (by kernel_rfl) (fun _ _ _ h => h) (Or.inl ⟨by rfl, ?_⟩) hH ?_
          rotate_left
          · (intro w hSw; (try dsimp only at hSw); go_simp; (try with_reducible rfl))
          (try simp only [List.getElem_toArray, List.getElem_cons_succ, List.getElem_cons_zero, Act.put, List.setIfInBounds_toArray, List.set_cons_zero, List.set_cons_succ])
          refine AnyL.take (i := 2) (v := ?_) rfl (by kernel_rfl) (by kernel_rfl) (by kernel_rfl) (fun _ _ _ h => h) (Or.inl ⟨by rfl, ?_⟩) hH ?_
          rotate_left
          · (intro w hSw; (try dsimp only at hSw); go_simp; (try with_reducible rfl))
          (try simp only [List.getElem_toArray, List.getElem_cons_succ, List.getElem_cons_zero, Act.put, List.setIfInBounds_toArray, List.set_cons_zero, List.set_cons_succ])
          refine AnyL.take (i := 3) (v := ?_) rfl (by kernel_rfl) (by kernel_rfl) (by kernel_rfl) (fun _ _ _ h => h) (Or.inl ⟨by rfl, ?_⟩) hH ?_
          rotate_left
          · (intro w hSw; (try dsimp only at hSw); go_simp; (try with_reducible rfl))
          (try simp only [List.getElem_toArray, List.getElem_cons_succ, List.getElem_cons_zero, Act.put, List.setIfInBounds_toArray, List.set_cons_zero, List.set_cons_succ])
          refine AnyL.take (i := 4) (v := ?_) rfl (by kernel_rfl) (by kernel_rfl) (by kernel_rfl) (fun _ _ _ h => h) (Or.inl ⟨by rfl, ?_⟩) hH ?_
          rotate_left
          · (intro w hSw; (try dsimp only at hSw); go_simp; (try with_reducible rfl))
          (try simp only [List.getElem_toArray, List.getElem_cons_succ, List.getElem_cons_zero, Act.put, List.setIfInBounds_toArray, List.set_cons_zero, List.set_cons_succ])
          refine AnyL.take (i := 6) (v := ?_) rfl (by kernel_rfl) (by kernel_rfl) (by kernel_rfl) (fun _ _ _ h => h) (Or.inl ⟨by rfl, ?_⟩) hH ?_
          rotate_left
          · (intro w hSw; (try dsimp only at hSw); go_simp; (try with_reducible rfl))
          (try simp only [List.getElem_toArray, List.getElem_cons_succ, List.getElem_cons_zero, Act.put, List.setIfInBounds_toArray, List.set_cons_zero, List.set_cons_succ])
          refine AnyL.step (i := 1) (by kernel_rfl) rfl (fun K hK => ?_)
          (try simp only [List.getElem_toArray, List.getElem_cons_succ, List.getElem_cons_zero])
          go_simp
          go_at_call 82
          refine (HBODY.out _ hgg0).mono ?_
          rintro e w82 ⟨bv, rfl, hbv, hb82⟩
          have hg82 := gb_below hgg0 hb82
          have hst1 := (hb82.block g lgr).trans hst0
          have r0 := (hb82.cell (p := ⟨w.heap.size, 0, none⟩) (World.block_lt_of_cell? _ _ y0)).trans y0
          have r1 := (hb82.cell (p := ⟨w.heap.size, 1, none⟩) (World.block_lt_of_cell? _ _ y1)).trans y1
          have r2 := (hb82.cell (p := ⟨w.heap.size, 2, none⟩) (World.block_lt_of_cell? _ _ y2)).trans y2
          refine hK.out _ _ (.inr ⟨r0, r1, r2⟩) ?_
          clear hK K
          (try simp only [List.getElem_toArray, List.getElem_cons_succ, List.getElem_cons_zero, Act.put, List.setIfInBounds_toArray, List.set_cons_zero, List.set_cons_succ])
          refine AnyL.step (i := 5) (by kernel_rfl) rfl (fun K hK => ?_)
          (try simp only [List.getElem_toArray, List.getElem_cons_succ, List.getElem_cons_zero])
          go_simp
          go_at_call 80
          refine (HSTAMP.out _ hg82 hst1).mono ?_
          rintro e w80 ⟨rfl, hst2, hgs⟩
          have hg80 := gb_trans hg82 hgs
          have hbv' := row_gb hbv hgs lgr
          have s0 := hgs.cell (a := ⟨w.heap.size, 0, none⟩) r0 (fun e => by simp at e; omega)
          have s1 := hgs.cell (a := ⟨w.heap.size, 1, none⟩) r1 (fun e => by simp at e; omega)
          have s2 := hgs.cell (a := ⟨w.heap.size, 2, none⟩) r2 (fun e => by simp at e; omega)
          refine hK.out _ _ (.inr ⟨s0, s1, s2⟩) ?_
          clear hK K
          (try simp only [List.getElem_toArray, List.getElem_cons_succ, List.getElem_cons_zero, Act.put, List.setIfInBounds_toArray, List.set_cons_zero, List.set_cons_succ])
          refine AnyL.step (i := 7) (by kernel_rfl) rfl (fun K hK => ?_)
          (try simp only [List.getElem_toArray, List.getElem_cons_succ, List.getElem_cons_zero])
          go_simp
          go_at_call 47
          refine (HMAKE.out _ _ hg80 hbv').mono ?_
          rintro e w47 hsay
          obtain ⟨hb47, rfl⟩ := hsay.ok HMK.out
          have m0 := (hb47.cell (p := ⟨w.heap.size, 0, none⟩) (World.block_lt_of_cell? _ _ s0)).trans s0
          have m1 := (hb47.cell (p := ⟨w.heap.size, 1, none⟩) (World.block_lt_of_cell? _ _ s1)).trans s1
          have m2 := (hb47.cell (p := ⟨w.heap.size, 2, none⟩) (World.block_lt_of_cell? _ _ s2)).trans s2
          have hres := (hb47.block _ (by have := hg80.size; omega)).trans ((hg80.block _ lres (fun e => by simp at e; omega)).trans HL.out.res)
          obtain ⟨x0, x1, x2, x3, x4, x5, x6, x7, x8⟩ := nine_of hres
          have hz : ∀ i, w47.frozen? ⟨w.heap.size + 1, i, none⟩ = false := fun i => frozen_of_heap hres
          have HRES := Lib.hid hres
          clear hres
          refine hK.out _ _ (.inr ⟨m0, m1, m2⟩) ?_
          clear hK K
          (try simp only [List.getElem_toArray, List.getElem_cons_succ, List.getElem_cons_zero, Act.put, List.setIfInBounds_toArray, List.set_cons_zero, List.set_cons_succ])
          refine AnyL.take (i := 8) (v := ?_) rfl (by kernel_rfl) (by kernel_rfl) (by kernel_rfl) (fun _ _ _ h => h) (Or.inl ⟨by rfl, ?_⟩) ⟨m0, m1, m2⟩ ?_
          rotate_left
          · (intro w hSw; (try dsimp only at hSw); go_simp; (try with_reducible rfl))
          (try simp only [List.getElem_toArray, List.getElem_cons_succ, List.getElem_cons_zero, Act.put, List.setIfInBounds_toArray, List.set_cons_zero, List.set_cons_succ])
          refine AnyL.take (i := 9) (v := ?_) rfl (by kernel_rfl) (by kernel_rfl) (by kernel_rfl) (fun _ _ _ h => h) (Or.inl ⟨by rfl, ?_⟩) ⟨m0, m1, m2⟩ ?_
          rotate_left
          · (intro w hSw; (try dsimp only at hSw); go_simp; (try with_reducible rfl))
          (try simp only [List.getElem_toArray, List.getElem_cons_succ, List.getElem_cons_zero, Act.put, List.setIfInBounds_toArray, List.set_cons_zero, List.set_cons_succ])
          refine AnyL.step (i := 10) (by kernel_rfl) rfl (fun K hK => ?_)
          (try simp only [List.getElem_toArray, List.getElem_cons_succ, List.getElem_cons_zero])
          go_simp
          refine hK.out _ _ (.inr (KEEP.out w47 m0 m1 m2)) ?_
          clear hK K
          (try simp only [List.getElem_toArray, List.getElem_cons_succ, List.getElem_cons_zero, Act.put, List.setIfInBounds_toArray, List.set_cons_zero, List.set_cons_succ])
          refine AnyL.take (i := 11) (v := ?_) rfl (by kernel_rfl) (by kernel_rfl) (by kernel_rfl) (fun _ _ _ h => h) (Or.inl ⟨by rfl, ?_⟩) (KEEP.out w47 m0 m1 m2) ?_
          rotate_left
          · (intro w hSw; (try dsimp only at hSw); go_simp; (try with_reducible rfl))
          (try simp only [List.getElem_toArray, List.getElem_cons_succ, List.getElem_cons_zero, Act.put, List.setIfInBounds_toArray, List.set_cons_zero, List.set_cons_succ])
          refine AnyL.done (by kernel_rfl) ?_ _
          clear x0 x1 x2 x3 x4 x5 x6 x7 x8 hz
          have hgw := gb_below (gb_trans HL.out.grown hg80) hb47
          have lg8 : g < w80.heap.size := Nat.lt_of_lt_of_le lgr hg80.size
          obtain ⟨hpn, hpok⟩ := makeP_okP HMK.out HOKS.out
          have hpr0 := makeP_pr HMK.out
          go_wp2_with fail
          rw [HBL.out, HMK.out]
          refine end79 (X := put9 w47 (w.heap.size + 1) (.int .i64 t.sy) (.int .i64 t.pr) (.int .i64 0) (.int .i64 0) (.int .i64 0) (.int .i64 (stampP sts md').1) (.int .i64 (stampP sts md').2.1) (.bool (stampP sts md').2.2) (.slice va t.kids.length vc)) rfl rfl (put9_heap HRES.out _ _ _ _ _ _ _ _ _) rfl rfl rfl ⟨gb_put9 hgw (by omega) _ _ _ _ _ _ _ _ _, (put9_far w47 (w.heap.size + 1) _ _ _ _ _ _ _ _ _ g (by omega)).trans ((hb47.block g lg8).trans hst2), .inr ⟨pn, .slice va t.kids.length vc, rfl, hpok, ?_, ?_⟩⟩
          · rw [hpn, nodeV_make hpr0]
            rfl
          · have h47 := Kd.V_step (Kd.V_below (HVV.out w80 hg80) hb47) (w1 := put9 w47 (w.heap.size + 1) (.int .i64 t.sy) (.int .i64 t.pr) (.int .i64 0) (.int .i64 0) (.int .i64 0) (.int .i64 (stampP sts md').1) (.int .i64 (stampP sts md').2.1) (.bool (stampP sts md').2.2) (.slice va t.kids.length vc)) (fun k hk hlt => put9_far w47 (w.heap.size + 1) _ _ _ _ _ _ _ _ _ k (by omega))
            rw [hpn]
            exact Kd.V_mono h47 (fun k hk => ⟨by omega, by rw [put9_size]; have := hb47.size; have := hg80.size; omega⟩)

end Go.Proofs.Ytcjpmgfobnaoeaa

/- Plain: the deepest spot; from an offset to the next one; leaves. -/
namespace Go.Proofs.Ytcjpmgfobnaoeaa
set_option linter.unusedVariables false
set_option linter.unusedSimpArgs false

/-! ### Leaves -/
abbrev Tok := Int × Int × Int

/-- The tokens of the visits are the tokens. -/
theorem preN_toks : ∀ n : Nd, n.WF → ∀ a d, (preN a d n).flatMap (fun v : Vs => if v.1.pr < 0 then [(v.1.sy, v.1.ld, v.1.wd)] else []) = n.plain.leaves := by
  refine Nd.ind ?_
  intro n ih h a d
  rw [preN_kids, List.flatMap_cons]
  have hk : ∀ l : List Nd, (∀ k ∈ l, k ∈ n.kids) → ∀ a d, (preK a d l).flatMap (fun v : Vs => if v.1.pr < 0 then [(v.1.sy, v.1.ld, v.1.wd)] else []) = PnsLeaves (l.map Nd.plain) := by
    intro l
    induction l with
    | nil => intro _ a d; rfl
    | cons k ks ihl =>
      intro hl a d
      rw [preK_cons, List.flatMap_append, ih k (hl k (by simp)) (h.kid k (hl k (by simp))), ihl (fun m hm => hl m (by simp [hm]))]
      simp only [List.map_cons]
      rw [PnsLeaves]
  rcases h.cases with ⟨e1, e2, _⟩ | ⟨e1, _⟩
  · rw [if_pos (by simp only []; omega), e2, leaves_leaf (by omega)]
    rfl
  · rw [if_neg (by simp only []; omega), leaves_node e1, hk n.kids (fun _ h => h)]
    rfl

end Go.Proofs.Ytcjpmgfobnaoeaa

/- Two lists of tokens. -/
namespace Go.Proofs.Ytcjpmgfobnaoeaa
set_option linter.unusedVariables false
set_option linter.unusedSimpArgs false
open Go.RowKit

/-- The slice holds these tokens. -/
def ToksAt (w : World) (v : Value) (l : List Tok) : Prop := ∃ A c, v = .slice A l.length c ∧ ∀ i (hi : i < l.length), ∃ g, A = some ⟨g, 0, none⟩ ∧ g < w.heap.size ∧
    w.cell? ⟨g, i * 3, none⟩ = some (.int .i64 l[i].1) ∧ w.cell? ⟨g, i * 3 + 1, none⟩ = some (.int .i64 l[i].2.1) ∧ w.cell? ⟨g, i * 3 + 2, none⟩ = some (.int .i64 l[i].2.2)

theorem toks_get : ∀ (l : List Tok) (i : Nat) (h : i < l.length) (j : Nat), j < 3 → (l.flatMap tokC)[i * 3 + j]? = (tokC l[i])[j]?
  | s :: l, 0, _, j, hj => by
    rw [List.flatMap_cons, Nat.zero_mul, Nat.zero_add, List.getElem?_append_left (by simp [tokC]; omega)]
    rfl
  | s :: l, i + 1, h, j, hj => by
    rw [List.flatMap_cons, List.getElem?_append_right (by simp [tokC]; omega)]
    have := toks_get l i (by simpa using h) j hj
    simp only [List.getElem_cons_succ]
    rw [← this]
    congr 1
    simp only [tokC, List.length_cons, List.length_nil]
    omega
theorem toks_len (l : List Tok) : (l.flatMap tokC).length = l.length * 3 := by
  induction l with
  | nil => rfl
  | cons s l ih => rw [List.flatMap_cons, List.length_append, ih]; simp [tokC]; omega

theorem ToksAt.of_row {w : World} {base n : Nat} {v : Value} {l : List Tok} (h : w.ownsRow base 72 3 v n (l.flatMap tokC)) : ToksAt w v l := by
  have hn : n = l.length := by have := h.1; rw [toks_len] at this; omega
  subst hn
  rcases h.2 with ⟨rfl, h0⟩ | ⟨g, c, cur, rfl, hb, hg, h3, h4, h5, h6⟩
  · exact ⟨none, 0, by rw [h0], fun i hi => by omega⟩
  · refine ⟨_, c, rfl, fun i hi => ?_⟩
    have hc : ∀ j, j < 3 → ∀ u, (tokC l[i])[j]? = some u → w.cell? ⟨g, i * 3 + j, none⟩ = some u := fun j hj u hu => by
      refine cell_of_heap hg ?_
      have := toks_get l i hi j hj
      rw [hu, ← h6, List.getElem?_take] at this
      split at this
      · simpa using this
      · simp at this
    exact ⟨g, rfl, (Array.getElem?_eq_some_iff.1 hg).1, hc 0 (by decide) _ rfl, hc 1 (by decide) _ rfl, hc 2 (by decide) _ rfl⟩
theorem ToksAt.keep {w w' : World} {v : Value} {l : List Tok} (h : ToksAt w v l) (hb : Below w.heap.size w w') : ToksAt w' v l := by
  obtain ⟨A, c, h1, h2⟩ := h
  refine ⟨A, c, h1, fun i hi => ?_⟩
  obtain ⟨g, k1, k2, q0, q1, q2⟩ := h2 i hi
  exact ⟨g, k1, Nat.lt_of_lt_of_le k2 hb.size, (hb.cell (p := ⟨g, _, none⟩) k2).trans q0, (hb.cell (p := ⟨g, _, none⟩) k2).trans q1, (hb.cell (p := ⟨g, _, none⟩) k2).trans q2⟩

/-- nodes.Leaves, with the tokens as the document has them. -/
theorem leaves_is (n : Nd) (w : World) (hin : n.In w) (hwf : n.WF) (hcn : n.cnt ≤ 1000) : Calls Try.prog 42 #[n.ptr] w fun e w' =>
    ∃ v, e = .returned v ∧ ToksAt w' v n.plain.leaves ∧ w'.ownsRow w.heap.size 72 3 v n.plain.leaves.length (n.plain.leaves.flatMap tokC) ∧ Below w.heap.size w w' := by
  refine (leaves_call n w hin hwf hcn).mono ?_
  rintro e w' ⟨v, rfl, hr, hb⟩
  have e1 : (preN 0 0 n).flatMap tokV = n.plain.leaves := preN_toks n hwf 0 0
  rw [e1] at hr
  exact ⟨v, rfl, ToksAt.of_row hr, hr, hb⟩

attribute [local irreducible] Calls
set_option maxRecDepth 100000 in
set_option maxHeartbeats 4000000 in
theorem sameToks_call (v u : Value) (l m : List Tok) (w : World) (h1 : ToksAt w v l) (h2 : ToksAt w u m) (hl : l.length ≤ 1000000) (hm : m.length ≤ 1000000) : Calls Try.prog 50 #[v, u] w fun e w' => e = .returned (.bool (decide (l = m))) ∧ Below w.heap.size w w' := by
  obtain ⟨A, c, rfl, h1⟩ := h1
  obtain ⟨B, d, rfl, h2⟩ := h2
  have H1 := Lib.hid h1
  have H2 := Lib.hid h2
  clear h1 h2
  by_cases hlm : l.length = m.length
  · have hq : ((l.length : Int) != (m.length : Int)) = false := by simp; omega
    have HLM := Lib.hid hlm
    clear hlm
    go_enter Try.func50, Try.ntmps50
    go_wp2_with fail
    go_loopw [5] (fun iv wx => ∃ i : Nat, iv = .int .i64 i ∧ i ≤ l.length ∧ Below w.heap.size w wx ∧ Hid (l.take i = m.take i)) (fun iv _ => l.length - (intOf iv).toNat)
    case atStart => exact ⟨0, rfl, by omega, Below.refl _ _, rfl⟩
    case round =>
      obtain ⟨i, rfl, hi, hbr, HI⟩ := hrel
      by_cases hlt : i < l.length
      · have hlt2 : i < m.length := by have := HLM.out; omega
        obtain ⟨g, rfl, lg, q0, q1, q2⟩ := H1.out i hlt
        obtain ⟨k, rfl, lk, r0, r1, r2⟩ := H2.out i hlt2
        have t1 := List.take_succ_eq_append_getElem hlt
        have t2 := List.take_succ_eq_append_getElem hlt2
        obtain ⟨s, hs⟩ : ∃ s, l[i] = s := ⟨_, rfl⟩
        obtain ⟨t, ht⟩ : ∃ t, m[i] = t := ⟨_, rfl⟩
        rw [hs] at q0 q1 q2 t1
        rw [ht] at r0 r1 r2 t2
        replace q0 := (hbr.cell (p := ⟨g, _, none⟩) lg).trans q0
        replace q1 := (hbr.cell (p := ⟨g, _, none⟩) lg).trans q1
        replace q2 := (hbr.cell (p := ⟨g, _, none⟩) lg).trans q2
        replace r0 := (hbr.cell (p := ⟨k, _, none⟩) lk).trans r0
        replace r1 := (hbr.cell (p := ⟨k, _, none⟩) lk).trans r1
        replace r2 := (hbr.cell (p := ⟨k, _, none⟩) lk).trans r2
        have hltI : (i : Int) < (l.length : Int) := by omega
        have hltI2 : (i : Int) < (m.length : Int) := by omega
        have hi0 : (0 : Int) ≤ (i : Int) := Int.natCast_nonneg _
        by_cases hst : s = t
        · have HT := Lib.hid (show l.take (i + 1) = m.take (i + 1) by rw [t1, t2, HI.out, hst])
          subst hst
          have e0 : (s.1 == s.1) = true := beq_self_eq_true _
          have e1 : (s.2.1 == s.2.1) = true := beq_self_eq_true _
          have e2 : (s.2.2 == s.2.2) = true := beq_self_eq_true _
          clear t1 t2 hs ht
          go_wp2_with fail
          go_quiet (fail)
          go_wp2_with fail
          go_roundw
          case rel => exact ⟨i + 1, by go_num, by omega, ⟨hbr.os, hbr.tape, hbr.output, hbr.size, hbr.block⟩, HT.out⟩
          case measure => simp [intOf]; omega
        · have hne : decide (l = m) = false := by
            refine decide_eq_false fun e => hst ?_
            subst e
            rw [← hs, ← ht]
          have hf : (s.1 == t.1 && (s.2.1 == t.2.1 && (s.2.2 == t.2.2))) = false := by
            rw [Bool.eq_false_iff]
            intro h
            apply hst
            simp only [Bool.and_eq_true, beq_iff_eq] at h
            exact Prod.ext h.1 (Prod.ext h.2.1 h.2.2)
          have heql : ∀ W : World, (binOp .neq 72 (.agg #[.int .i64 s.1, .int .i64 s.2.1, .int .i64 s.2.2]) (.agg #[.int .i64 t.1, .int .i64 t.2.1, .int .i64 t.2.2])).run Try.prog W = .ok (.bool true) W := fun W => by rw [neq72, hf]; rfl
          have HN := Lib.hid hne
          clear hne hf hst t1 t2 hs ht
          go_wp2_with fail
          go_quiet (fail)
          go_wp2_with fail
          go_ret
          exact ⟨by rw [HN.out]; rfl, ⟨hbr.os, hbr.tape, hbr.output, hbr.size, hbr.block⟩⟩
      · have hge : ¬ ((i : Int) < (l.length : Int)) := by omega
        have heq : decide (l = m) = true := by
          have h := HI.out
          have := HLM.out
          rw [List.take_of_length_le (by omega), List.take_of_length_le (by omega)] at h
          exact decide_eq_true h
        have HN := Lib.hid heq
        clear heq
        go_wp2_with fail
        go_ret
        exact ⟨by rw [HN.out]; rfl, hbr⟩
  · have hq : ((l.length : Int) != (m.length : Int)) = true := by simp; omega
    have hne : decide (l = m) = false := decide_eq_false fun e => hlm (by rw [e])
    rw [hne]
    clear hne hlm
    go_enter Try.func50, Try.ntmps50
    go_wp2_with fail
    go_ret
    exact ⟨rfl, Below.refl _ _⟩

end Go.Proofs.Ytcjpmgfobnaoeaa

/- tells, and the reference's Spots. -/
namespace Go.Proofs.Ytcjpmgfobnaoeaa
set_option linter.unusedVariables false
set_option linter.unusedSimpArgs false
open PNodesTell (S79 S72 S57 S66 S64 S24 k79 k72)
open Go.RowKit Go.Proofs.YtcjpmgfobnaoeaaW.PrintWords
attribute [local irreducible] Calls

theorem plain_ok : ∀ n : Nd, n.WF → n.plain.Ok := by
  refine Nd.ind ?_
  intro n ih h
  obtain ⟨a1, a2, _, _⟩ := Nd.WF.adds n h
  refine Pn.Ok.mk' ⟨?_⟩ ?_
  · rw [n.plain_eq]
    simp only [Pn.pr, Pn.kids, Pn.tl, Pn.tw]
    rcases h.cases with ⟨h1, h2, h3, h4, h5, h6, h7, h8, _⟩ | ⟨h1, h2, h3, h4, h5, h6, h7, h8, h9, _⟩
    · refine .inl ⟨by omega, by rw [h2]; rfl, h1, ?_, h7, ?_⟩ <;> (rw [if_pos (by omega)]; omega)
    · have hl := leaves_node (n := n) h1
      refine .inr ⟨h1, by simpa using h2, by rw [if_neg (by omega)], h7, ?_, ?_⟩
      · have : n.plain.bytes = bytesOf (PnsLeaves (n.kids.map Nd.plain)) := by unfold Pn.bytes; rw [hl]
        omega
      · rw [← hl]; omega
  · intro k hk
    rw [n.plain_eq] at hk
    obtain ⟨m, hm, rfl⟩ := List.mem_map.1 hk
    exact ih m hm (h.kid m hm)

/-- The token of a node, as the document has it. -/
def tok79 (n : Nd) : S72 := if n.pr < 0 then ⟨n.sy, n.ld, n.wd⟩ else ⟨0, 0, 0⟩
theorem plain_s79 {n : Nd} (h : n.WF) : n.plain.s79 = ⟨n.sy, n.pr, tok79 n, ⟨n.st, n.lk, n.fm⟩, n.plain.kids.map Pn.s79⟩ := by
  have e : ∀ ld : Int, (Pn.mk n.sy n.pr ld n.wd n.st n.lk n.fm (n.kids.map Nd.plain)).s79 = ⟨n.sy, n.pr, if n.pr < 0 then ⟨n.sy, ld, n.wd⟩ else ⟨0, 0, 0⟩, ⟨n.st, n.lk, n.fm⟩, (n.kids.map Nd.plain).map Pn.s79⟩ := fun ld => Pn.s79_eq _
  rw [n.plain_eq, e]
  unfold tok79
  by_cases hp : n.pr < 0
  · rw [if_pos hp, if_pos hp, if_pos hp]; rfl
  · rw [if_neg hp, if_neg hp]; rfl
theorem plain_kids (n : Nd) : n.plain.kids = n.kids.map Nd.plain := by rw [n.plain_eq]; rfl

theorem SpotsAt.first {w : World} {g m c : Nat} {s : Sp} {l : List Sp} (h : SpotsAt w (.slice (some ⟨g, 0, none⟩) m c) (s :: l)) : SpotsAt (w.setCell ⟨g, 2, none⟩ (.int .i64 0)) (.slice (some ⟨g, 0, none⟩) m c) ({ s with fa := 0 } :: l) := by
  obtain ⟨A, c', h1, h2⟩ := h
  refine ⟨A, c', h1, fun i hi => ?_⟩
  obtain ⟨g', hA, hg, q0, q1, q2, q3, q4⟩ := h2 i hi
  injection h1 with e1 e2 e3
  rw [hA] at e1
  injection e1 with e1
  injection e1 with e1
  subst e1
  have hne : ∀ j, j ≠ 2 → ∀ v, w.cell? ⟨g, j, none⟩ = some v → (w.setCell ⟨g, 2, none⟩ (.int .i64 0)).cell? ⟨g, j, none⟩ = some v := fun j hj v hv => by
    rw [World.cell?_setCell_other _ _ _ _ (by intro e; injection e with _ e; omega)]
    exact hv
  refine ⟨g, hA, by simpa using hg, ?_⟩
  cases i with
  | zero =>
    simp only [List.getElem_cons_zero] at q0 q1 q2 q3 q4 ⊢
    exact ⟨hne _ (by omega) _ q0, hne _ (by omega) _ q1, by rw [show 0 * 5 + 2 = 2 by omega] at q2 ⊢; exact World.cell?_setCell_same _ _ _ q2, hne _ (by omega) _ q3, hne _ (by omega) _ q4⟩
  | succ i =>
    simp only [List.getElem_cons_succ] at q0 q1 q2 q3 q4 ⊢
    exact ⟨hne _ (by omega) _ q0, hne _ (by omega) _ q1, hne _ (by omega) _ q2, hne _ (by omega) _ q3, hne _ (by omega) _ q4⟩

set_option maxRecDepth 100000 in
set_option maxHeartbeats 4000000 in
/-- The reference's Spots. -/
theorem refSpots_call {n : Nd} (hwf : n.WF) (hh : n.ht ≤ 1000000) (hcn : n.cnt ≤ 1000000) {s : S79} (hs : n.plain.s79 = s) {A : Option Addr} {c : Nat} {w : World} (hC : k79.C w A s.f4.length s.f4) (hc : s.f4.length ≤ c) :
    Calls Try.prog 52 #[nodeV s (.slice A s.f4.length c)] w fun e w' => ∃ v, e = .returned v ∧ SpotsAt w' v (spotsN n) ∧ Below w.heap.size w w' := by
  obtain ⟨_, _, _, hht⟩ := Nd.WF.adds n hwf
  have hsp := plain_spots n hwf 0 0
  obtain ⟨s0, l0, e1, e2⟩ := spotsN_raw n
  have hlen : (n.plain.spots 0 0).length ≤ 1000000 := by rw [hsp, List.length_map, preN_len]; exact hcn
  rw [e2]
  rw [e1] at hsp
  have hcall : ∀ W, Below w.heap.size w W → Calls Try.prog 83 #[nodeV s (.slice A s.f4.length c), .int .i64 0, .int .i64 0] W fun e w' => ∃ v, e = .returned v ∧ w'.ownsRow W.heap.size 66 5 v (s0 :: l0).length (spots (s0 :: l0)) ∧ Below W.heap.size W w' := fun W hW => by
    refine (refspots_call (plain_ok n hwf) (by omega) hlen hs (Kd.C_below hC hW) hc).mono fun e w' => ?_
    rintro ⟨v, h1, h2, h3⟩
    rw [hsp] at h2
    exact ⟨v, h1, spots_of_R h2, h3⟩
  unfold nodeV at hcall ⊢
  have HC := Lib.hid hcall
  have HBOX := Lib.hid (heap_alloc_new w (.cells #[.int .i64 s.f0, .int .i64 s.f1, .int .i64 s.f2.f0, .int .i64 s.f2.f1, .int .i64 s.f2.f2, .int .i64 s.f3.f0, .int .i64 s.f3.f1, .bool s.f3.f2, .slice A s.f4.length c] 79))
  have hbl := below_alloc w (.cells #[.int .i64 s.f0, .int .i64 s.f1, .int .i64 s.f2.f0, .int .i64 s.f2.f1, .int .i64 s.f2.f2, .int .i64 s.f3.f0, .int .i64 s.f3.f1, .bool s.f3.f2, .slice A s.f4.length c] 79)
  clear hcall hs hC e1 e2 hsp hlen
  go_enter Try.func52, Try.ntmps52
  apply wp_seq_k
  intro K1 h1
  have H1 := Lib.hid h1
  clear h1
  go_wp2_with fail
  refine H1.out _ _ ?_
  clear H1 K1
  generalize w.alloc (.cells #[.int .i64 s.f0, .int .i64 s.f1, .int .i64 s.f2.f0, .int .i64 s.f2.f1, .int .i64 s.f2.f2, .int .i64 s.f3.f0, .int .i64 s.f3.f1, .bool s.f3.f2, .slice A s.f4.length c] 79) = W at *
  obtain ⟨r0, r1, r2, r3, r4, r5, r6, r7, r8⟩ := nine_of HBOX.out
  go_upto_region 2 with (go_at_call 83; refine (HC.out _ hbl).mono ?_; rintro e w2 ⟨v, rfl, hrow, hb2⟩)
  have hat := SpotsAt.of_row hrow
  rcases hrow.2 with ⟨rfl, h0⟩ | ⟨g, cc, cur, rfl, hb, hg, h3, h4, h5, h6⟩
  · simp at h0
  · have hat2 := hat
    obtain ⟨A', c', e1, h2⟩ := hat2
    obtain ⟨g', e3, hg', q0, q1, q2, q3, q4⟩ := h2 0 (by simp)
    injection e1 with e1 e1b e1c
    subst e1c
    rw [e3] at e1
    injection e1 with e1
    injection e1 with e1
    subst e1
    have q2' : w2.cell? ⟨g, 2, none⟩ = some (.int .i64 s0.fa) := q2
    have hz : w2.frozen? ⟨g, 2, none⟩ = false := frozen_of_heap hg
    have hlI : (0 : Int) < ((s0 :: l0).length : Int) := by simp
    have hlN : 0 < (s0 :: l0).length := by simp
    have HAT := Lib.hid hat.first
    clear q0 q1 q2 q3 q4 hrow hat h2 h6 h5 h4 hg hg' h3 e3 HC e1b
    generalize (s0 :: l0).length = m at *
    go_wp2_with fail
    go_ret
    exact ⟨_, rfl, HAT.out, (hbl.trans (hb2.mono hbl.size)).setCell (p := ⟨g, 2, none⟩) (by show _ ≤ g; have := hbl.size; omega) _⟩

theorem below_drew1' {B : Nat} {w W : World} (h : Below B w W) : Below B w W.drew := ⟨h.os, h.tape, h.output, h.size, h.block⟩

set_option maxRecDepth 100000 in
set_option maxHeartbeats 8000000 in
theorem tells_call (n : Nd) : ∀ (A : Option Addr) (c : Nat) (w : World), n.In w → n.WF → n.ht ≤ 1000000 → k79.C w A n.plain.s79.f4.length n.plain.s79.f4 → n.plain.s79.f4.length ≤ c →
    Calls Try.prog 48 #[n.ptr, nodeV n.plain.s79 (.slice A n.plain.s79.f4.length c)] w fun e w' => e = .returned (.bool true) ∧ Below w.heap.size w w' := by
  revert n
  refine Nd.ind ?_
  intro n ih A c w hin hwf hht hC hc
  have hok := Nd.WF.ok n hwf
  have hpok := plain_ok n hwf
  obtain ⟨a1, a2, a3, a4⟩ := Nd.WF.adds n hwf
  have hl4 : n.plain.s79.f4 = n.plain.kids.map Pn.s79 := by rw [plain_s79 hwf]
  have hl5 : n.plain.s79.f4.length = n.kids.length := by rw [hl4, List.length_map, plain_kids, List.length_map]
  obtain ⟨t0, ht0⟩ : ∃ x, x = (tok79 n).f0 := ⟨_, rfl⟩
  obtain ⟨t1, ht1⟩ : ∃ x, x = (tok79 n).f1 := ⟨_, rfl⟩
  obtain ⟨t2, ht2⟩ : ∃ x, x = (tok79 n).f2 := ⟨_, rfl⟩
  obtain ⟨b, hb⟩ : ∃ x, x = decide (n.pr < 0) := ⟨_, rfl⟩
  have hnv : ∀ kv, nodeV n.plain.s79 kv = .agg #[.int .i64 n.sy, .int .i64 n.pr, .int .i64 t0, .int .i64 t1, .int .i64 t2, .int .i64 n.st, .int .i64 n.lk, .bool n.fm, kv] := fun kv => by rw [plain_s79 hwf, ht0, ht1, ht2]; rfl
  have htok : ∀ W, Below w.heap.size w W → Calls Try.prog 60 #[n.ptr] W fun e w' => e = .returned (.tuple #[.agg #[.int .i64 t0, .int .i64 t1, .int .i64 t2], .bool b]) ∧ Below W.heap.size W w' := fun W hW => by
    rw [ht0, ht1, ht2, hb]
    unfold tok79
    by_cases hp : n.pr < 0
    · rw [if_pos hp, decide_eq_true hp]; exact token_leaf n W (hin.below hW) (by have := hok.ht1; omega) hp
    · rw [if_neg hp, decide_eq_false hp]; exact token_node n W (hin.below hW) (by have := hok.ht1; omega) (by omega)
  have hb77 : ∀ W, Below w.heap.size w W → Calls Try.prog 77 #[nodeV n.plain.s79 (.slice A n.plain.s79.f4.length c)] W fun e w' => e = .returned (.int .i64 n.bt) ∧ Below W.heap.size W w' := fun W hW => by rw [a2]; exact refBytes_call hpok rfl (Kd.C_below hC hW) hc
  have hb78 : ∀ W, Below w.heap.size w W → Calls Try.prog 78 #[nodeV n.plain.s79 (.slice A n.plain.s79.f4.length c)] W fun e w' => e = .returned (.int .i64 n.ld) ∧ Below W.heap.size W w' := fun W hW => by rw [a3]; exact refLead_call hpok rfl (Kd.C_below hC hW) hc
  have hb79 : ∀ W, Below w.heap.size w W → Calls Try.prog 79 #[nodeV n.plain.s79 (.slice A n.plain.s79.f4.length c)] W fun e w' => e = .returned (.int .i64 n.ht) ∧ Below W.heap.size W w' := fun W hW => by rw [a4]; exact refHeight_call hpok (by omega) rfl (Kd.C_below hC hW) hc
  have hb51 : ∀ W, Below w.heap.size w W → Calls Try.prog 51 #[nodeV n.plain.s79 (.slice A n.plain.s79.f4.length c)] W fun e w' => ∃ v, e = .returned v ∧ k72.R 72 w' W.heap.size (fun _ => True) v (n.plain.leaves.map t72) ∧ Below W.heap.size W w' := fun W hW => refLeaves_call hpok rfl (Kd.C_below hC hW) hc
  rw [hnv] at hb77 hb78 hb79 hb51 ⊢
  rw [hl5] at hb77 hb78 hb79 hb51 ⊢
  have HTOK := Lib.hid htok
  have HRB := Lib.hid hb77
  have HRL := Lib.hid hb78
  have HRH := Lib.hid hb79
  have HLV := Lib.hid hb51
  have HKD := Lib.hid (fun W (hW : Below w.heap.size w W) => kids_some n W (hin.below hW) (by have := hok.ht1; omega) (by have := hok.klen; omega))
  have HSY := Lib.hid (fun W (hW : Below w.heap.size w W) => sym_some n W (hin.below hW) (by have := hok.ht1; omega))
  have HPR := Lib.hid (fun W (hW : Below w.heap.size w W) => prod_some n W (hin.below hW) (by have := hok.ht1; omega))
  have HST := Lib.hid (fun W (hW : Below w.heap.size w W) => stamp_some n W (hin.below hW) (by have := hok.ht1; omega))
  have HTK := Lib.hid (fun W (hW : Below w.heap.size w W) => tokens_some n W (hin.below hW))
  have HBT := Lib.hid (fun W (hW : Below w.heap.size w W) => bytes_some n W (hin.below hW))
  have HLD := Lib.hid (fun W (hW : Below w.heap.size w W) => lead_some n W (hin.below hW))
  have HHT := Lib.hid (fun W (hW : Below w.heap.size w W) => height_some n W (hin.below hW))
  have HBOX := Lib.hid (heap_alloc_new w (.cells #[.int .i64 n.sy, .int .i64 n.pr, .int .i64 t0, .int .i64 t1, .int .i64 t2, .int .i64 n.st, .int .i64 n.lk, .bool n.fm, .slice A n.kids.length c] 79))
  have hbl := below_alloc w (.cells #[.int .i64 n.sy, .int .i64 n.pr, .int .i64 t0, .int .i64 t1, .int .i64 t2, .int .i64 n.st, .int .i64 n.lk, .bool n.fm, .slice A n.kids.length c] 79)
  have hlt0 : w.heap.size < (w.alloc (.cells #[.int .i64 n.sy, .int .i64 n.pr, .int .i64 t0, .int .i64 t1, .int .i64 t2, .int .i64 n.st, .int .i64 n.lk, .bool n.fm, .slice A n.kids.length c] 79)).heap.size := by simp
  have HIH := Lib.hid ih
  have HIN := Lib.hid (And.intro hin hwf)
  have HC := Lib.hid (And.intro hC hc)
  have HL := Lib.hid (And.intro hl4 hl5)
  have HLEN := Lib.hid a1
  have HB := Lib.hid hb
  have hkl := hok.klen
  clear htok hb77 hb78 hb79 hb51 hnv ih hin hwf hC hc hl4 hl5 a1 a2 a3 a4 hpok hok ht0 ht1 ht2 hb
  unfold Nd.ptr at *
  go_enter Try.func48, Try.ntmps48
  apply wp_seq_k
  intro K1 h1
  have H1 := Lib.hid h1
  clear h1
  go_wp2_with fail
  refine H1.out _ _ ?_
  clear H1 K1
  generalize w.alloc (.cells #[.int .i64 n.sy, .int .i64 n.pr, .int .i64 t0, .int .i64 t1, .int .i64 t2, .int .i64 n.st, .int .i64 n.lk, .bool n.fm, .slice A n.kids.length c] 79) = W at *
  go_upto_region 3 with (first
    | (go_at_call 60; refine (HTOK.out _ hbl).mono ?_; rintro e w1 ⟨rfl, hs1⟩; have hb1 := hbl.trans (hs1.mono hbl.size); have hb1' := hb1.trans ((below_alloc w1 (.cells #[.int .i64 t0, .int .i64 t1, .int .i64 t2] 72)).mono hb1.size))
    | (go_at_call 34; refine (HKD.out _ hb1').mono ?_; rintro e w2 ⟨v2, rfl, hr2, hs2⟩; obtain ⟨A2, c2, rfl, hc2⟩ := ownsRow_any hr2; have HKC := Lib.hid hc2; clear hr2 hc2))
  have hs12 := (below_alloc w1 (.cells #[.int .i64 t0, .int .i64 t1, .int .i64 t2] 72)).trans (hs2.mono (by simp))
  have hb2 := hb1.trans (hs12.mono hb1.size)
  have htb : w2.heap[w1.heap.size]? = some (.cells #[.int .i64 t0, .int .i64 t1, .int .i64 t2] 72 (0, 0)) := (hs2.block _ (by simp)).trans (heap_alloc_new w1 _)
  have hbx : w2.heap[w.heap.size]? = some (.cells #[.int .i64 n.sy, .int .i64 n.pr, .int .i64 t0, .int .i64 t1, .int .i64 t2, .int .i64 n.st, .int .i64 n.lk, .bool n.fm, .slice A n.kids.length c] 79 (0, 0)) := (hs12.block _ (by have := hs1.size; omega)).trans ((hs1.block _ hlt0).trans HBOX.out)
  have HBX := Lib.hid hbx
  have hsb : Below W.heap.size W w2 := hs1.trans (hs12.mono hs1.size)
  clear hb1'
  obtain ⟨r0, r1, r2, r3, r4, r5, r6, r7, r8⟩ := nine_of hbx
  have q0 : w2.cell? ⟨w1.heap.size, 0, none⟩ = some (.int .i64 t0) := cell_of_heap htb rfl
  have q1 : w2.cell? ⟨w1.heap.size, 1, none⟩ = some (.int .i64 t1) := cell_of_heap htb rfl
  have q2 : w2.cell? ⟨w1.heap.size, 2, none⟩ = some (.int .i64 t2) := cell_of_heap htb rfl
  have f0 : ∀ s : Sb w2, s.w.cell? ⟨w.heap.size, 0, none⟩ = some (.int .i64 n.sy) := fun s => s.cell r0
  have f1 : ∀ s : Sb w2, s.w.cell? ⟨w.heap.size, 1, none⟩ = some (.int .i64 n.pr) := fun s => s.cell r1
  have f2 : ∀ s : Sb w2, s.w.cell? ⟨w.heap.size, 2, none⟩ = some (.int .i64 t0) := fun s => s.cell r2
  have f3 : ∀ s : Sb w2, s.w.cell? ⟨w.heap.size, 3, none⟩ = some (.int .i64 t1) := fun s => s.cell r3
  have f4 : ∀ s : Sb w2, s.w.cell? ⟨w.heap.size, 4, none⟩ = some (.int .i64 t2) := fun s => s.cell r4
  have f5 : ∀ s : Sb w2, s.w.cell? ⟨w.heap.size, 5, none⟩ = some (.int .i64 n.st) := fun s => s.cell r5
  have f6 : ∀ s : Sb w2, s.w.cell? ⟨w.heap.size, 6, none⟩ = some (.int .i64 n.lk) := fun s => s.cell r6
  have f7 : ∀ s : Sb w2, s.w.cell? ⟨w.heap.size, 7, none⟩ = some (.bool n.fm) := fun s => s.cell r7
  have f8 : ∀ s : Sb w2, s.w.cell? ⟨w.heap.size, 8, none⟩ = some (.slice A n.kids.length c) := fun s => s.cell r8
  have g0 : ∀ s : Sb w2, s.w.cell? ⟨w1.heap.size, 0, none⟩ = some (.int .i64 t0) := fun s => s.cell q0
  have g1 : ∀ s : Sb w2, s.w.cell? ⟨w1.heap.size, 1, none⟩ = some (.int .i64 t1) := fun s => s.cell q1
  have g2 : ∀ s : Sb w2, s.w.cell? ⟨w1.heap.size, 2, none⟩ = some (.int .i64 t2) := fun s => s.cell q2
  have k32 : ∀ s : Sb w2, Calls Try.prog 32 #[.pointer (some ⟨n.b, 0, none⟩)] s.w fun e w' => e = .returned (.int .i64 n.sy) ∧ ∃ s' : Sb w2, w' = s'.w := fun s => Calls.sb_same (HSY.out _ (hb2.trans (s.below.mono hb2.size)))
  have k44 : ∀ s : Sb w2, Calls Try.prog 44 #[.pointer (some ⟨n.b, 0, none⟩)] s.w fun e w' => e = .returned (.int .i64 n.pr) ∧ ∃ s' : Sb w2, w' = s'.w := fun s => Calls.sb_same (HPR.out _ (hb2.trans (s.below.mono hb2.size)))
  have k61 : ∀ s : Sb w2, Calls Try.prog 61 #[.pointer (some ⟨n.b, 0, none⟩)] s.w fun e w' => e = .returned (.agg #[.int .i64 n.st, .int .i64 n.lk, .bool n.fm]) ∧ ∃ s' : Sb w2, w' = s'.w := fun s => Calls.sb (HST.out _ (hb2.trans (s.below.mono hb2.size)))
  have K32 := Lib.hid k32
  have K44 := Lib.hid k44
  have K61 := Lib.hid k61
  have e0 : (n.sy != n.sy) = false := bne_self_eq_false _
  have e1 : (n.pr != n.pr) = false := bne_self_eq_false _
  have e2 : (binOp .neq 57 (.agg #[.int .i64 n.st, .int .i64 n.lk, .bool n.fm]) (.agg #[.int .i64 n.st, .int .i64 n.lk, .bool n.fm])) = (binOp .neq 57 (.agg #[.int .i64 n.st, .int .i64 n.lk, .bool n.fm]) (.agg #[.int .i64 n.st, .int .i64 n.lk, .bool n.fm])) := rfl
  have e5 : ((n.kids.length : Int) != (n.kids.length : Int)) = false := bne_self_eq_false _
  have eb : decide (n.pr < 0) = b := HB.out.symm
  have ebb : (b != b) = false := bne_self_eq_false _
  have e57 : ∀ X : World, (binOp .neq 57 (.agg #[.int .i64 n.st, .int .i64 n.lk, .bool n.fm]) (.agg #[.int .i64 n.st, .int .i64 n.lk, .bool n.fm])).run Try.prog X = .ok (.bool false) X := fun X => by rw [neq57]; simp
  have e72 : ∀ X : World, (binOp .neq 72 (.agg #[.int .i64 t0, .int .i64 t1, .int .i64 t2]) (.agg #[.int .i64 t0, .int .i64 t1, .int .i64 t2])).run Try.prog X = .ok (.bool false) X := fun X => by rw [neq72]; simp
  clear k32 k44 k61 e2 r0 r1 r2 r3 r4 r5 r6 r7 r8 q0 q1 q2 hbx htb
  refine wp_region_sb (by kernel_rfl) (by kernel_rfl) ?_
  repeat (go_big_quiet_step (first | (go_at_call 32; exact K32.out _) | (go_at_call 44; exact K44.out _) | (go_at_call 61; exact K61.out _)))
  refine wpQuiet_nil ?_
  intro s3
  clear f0 f1 f2 f3 f4 f5 f6 f7 f8 g0 g1 g2 e0 e1 e5 eb ebb e57 e72
  have hb3 := hb2.trans (s3.below.mono hb2.size)
  have hbx3 := (s3.below.block _ (Array.getElem?_eq_some_iff.1 HBX.out).1).trans HBX.out
  have hsW := s3.below
  clear HBX
  generalize s3.w = w0 at *
  clear s3
  go_upto_region 5 with fail
  have hlt3 := (Array.getElem?_eq_some_iff.1 hbx3).1
  have SK := Lib.hid (fun X (hX : Below w0.heap.size w0 X) => And.intro ((hX.cell (p := ⟨w.heap.size, 0, none⟩) hlt3).trans (cell_of_heap hbx3 rfl)) (And.intro ((hX.cell (p := ⟨w.heap.size, 1, none⟩) hlt3).trans (cell_of_heap hbx3 rfl)) (And.intro ((hX.cell (p := ⟨w.heap.size, 2, none⟩) hlt3).trans (cell_of_heap hbx3 rfl)) (And.intro ((hX.cell (p := ⟨w.heap.size, 3, none⟩) hlt3).trans (cell_of_heap hbx3 rfl)) (And.intro ((hX.cell (p := ⟨w.heap.size, 4, none⟩) hlt3).trans (cell_of_heap hbx3 rfl)) (And.intro ((hX.cell (p := ⟨w.heap.size, 5, none⟩) hlt3).trans (cell_of_heap hbx3 rfl)) (And.intro ((hX.cell (p := ⟨w.heap.size, 6, none⟩) hlt3).trans (cell_of_heap hbx3 rfl)) (And.intro ((hX.cell (p := ⟨w.heap.size, 7, none⟩) hlt3).trans (cell_of_heap hbx3 rfl)) ((hX.cell (p := ⟨w.heap.size, 8, none⟩) hlt3).trans (cell_of_heap hbx3 rfl))))))))))
  have SK : Hid (∀ X, Below w0.heap.size w0 X → (fun X => X.cell? ⟨w.heap.size, 0, none⟩ = some (.int .i64 n.sy) ∧ X.cell? ⟨w.heap.size, 1, none⟩ = some (.int .i64 n.pr) ∧ X.cell? ⟨w.heap.size, 2, none⟩ = some (.int .i64 t0) ∧ X.cell? ⟨w.heap.size, 3, none⟩ = some (.int .i64 t1) ∧ X.cell? ⟨w.heap.size, 4, none⟩ = some (.int .i64 t2) ∧ X.cell? ⟨w.heap.size, 5, none⟩ = some (.int .i64 n.st) ∧ X.cell? ⟨w.heap.size, 6, none⟩ = some (.int .i64 n.lk) ∧ X.cell? ⟨w.heap.size, 7, none⟩ = some (.bool n.fm) ∧ X.cell? ⟨w.heap.size, 8, none⟩ = some (.slice A n.kids.length c)) X) := Lib.hid SK.out
  have eL : (n.tk != ((n.plain.leaves.length : Nat) : Int)) = false := by rw [HLEN.out]; exact bne_self_eq_false _
  have eb1 : (n.bt != n.bt) = false := bne_self_eq_false _
  have eb2 : (n.ld != n.ld) = false := bne_self_eq_false _
  have eb3 : (n.ht != n.ht) = false := bne_self_eq_false _
  refine wp_region_last (S := fun X => X.cell? ⟨w.heap.size, 0, none⟩ = some (.int .i64 n.sy) ∧ X.cell? ⟨w.heap.size, 1, none⟩ = some (.int .i64 n.pr) ∧ X.cell? ⟨w.heap.size, 2, none⟩ = some (.int .i64 t0) ∧ X.cell? ⟨w.heap.size, 3, none⟩ = some (.int .i64 t1) ∧ X.cell? ⟨w.heap.size, 4, none⟩ = some (.int .i64 t2) ∧ X.cell? ⟨w.heap.size, 5, none⟩ = some (.int .i64 n.st) ∧ X.cell? ⟨w.heap.size, 6, none⟩ = some (.int .i64 n.lk) ∧ X.cell? ⟨w.heap.size, 7, none⟩ = some (.bool n.fm) ∧ X.cell? ⟨w.heap.size, 8, none⟩ = some (.slice A n.kids.length c)) (by kernel_rfl) (SK.out _ (below_drew1' (Below.refl _ _))) 27 rfl (fun hH => ?_)
  (try simp only [List.getElem_toArray, List.getElem_cons_succ, List.getElem_cons_zero, Act.put, List.setIfInBounds_toArray, List.set_cons_zero, List.set_cons_succ])
  have hz1 := below_drew1' (Below.refl w0.heap.size w0)
  have S1 := hH
  refine AnyL.take (i := 0) (v := ?_) rfl (by kernel_rfl) (by kernel_rfl) (by kernel_rfl) (fun _ _ _ h => h) (Or.inl ⟨by rfl, ?_⟩) S1 ?_
  rotate_left
  · (intro w hSw; (try dsimp only at hSw); go_simp; (try with_reducible rfl))
  (try simp only [List.getElem_toArray, List.getElem_cons_succ, List.getElem_cons_zero, Act.put, List.setIfInBounds_toArray, List.set_cons_zero, List.set_cons_succ])
  refine AnyL.take (i := 2) (v := ?_) rfl (by kernel_rfl) (by kernel_rfl) (by kernel_rfl) (fun _ _ _ h => h) (Or.inl ⟨by rfl, ?_⟩) S1 ?_
  rotate_left
  · (intro w hSw; (try dsimp only at hSw); go_simp; (try with_reducible rfl))
  (try simp only [List.getElem_toArray, List.getElem_cons_succ, List.getElem_cons_zero, Act.put, List.setIfInBounds_toArray, List.set_cons_zero, List.set_cons_succ])
  refine AnyL.step (i := 1) (by kernel_rfl) rfl (fun K hK => ?_)
  (try simp only [List.getElem_toArray, List.getElem_cons_succ, List.getElem_cons_zero])
  go_simp
  go_at_call 24
  refine (HTK.out _ (hb3.trans (hz1.mono hb3.size))).mono ?_
  rintro e x2 ⟨rfl, hs2⟩
  have hz2 := hz1.trans (hs2.mono hz1.size)
  have S2 := SK.out _ hz2
  refine hK.out _ _ (.inr S2) ?_
  clear hK K
  (try simp only [List.getElem_toArray, List.getElem_cons_succ, List.getElem_cons_zero, Act.put, List.setIfInBounds_toArray, List.set_cons_zero, List.set_cons_succ])
  refine AnyL.step (i := 3) (by kernel_rfl) rfl (fun K hK => ?_)
  (try simp only [List.getElem_toArray, List.getElem_cons_succ, List.getElem_cons_zero])
  go_simp
  go_at_call 51
  refine (HLV.out _ (hb3.trans (hz2.mono hb3.size))).mono ?_
  rintro e x3 ⟨v3, rfl, hR3, hs3⟩
  obtain ⟨AA3, cc3, ee3⟩ := Kd.R_slice hR3
  rw [List.length_map] at ee3
  subst ee3
  have hz3 := hz2.trans (hs3.mono hz2.size)
  have S3 := SK.out _ hz3
  refine hK.out _ _ (.inr S3) ?_
  clear hK K
  (try simp only [List.getElem_toArray, List.getElem_cons_succ, List.getElem_cons_zero, Act.put, List.setIfInBounds_toArray, List.set_cons_zero, List.set_cons_succ])
  refine AnyL.take (i := 4) (v := ?_) rfl (by kernel_rfl) (by kernel_rfl) (by kernel_rfl) (fun _ _ _ h => h) (Or.inl ⟨by rfl, ?_⟩) S3 ?_
  rotate_left
  · (intro w hSw; (try dsimp only at hSw); go_simp; (try with_reducible rfl))
  (try simp only [List.getElem_toArray, List.getElem_cons_succ, List.getElem_cons_zero, Act.put, List.setIfInBounds_toArray, List.set_cons_zero, List.set_cons_succ])
  refine AnyL.take (i := 5) (v := ?_) rfl (by kernel_rfl) (by kernel_rfl) (by kernel_rfl) (fun _ _ _ h => h) (Or.inl ⟨by rfl, ?_⟩) S3 ?_
  rotate_left
  · (intro w hSw; (try dsimp only at hSw); go_simp; (try with_reducible rfl))
  (try simp only [List.getElem_toArray, List.getElem_cons_succ, List.getElem_cons_zero, Act.put, List.setIfInBounds_toArray, List.set_cons_zero, List.set_cons_succ])
  refine AnyL.take (i := 6) (v := ?_) rfl (by kernel_rfl) (by kernel_rfl) (by kernel_rfl) (fun _ _ _ h => h) (Or.inl ⟨by rfl, ?_⟩) S3 ?_
  rotate_left
  · (intro w hSw; (try dsimp only at hSw); go_simp; (try with_reducible rfl))
  (try simp only [List.getElem_toArray, List.getElem_cons_succ, List.getElem_cons_zero, Act.put, List.setIfInBounds_toArray, List.set_cons_zero, List.set_cons_succ])
  refine AnyL.take (i := 7) (v := ?_) rfl (by kernel_rfl) (by kernel_rfl) (by kernel_rfl) (fun _ _ _ h => h) (Or.inl ⟨by rfl, ?_⟩) S3 ?_
  rotate_left
  · (intro w hSw; (try dsimp only at hSw); go_simp; (try with_reducible rfl))
  (try simp only [List.getElem_toArray, List.getElem_cons_succ, List.getElem_cons_zero, Act.put, List.setIfInBounds_toArray, List.set_cons_zero, List.set_cons_succ])
  refine AnyL.take (i := 9) (v := ?_) rfl (by kernel_rfl) (by kernel_rfl) (by kernel_rfl) (fun _ _ _ h => h) (Or.inl ⟨by rfl, ?_⟩) S3 ?_
  rotate_left
  · (intro w hSw; (try dsimp only at hSw); go_simp; (try with_reducible rfl))
  (try simp only [List.getElem_toArray, List.getElem_cons_succ, List.getElem_cons_zero, Act.put, List.setIfInBounds_toArray, List.set_cons_zero, List.set_cons_succ])
  refine AnyL.step (i := 8) (by kernel_rfl) rfl (fun K hK => ?_)
  (try simp only [List.getElem_toArray, List.getElem_cons_succ, List.getElem_cons_zero])
  go_simp
  go_at_call 36
  refine (HBT.out _ (hb3.trans (hz3.mono hb3.size))).mono ?_
  rintro e x4 ⟨rfl, hs4⟩
  have hz4 := hz3.trans (hs4.mono hz3.size)
  have S4 := SK.out _ hz4
  refine hK.out _ _ (.inr S4) ?_
  clear hK K
  (try simp only [List.getElem_toArray, List.getElem_cons_succ, List.getElem_cons_zero, Act.put, List.setIfInBounds_toArray, List.set_cons_zero, List.set_cons_succ])
  refine AnyL.step (i := 10) (by kernel_rfl) rfl (fun K hK => ?_)
  (try simp only [List.getElem_toArray, List.getElem_cons_succ, List.getElem_cons_zero])
  go_simp
  go_at_call 77
  refine (HRB.out _ (hb3.trans (hz4.mono hb3.size))).mono ?_
  rintro e x5 ⟨rfl, hs5⟩
  have hz5 := hz4.trans (hs5.mono hz4.size)
  have S5 := SK.out _ hz5
  refine hK.out _ _ (.inr S5) ?_
  clear hK K
  (try simp only [List.getElem_toArray, List.getElem_cons_succ, List.getElem_cons_zero, Act.put, List.setIfInBounds_toArray, List.set_cons_zero, List.set_cons_succ])
  refine AnyL.take (i := 11) (v := ?_) rfl (by kernel_rfl) (by kernel_rfl) (by kernel_rfl) (fun _ _ _ h => h) (Or.inl ⟨by rfl, ?_⟩) S5 ?_
  rotate_left
  · (intro w hSw; (try dsimp only at hSw); go_simp; (try with_reducible rfl))
  (try simp only [List.getElem_toArray, List.getElem_cons_succ, List.getElem_cons_zero, Act.put, List.setIfInBounds_toArray, List.set_cons_zero, List.set_cons_succ])
  refine AnyL.take (i := 12) (v := ?_) rfl (by kernel_rfl) (by kernel_rfl) (by kernel_rfl) (fun _ _ _ h => h) (Or.inl ⟨by rfl, ?_⟩) S5 ?_
  rotate_left
  · (intro w hSw; (try dsimp only at hSw); go_simp; (try with_reducible rfl))
  (try simp only [List.getElem_toArray, List.getElem_cons_succ, List.getElem_cons_zero, Act.put, List.setIfInBounds_toArray, List.set_cons_zero, List.set_cons_succ])
  refine AnyL.take (i := 13) (v := ?_) rfl (by kernel_rfl) (by kernel_rfl) (by kernel_rfl) (fun _ _ _ h => h) (Or.inl ⟨by rfl, ?_⟩) S5 ?_
  rotate_left
  · (intro w hSw; (try dsimp only at hSw); go_simp; (try with_reducible rfl))
  (try simp only [List.getElem_toArray, List.getElem_cons_succ, List.getElem_cons_zero, Act.put, List.setIfInBounds_toArray, List.set_cons_zero, List.set_cons_succ])
  refine AnyL.take (i := 14) (v := ?_) rfl (by kernel_rfl) (by kernel_rfl) (by kernel_rfl) (fun _ _ _ h => h) (Or.inl ⟨by rfl, ?_⟩) S5 ?_
  rotate_left
  · (intro w hSw; (try dsimp only at hSw); go_simp; (try with_reducible rfl))
  (try simp only [List.getElem_toArray, List.getElem_cons_succ, List.getElem_cons_zero, Act.put, List.setIfInBounds_toArray, List.set_cons_zero, List.set_cons_succ])
  refine AnyL.take (i := 16) (v := ?_) rfl (by kernel_rfl) (by kernel_rfl) (by kernel_rfl) (fun _ _ _ h => h) (Or.inl ⟨by rfl, ?_⟩) S5 ?_
  rotate_left
  · (intro w hSw; (try dsimp only at hSw); go_simp; (try with_reducible rfl))
  (try simp only [List.getElem_toArray, List.getElem_cons_succ, List.getElem_cons_zero, Act.put, List.setIfInBounds_toArray, List.set_cons_zero, List.set_cons_succ])
  refine AnyL.step (i := 15) (by kernel_rfl) rfl (fun K hK => ?_)
  (try simp only [List.getElem_toArray, List.getElem_cons_succ, List.getElem_cons_zero])
  go_simp
  go_at_call 37
  refine (HLD.out _ (hb3.trans (hz5.mono hb3.size))).mono ?_
  rintro e x6 ⟨rfl, hs6⟩
  have hz6 := hz5.trans (hs6.mono hz5.size)
  have S6 := SK.out _ hz6
  refine hK.out _ _ (.inr S6) ?_
  clear hK K
  (try simp only [List.getElem_toArray, List.getElem_cons_succ, List.getElem_cons_zero, Act.put, List.setIfInBounds_toArray, List.set_cons_zero, List.set_cons_succ])
  refine AnyL.step (i := 17) (by kernel_rfl) rfl (fun K hK => ?_)
  (try simp only [List.getElem_toArray, List.getElem_cons_succ, List.getElem_cons_zero])
  go_simp
  go_at_call 78
  refine (HRL.out _ (hb3.trans (hz6.mono hb3.size))).mono ?_
  rintro e x7 ⟨rfl, hs7⟩
  have hz7 := hz6.trans (hs7.mono hz6.size)
  have S7 := SK.out _ hz7
  refine hK.out _ _ (.inr S7) ?_
  clear hK K
  (try simp only [List.getElem_toArray, List.getElem_cons_succ, List.getElem_cons_zero, Act.put, List.setIfInBounds_toArray, List.set_cons_zero, List.set_cons_succ])
  refine AnyL.take (i := 18) (v := ?_) rfl (by kernel_rfl) (by kernel_rfl) (by kernel_rfl) (fun _ _ _ h => h) (Or.inl ⟨by rfl, ?_⟩) S7 ?_
  rotate_left
  · (intro w hSw; (try dsimp only at hSw); go_simp; (try with_reducible rfl))
  (try simp only [List.getElem_toArray, List.getElem_cons_succ, List.getElem_cons_zero, Act.put, List.setIfInBounds_toArray, List.set_cons_zero, List.set_cons_succ])
  refine AnyL.take (i := 19) (v := ?_) rfl (by kernel_rfl) (by kernel_rfl) (by kernel_rfl) (fun _ _ _ h => h) (Or.inl ⟨by rfl, ?_⟩) S7 ?_
  rotate_left
  · (intro w hSw; (try dsimp only at hSw); go_simp; (try with_reducible rfl))
  (try simp only [List.getElem_toArray, List.getElem_cons_succ, List.getElem_cons_zero, Act.put, List.setIfInBounds_toArray, List.set_cons_zero, List.set_cons_succ])
  refine AnyL.take (i := 20) (v := ?_) rfl (by kernel_rfl) (by kernel_rfl) (by kernel_rfl) (fun _ _ _ h => h) (Or.inl ⟨by rfl, ?_⟩) S7 ?_
  rotate_left
  · (intro w hSw; (try dsimp only at hSw); go_simp; (try with_reducible rfl))
  (try simp only [List.getElem_toArray, List.getElem_cons_succ, List.getElem_cons_zero, Act.put, List.setIfInBounds_toArray, List.set_cons_zero, List.set_cons_succ])
  refine AnyL.take (i := 21) (v := ?_) rfl (by kernel_rfl) (by kernel_rfl) (by kernel_rfl) (fun _ _ _ h => h) (Or.inl ⟨by rfl, ?_⟩) S7 ?_
  rotate_left
  · (intro w hSw; (try dsimp only at hSw); go_simp; (try with_reducible rfl))
  (try simp only [List.getElem_toArray, List.getElem_cons_succ, List.getElem_cons_zero, Act.put, List.setIfInBounds_toArray, List.set_cons_zero, List.set_cons_succ])
  refine AnyL.take (i := 23) (v := ?_) rfl (by kernel_rfl) (by kernel_rfl) (by kernel_rfl) (fun _ _ _ h => h) (Or.inl ⟨by rfl, ?_⟩) S7 ?_
  rotate_left
  · (intro w hSw; (try dsimp only at hSw); go_simp; (try with_reducible rfl))
  (try simp only [List.getElem_toArray, List.getElem_cons_succ, List.getElem_cons_zero, Act.put, List.setIfInBounds_toArray, List.set_cons_zero, List.set_cons_succ])
  refine AnyL.step (i := 22) (by kernel_rfl) rfl (fun K hK => ?_)
  (try simp only [List.getElem_toArray, List.getElem_cons_succ, List.getElem_cons_zero])
  go_simp
  go_at_call 62
  refine (HHT.out _ (hb3.trans (hz7.mono hb3.size))).mono ?_
  rintro e x8 ⟨rfl, hs8⟩
  have hz8 := hz7.trans (hs8.mono hz7.size)
  have S8 := SK.out _ hz8
  refine hK.out _ _ (.inr S8) ?_
  clear hK K
  (try simp only [List.getElem_toArray, List.getElem_cons_succ, List.getElem_cons_zero, Act.put, List.setIfInBounds_toArray, List.set_cons_zero, List.set_cons_succ])
  refine AnyL.step (i := 24) (by kernel_rfl) rfl (fun K hK => ?_)
  (try simp only [List.getElem_toArray, List.getElem_cons_succ, List.getElem_cons_zero])
  go_simp
  go_at_call 79
  refine (HRH.out _ (hb3.trans (hz8.mono hb3.size))).mono ?_
  rintro e x9 ⟨rfl, hs9⟩
  have hz9 := hz8.trans (hs9.mono hz8.size)
  have S9 := SK.out _ hz9
  refine hK.out _ _ (.inr S9) ?_
  clear hK K
  (try simp only [List.getElem_toArray, List.getElem_cons_succ, List.getElem_cons_zero, Act.put, List.setIfInBounds_toArray, List.set_cons_zero, List.set_cons_succ])
  refine AnyL.take (i := 25) (v := ?_) rfl (by kernel_rfl) (by kernel_rfl) (by kernel_rfl) (fun _ _ _ h => h) (Or.inl ⟨by rfl, ?_⟩) S9 ?_
  rotate_left
  · (intro w hSw; (try dsimp only at hSw); go_simp; (try with_reducible rfl))
  (try simp only [List.getElem_toArray, List.getElem_cons_succ, List.getElem_cons_zero, Act.put, List.setIfInBounds_toArray, List.set_cons_zero, List.set_cons_succ])
  refine AnyL.take (i := 26) (v := ?_) rfl (by kernel_rfl) (by kernel_rfl) (by kernel_rfl) (fun _ _ _ h => h) (Or.inl ⟨by rfl, ?_⟩) S9 ?_
  rotate_left
  · (intro w hSw; (try dsimp only at hSw); go_simp; (try with_reducible rfl))
  (try simp only [List.getElem_toArray, List.getElem_cons_succ, List.getElem_cons_zero, Act.put, List.setIfInBounds_toArray, List.set_cons_zero, List.set_cons_succ])
  refine AnyL.done (by kernel_rfl) ?_ _
  clear eL eb1 eb2 eb3 S1 S2 S3 S4 S5 S6 S7 S8 S9 hH hR3 HTK HBT HLD HHT HRB HRL HRH HLV K32 K44 K61 HSY HPR HST HKD HTOK
  have hbase := hsW.trans (hz9.mono hsW.size)
  have hb9 := hb3.trans (hz9.mono hb3.size)
  have hx9 := (hz9.block _ hlt3).trans hbx3
  have HX9 := Lib.hid hx9
  clear hz1 hz2 hz3 hz4 hz5 hz6 hz7 hz8 hz9 hs2 hs3 hsW hbx3 SK hx9
  go_wp2_with fail
  go_loopw [8] (fun iv wx => ∃ i : Nat, iv = .int .i64 i ∧ i ≤ n.kids.length ∧ Below x9.heap.size x9 wx) (fun iv _ => n.kids.length - (intOf iv).toNat)
  case atStart => exact ⟨0, rfl, by omega, Below.refl _ _⟩
  case round =>
    obtain ⟨i, rfl, hi, hbr⟩ := hrel
    have hwr := hb9.trans (hbr.mono hb9.size)
    have hx9r := (hbr.block _ (Array.getElem?_eq_some_iff.1 HX9.out).1).trans HX9.out
    by_cases hlt : i < n.kids.length
    · obtain ⟨gk, rfl, _, lk, kc⟩ := HKC.out i n.kids[i].ptr (by rw [List.getElem?_map, List.getElem?_eq_getElem hlt]; rfl)
      have hlt4 : i < n.plain.s79.f4.length := by rw [HL.out.2]; exact hlt
      obtain ⟨kb, ko, A8, c8, rfl, hkb, d0, d1, d2, d3, d4, d5, d6, d7, d8, hc8, hC8⟩ := at79 HC.out.1 hlt4
      have hel : (n.plain.s79.f4[i]'hlt4) = (n.kids[i]).plain.s79 := by
        have h := HL.out.1
        simp only [h, plain_kids, List.getElem_map]
      rw [hel] at d0 d1 d2 d3 d4 d5 d6 d7 d8 hc8 hC8
      have hmem : n.kids[i] ∈ n.kids := List.getElem_mem hlt
      obtain ⟨kd, hkd⟩ : ∃ kd, kd = n.kids[i] := ⟨_, rfl⟩
      rw [← hkd] at d0 d1 d2 d3 d4 d5 d6 d7 d8 hc8 hC8 hmem kc
      have hkh : kd.ht ≤ 1000000 := by have := (Nd.WF.ok n HIN.out.2).kht kd hmem; omega
      have hcall : ∀ s : Sb wr, Calls Try.prog 48 #[kd.ptr, nodeV kd.plain.s79 (.slice A8 kd.plain.s79.f4.length c8)] s.w fun e w' => e = .returned (.bool true) ∧ ∃ s' : Sb wr, w' = s'.w := fun s =>
        Calls.sb (HIH.out kd hmem A8 c8 s.w ((HIN.out.1.head.2.2 kd hmem).below (hwr.trans (s.below.mono hwr.size))) (HIN.out.2.kid kd hmem) hkh (Kd.C_below hC8 (hwr.trans (s.below.mono hwr.size))) hc8)
      have hnn := (hbase.trans (hbr.mono hbase.size))
      unfold Nd.ptr nodeV at hcall
      unfold Nd.ptr at kc
      obtain ⟨s, hs⟩ : ∃ s, kd.plain.s79 = s := ⟨_, rfl⟩
      rw [hs] at hcall d0 d1 d2 d3 d4 d5 d6 d7 d8
      have HCALL := Lib.hid hcall
      have f0 : ∀ s' : Sb wr, s'.w.cell? ⟨kb, ko + i * 9, none⟩ = some (.int .i64 s.f0) := fun s' => s'.cell ((hwr.cell (p := ⟨kb, _, none⟩) hkb).trans d0)
      have f1 : ∀ s' : Sb wr, s'.w.cell? ⟨kb, ko + i * 9 + 1, none⟩ = some (.int .i64 s.f1) := fun s' => s'.cell ((hwr.cell (p := ⟨kb, _, none⟩) hkb).trans d1)
      have f2 : ∀ s' : Sb wr, s'.w.cell? ⟨kb, ko + i * 9 + 2, none⟩ = some (.int .i64 s.f2.f0) := fun s' => s'.cell ((hwr.cell (p := ⟨kb, _, none⟩) hkb).trans d2)
      have f3 : ∀ s' : Sb wr, s'.w.cell? ⟨kb, ko + i * 9 + 3, none⟩ = some (.int .i64 s.f2.f1) := fun s' => s'.cell ((hwr.cell (p := ⟨kb, _, none⟩) hkb).trans d3)
      have f4 : ∀ s' : Sb wr, s'.w.cell? ⟨kb, ko + i * 9 + 4, none⟩ = some (.int .i64 s.f2.f2) := fun s' => s'.cell ((hwr.cell (p := ⟨kb, _, none⟩) hkb).trans d4)
      have f5 : ∀ s' : Sb wr, s'.w.cell? ⟨kb, ko + i * 9 + 5, none⟩ = some (.int .i64 s.f3.f0) := fun s' => s'.cell ((hwr.cell (p := ⟨kb, _, none⟩) hkb).trans d5)
      have f6 : ∀ s' : Sb wr, s'.w.cell? ⟨kb, ko + i * 9 + 6, none⟩ = some (.int .i64 s.f3.f1) := fun s' => s'.cell ((hwr.cell (p := ⟨kb, _, none⟩) hkb).trans d6)
      have f7 : ∀ s' : Sb wr, s'.w.cell? ⟨kb, ko + i * 9 + 7, none⟩ = some (.bool s.f3.f2) := fun s' => s'.cell ((hwr.cell (p := ⟨kb, _, none⟩) hkb).trans d7)
      have f8 : ∀ s' : Sb wr, s'.w.cell? ⟨kb, ko + i * 9 + 8, none⟩ = some (.slice A8 s.f4.length c8) := fun s' => s'.cell ((hwr.cell (p := ⟨kb, _, none⟩) hkb).trans d8)
      have f9 : ∀ s' : Sb wr, s'.w.cell? ⟨gk, i, none⟩ = some (.pointer (some ⟨kd.b, 0, none⟩)) := fun s' => s'.cell ((hnn.cell (p := ⟨gk, _, none⟩) lk).trans kc)
      have fA : ∀ s' : Sb wr, s'.w.cell? ⟨w.heap.size, 8, none⟩ = some (.slice (some ⟨kb, ko, none⟩) n.kids.length c) := fun s' => s'.cell (cell_of_heap hx9r rfl)
      have hltI : (i : Int) < (n.kids.length : Int) := by omega
      have hi0 : (0 : Int) ≤ (i : Int) := Int.natCast_nonneg _
      clear hcall d0 d1 d2 d3 d4 d5 d6 d7 d8 hel hkd hmem hc8 hC8 hs hkh kc hnn hx9r hlt4
      go_upto_region 10 with (fail)
      refine wp_region_sb (by kernel_rfl) (by kernel_rfl) ?_
      repeat (go_big_quiet_step (first | (go_at_call 48; exact HCALL.out _)))
      refine wpQuiet_nil ?_
      intro s4
      clear f0 f1 f2 f3 f4 f5 f6 f7 f8 f9 fA
      have hbs := hbr.trans (s4.below.mono hbr.size)
      have hwi : IntKind.i64.wrap ((i : Int) + 1) = ((i + 1 : Nat) : Int) := by rw [IntKind.wrap_i64]; omega
      go_wp2_with fail
      go_roundw
      case rel => exact ⟨i + 1, by go_num, by omega, hbs⟩
      case measure => simp [intOf]; omega
    · have hge : ¬ ((i : Int) < (n.kids.length : Int)) := by omega
      go_wp2_with fail
      go_ret
      exact ⟨rfl, hwr⟩

end Go.Proofs.Ytcjpmgfobnaoeaa

/- NodesTell: the walk. -/
namespace Go.Proofs.Ytcjpmgfobnaoeaa
set_option linter.unusedVariables false
set_option linter.unusedSimpArgs false
open PNodesTell (S79 S72 S57 S66 S64 S24 k79 k72)
open Go.RowKit Go.Proofs.YtcjpmgfobnaoeaaW.PrintWords
attribute [local irreducible] Calls

theorem sameToks_eq {v u : Value} {l : List Tok} {w : World} (h1 : ToksAt w v l) (h2 : ToksAt w u l) (hl : l.length ≤ 1000000) : Calls Try.prog 50 #[v, u] w fun e w' => e = .returned (.bool true) ∧ Below w.heap.size w w' := by
  have h := sameToks_call v u l l w h1 h2 hl hl
  rwa [decide_eq_true rfl] at h
theorem tree_cnt2 : ∀ n : Nd, n.tree.cnt = n.cnt := by
  refine Nd.ind ?_
  intro n ih
  have hk : ∀ l : List Nd, (∀ k ∈ l, k ∈ n.kids) → TrsCnt (l.map Nd.tree) = NdsCnt l := by
    intro l
    induction l with
    | nil => intro _; rfl
    | cons x xs ihl =>
      intro h
      rw [List.map_cons]
      unfold TrsCnt NdsCnt
      rw [ih x (h x (by simp)), ihl fun k hk => h k (by simp [hk])]
  rw [Tr.cnt_eq, Nd.cnt_eq, n.tree_kids, hk n.kids fun _ h => h]
theorem same_refl_tree (n : Nd) : n.tree.same n.tree = true := by
  exact (Tr.same_iff _ _).2 rfl

set_option maxRecDepth 100000 in
set_option maxHeartbeats 8000000 in
theorem nodesTell_walk (d : Dt) (v : Value) (w : World) (hd : d.At w.heap.size w v) :
    Calls Try.prog 10 #[v] w fun e w' => e = .returned (.bool true) ∧ Below w.heap.size w w' := by
  have hd' := hd
  obtain ⟨kv, tv, sv, rfl, _, _, _⟩ := hd'
  have hW : ∀ W, W = w.alloc (.cells #[.int .i64 d.tree.sy, .int .i64 d.tree.pr, kv, tv, sv] 28) → Below w.heap.size w W ∧
      W.heap[w.heap.size]? = some (.cells #[.int .i64 d.tree.sy, .int .i64 d.tree.pr, kv, tv, sv] 28 (0, 0)) := by
    rintro W rfl
    exact ⟨below_alloc _ _, heap_alloc_new _ _⟩
  have HW := Lib.hid hW
  have HD := Lib.hid hd
  clear hW hd
  go_enter Try.func10, Try.ntmps10
  apply wp_seq_k
  intro K1 k1
  have H1 := Lib.hid k1
  clear k1
  go_wp2_with fail
  refine H1.out _ _ ?_
  clear H1 K1
  obtain ⟨hB, hx2⟩ := HW.out _ rfl
  generalize w.alloc (.cells #[.int .i64 d.tree.sy, .int .i64 d.tree.pr, kv, tv, sv] 28) = W at *
  have p0 : W.cell? ⟨w.heap.size, 0, none⟩ = some (.int .i64 d.tree.sy) := cell_of_heap hx2 rfl
  have p1 : W.cell? ⟨w.heap.size, 1, none⟩ = some (.int .i64 d.tree.pr) := cell_of_heap hx2 rfl
  have p2 : W.cell? ⟨w.heap.size, 2, none⟩ = some kv := cell_of_heap hx2 rfl
  have p3 : W.cell? ⟨w.heap.size, 3, none⟩ = some tv := cell_of_heap hx2 rfl
  have p4 : W.cell? ⟨w.heap.size, 4, none⟩ = some sv := cell_of_heap hx2 rfl
  have hgr := great29 w.heap.size d _ W (HD.out.keep hB) hB.size
  have hX : ∀ wx, Below W.heap.size W wx → wx.heap[w.heap.size]? = some (.cells #[.int .i64 d.tree.sy, .int .i64 d.tree.pr, kv, tv, sv] 28 (0, 0)) := fun wx hb =>
    (hb.block _ (Array.getElem?_eq_some_iff.1 hx2).1).trans hx2
  have HX := Lib.hid hX
  clear HW hx2 hX
  cases hg : d.great with
  | true =>
    rw [hg] at hgr
    go_wp2_with (first | (go_at_call 29; refine hgr.mono ?_; rintro e w1 ⟨rfl, hb1⟩) | (go_at_call 30; refine (lives20 _).mono ?_; rintro e w2 ⟨rfl, hb2⟩))
    go_ret
    exact ⟨rfl, hB.trans ((hb1.trans (hb2.mono hb1.size)).mono hB.size)⟩
  | false =>
    rw [hg] at hgr
    have hcnt : d.tree.cnt ≤ 60 := by unfold Dt.great at hg; simpa using hg
    apply wp_seq_k
    intro K1 k1
    have H1 := Lib.hid k1
    clear k1
    go_wp2_with (first | (go_at_call 29; refine hgr.mono ?_; rintro e w1 ⟨rfl, hb1⟩))
    refine H1.out _ _ ?_
    clear H1 K1 hgr p0 p1 p2 p3 p4
    have hx1 := HX.out _ hb1
    have p0 : w1.cell? ⟨w.heap.size, 0, none⟩ = some (.int .i64 d.tree.sy) := cell_of_heap hx1 rfl
    have p1 : w1.cell? ⟨w.heap.size, 1, none⟩ = some (.int .i64 d.tree.pr) := cell_of_heap hx1 rfl
    have p2 : w1.cell? ⟨w.heap.size, 2, none⟩ = some kv := cell_of_heap hx1 rfl
    have p3 : w1.cell? ⟨w.heap.size, 3, none⟩ = some tv := cell_of_heap hx1 rfl
    have p4 : w1.cell? ⟨w.heap.size, 4, none⟩ = some sv := cell_of_heap hx1 rfl
    clear hx1
    have hBW := hB.trans (hb1.mono hB.size)
    have hbt := built_any w.heap.size d _ w1 (HD.out.keep hBW) hBW.size (by omega)
    have hl1 : w.heap.size < w1.heap.size := World.block_lt_of_cell? _ _ p0
    have hplain : ∀ w2 : World, Below w1.heap.size w1 w2 → ∀ W3, W3 = w2.alloc (.cells #[.int .i64 d.tree.sy, .int .i64 d.tree.pr, kv, tv, sv, .int .i64 0, .int .i64 0] 91) →
        Calls Try.prog 49 #[.pointer (some ⟨w2.heap.size, 0, none⟩), .agg #[.int .i64 d.tree.sy, .int .i64 d.tree.pr, kv]] W3 (PlainSays w2.heap.size d.tree.sy d.tree.pr kv tv sv (bldT d.tks d.sts d.tree 0 0) W3) := by
      rintro w2 hb2 W3 rfl
      have hbl := hBW.trans ((hb2.trans ((below_alloc w2 (.cells #[.int .i64 d.tree.sy, .int .i64 d.tree.pr, kv, tv, sv, .int .i64 0, .int .i64 0] 91)).mono hb2.size)).mono hBW.size)
      have hsz : w.heap.size ≤ w2.heap.size := by have := hb2.size; omega
      obtain ⟨kv', tv', sv', e, h1, h2, h3⟩ := (HD.out.keep hbl).up hsz
      injection e with e
      have e2 : kv' = kv ∧ tv' = tv ∧ sv' = sv := by
        have := congrArg Array.toList e
        simp at this
        exact ⟨this.1.symm, this.2.1.symm, this.2.2.symm⟩
      obtain ⟨rfl, rfl, rfl⟩ := e2
      exact plain_call w2.heap.size _ _ _ _ _ d.tks d.sts d.tree kv' 0 0 _ (heap_alloc_new _ _) h2 h3 h1 (by omega) (by omega)
    have HPL := Lib.hid hplain
    have HX1 := Lib.hid (fun wx (hb : Below w1.heap.size w1 wx) => HX.out wx (hb1.trans (hb.mono hb1.size)))
    clear hplain
    rcases hr : bldT d.tks d.sts d.tree 0 0 with ⟨er | pn, lv2, md2⟩
    · have HBD := Lib.hid (show d.bld = .error er by unfold Dt.bld; rw [hr])
      have HR := Lib.hid hr
      have hq : (er != er) = false := bne_self_eq_false _
      clear hr
      go_upto_region 4 with (first | (go_at_call 21; refine hbt.mono ?_; rintro e w2 hsay; obtain ⟨hb2, hx0, rfl⟩ := hsay.err HBD.out))
      clear p0 p1 p2 p3 p4 hbt
      have hx2 := HX1.out _ hb2
      have p0 : w2.cell? ⟨w.heap.size, 0, none⟩ = some (.int .i64 d.tree.sy) := cell_of_heap hx2 rfl
      have p1 : w2.cell? ⟨w.heap.size, 1, none⟩ = some (.int .i64 d.tree.pr) := cell_of_heap hx2 rfl
      have p2 : w2.cell? ⟨w.heap.size, 2, none⟩ = some kv := cell_of_heap hx2 rfl
      have p3 : w2.cell? ⟨w.heap.size, 3, none⟩ = some tv := cell_of_heap hx2 rfl
      have p4 : w2.cell? ⟨w.heap.size, 4, none⟩ = some sv := cell_of_heap hx2 rfl
      clear hx2
      go_upto_region 5 with fail
      have hpc := HPL.out w2 hb2 _ rfl
      have hb3 := below_alloc w2 (.cells #[.int .i64 d.tree.sy, .int .i64 d.tree.pr, kv, tv, sv, .int .i64 0, .int .i64 0] 91)
      have hx3 := HX1.out _ (hb2.trans (hb3.mono hb2.size))
      rw [HR.out] at hpc
      have HPC := Lib.hid hpc
      clear p0 p1 p2 p3 p4 hpc
      generalize w2.alloc (.cells #[.int .i64 d.tree.sy, .int .i64 d.tree.pr, kv, tv, sv, .int .i64 0, .int .i64 0] 91) = W3 at *
      have p0 : W3.cell? ⟨w.heap.size, 0, none⟩ = some (.int .i64 d.tree.sy) := cell_of_heap hx3 rfl
      have p1 : W3.cell? ⟨w.heap.size, 1, none⟩ = some (.int .i64 d.tree.pr) := cell_of_heap hx3 rfl
      have p2 : W3.cell? ⟨w.heap.size, 2, none⟩ = some kv := cell_of_heap hx3 rfl
      clear hx3
      have hq0 : (er != 0) = true := bne_iff_ne.2 hx0
      go_wp2_with (first
        | (go_at_call 49; refine HPC.out.mono ?_; rintro e w4 hsay; obtain ⟨hg4, _, _, A4, c4, rfl⟩ := hsay.err; unfold zeroV)
        | (go_at_call 30; refine (lives20 _).mono ?_; rintro e w5 ⟨rfl, hb5⟩))
      go_ret
      refine ⟨rfl, ?_⟩
      have h24 : Below w2.heap.size w2 w4 := hb3.grown hg4 hb3.size (fun k hk => by cases hk; exact Nat.le_refl _)
      have h25 := (h24.alloc h24.size (.cells #[.int .i64 0, .int .i64 0, .int .i64 0, .int .i64 0, .int .i64 0, .int .i64 0, .int .i64 0, .bool false, .slice A4 0 c4] 79)).trans (hb5.mono (by simp; have := h24.size; omega))
      exact hBW.trans ((hb2.trans (h25.mono hb2.size)).mono hBW.size)
    · have HBD := Lib.hid (show d.bld = .ok pn by unfold Dt.bld; rw [hr])
      have HR := Lib.hid hr
      clear hr
      go_upto_region 4 with (first | (go_at_call 21; refine hbt.mono ?_; rintro e w2 hsay; obtain ⟨hb2, n, rfl, rfl, hin, hwf, hht, hcn, _⟩ := hsay.ok HBD.out))
      clear p0 p1 p2 p3 p4 hbt
      have hx2 := HX1.out _ hb2
      have p0 : w2.cell? ⟨w.heap.size, 0, none⟩ = some (.int .i64 d.tree.sy) := cell_of_heap hx2 rfl
      have p1 : w2.cell? ⟨w.heap.size, 1, none⟩ = some (.int .i64 d.tree.pr) := cell_of_heap hx2 rfl
      have p2 : w2.cell? ⟨w.heap.size, 2, none⟩ = some kv := cell_of_heap hx2 rfl
      have p3 : w2.cell? ⟨w.heap.size, 3, none⟩ = some tv := cell_of_heap hx2 rfl
      have p4 : w2.cell? ⟨w.heap.size, 4, none⟩ = some sv := cell_of_heap hx2 rfl
      clear hx2
      unfold Nd.ptr at *
      go_upto_region 5 with fail
      have hpc := HPL.out w2 hb2 _ rfl
      have hb3 := below_alloc w2 (.cells #[.int .i64 d.tree.sy, .int .i64 d.tree.pr, kv, tv, sv, .int .i64 0, .int .i64 0] 91)
      have hx3 := HX1.out _ (hb2.trans (hb3.mono hb2.size))
      rw [HR.out] at hpc
      have HPC := Lib.hid hpc
      clear p0 p1 p2 p3 p4 hpc
      generalize w2.alloc (.cells #[.int .i64 d.tree.sy, .int .i64 d.tree.pr, kv, tv, sv, .int .i64 0, .int .i64 0] 91) = W3 at *
      have p0 : W3.cell? ⟨w.heap.size, 0, none⟩ = some (.int .i64 d.tree.sy) := cell_of_heap hx3 rfl
      have p1 : W3.cell? ⟨w.heap.size, 1, none⟩ = some (.int .i64 d.tree.pr) := cell_of_heap hx3 rfl
      have p2 : W3.cell? ⟨w.heap.size, 2, none⟩ = some kv := cell_of_heap hx3 rfl
      clear hx3
      have hl4 : n.plain.kids.map Pn.s79 = n.plain.s79.f4 := by rw [plain_s79 hwf]
      have HL4 := Lib.hid hl4
      obtain ⟨s, hs⟩ : ∃ s, n.plain.s79 = s := ⟨_, rfl⟩
      have HS := Lib.hid hs
      clear hl4 hs
      go_upto_region 10 with (first
        | (go_at_call 49; refine HPC.out.mono ?_; rintro e w6 hsay; obtain ⟨hg4, _, kv6, hok6, rfl, hV⟩ := hsay.ok; rw [HL4.out, HS.out] at hV; obtain ⟨A6, c6, rfl⟩ := Kd.V_slice hV; rw [HS.out]; unfold nodeV; have HV := Lib.hid (Kd.V_reads' hV).2; clear hV))
      clear p0 p1 p2
      have h26 : Below w2.heap.size w2 w6 := hb3.grown hg4 hb3.size (fun k hk => by cases hk; exact Nat.le_refl _)
      have h67 := below_alloc w6 (.cells #[.int .i64 s.f0, .int .i64 s.f1, .int .i64 s.f2.f0, .int .i64 s.f2.f1, .int .i64 s.f2.f2, .int .i64 s.f3.f0, .int .i64 s.f3.f1, .bool s.f3.f2, .slice A6 s.f4.length c6] 79)
      have hx7 := heap_alloc_new w6 (.cells #[.int .i64 s.f0, .int .i64 s.f1, .int .i64 s.f2.f0, .int .i64 s.f2.f1, .int .i64 s.f2.f2, .int .i64 s.f3.f0, .int .i64 s.f3.f1, .bool s.f3.f2, .slice A6 s.f4.length c6] 79)
      generalize w6.alloc (.cells #[.int .i64 s.f0, .int .i64 s.f1, .int .i64 s.f2.f0, .int .i64 s.f2.f1, .int .i64 s.f2.f2, .int .i64 s.f3.f0, .int .i64 s.f3.f1, .bool s.f3.f2, .slice A6 s.f4.length c6] 79) = W7 at *
      have h27 := h26.trans (h67.mono h26.size)
      have hlt7 := (Array.getElem?_eq_some_iff.1 hx7).1
      have hok := Nd.WF.ok n hwf
      have hh : n.ht ≤ 1000000 := by omega
      have hc3 : n.cnt ≤ 1000 := by omega
      have hpok := plain_ok n hwf
      have SK : Hid (∀ X, Below W7.heap.size W7 X → (fun X => X.cell? ⟨w6.heap.size, 0, none⟩ = some (.int .i64 s.f0) ∧ X.cell? ⟨w6.heap.size, 1, none⟩ = some (.int .i64 s.f1) ∧ X.cell? ⟨w6.heap.size, 2, none⟩ = some (.int .i64 s.f2.f0) ∧ X.cell? ⟨w6.heap.size, 3, none⟩ = some (.int .i64 s.f2.f1) ∧ X.cell? ⟨w6.heap.size, 4, none⟩ = some (.int .i64 s.f2.f2) ∧ X.cell? ⟨w6.heap.size, 5, none⟩ = some (.int .i64 s.f3.f0) ∧ X.cell? ⟨w6.heap.size, 6, none⟩ = some (.int .i64 s.f3.f1) ∧ X.cell? ⟨w6.heap.size, 7, none⟩ = some (.bool s.f3.f2) ∧ X.cell? ⟨w6.heap.size, 8, none⟩ = some (.slice A6 s.f4.length c6)) X) := Lib.hid (fun X hX => ⟨(hX.cell (p := ⟨w6.heap.size, 0, none⟩) hlt7).trans (cell_of_heap hx7 rfl), (hX.cell (p := ⟨w6.heap.size, 1, none⟩) hlt7).trans (cell_of_heap hx7 rfl), (hX.cell (p := ⟨w6.heap.size, 2, none⟩) hlt7).trans (cell_of_heap hx7 rfl), (hX.cell (p := ⟨w6.heap.size, 3, none⟩) hlt7).trans (cell_of_heap hx7 rfl), (hX.cell (p := ⟨w6.heap.size, 4, none⟩) hlt7).trans (cell_of_heap hx7 rfl), (hX.cell (p := ⟨w6.heap.size, 5, none⟩) hlt7).trans (cell_of_heap hx7 rfl), (hX.cell (p := ⟨w6.heap.size, 6, none⟩) hlt7).trans (cell_of_heap hx7 rfl), (hX.cell (p := ⟨w6.heap.size, 7, none⟩) hlt7).trans (cell_of_heap hx7 rfl), (hX.cell (p := ⟨w6.heap.size, 8, none⟩) hlt7).trans (cell_of_heap hx7 rfl)⟩)
      have hCX : ∀ X, Below W7.heap.size W7 X → k79.C X A6 s.f4.length s.f4 := fun X hX => Kd.C_below HV.out.2 (h67.trans (hX.mono h67.size))
      have hIX : ∀ X, Below W7.heap.size W7 X → n.In X := fun X hX => hin.below (h27.trans (hX.mono h27.size))
      have HTELL := Lib.hid (show ∀ X, Below W7.heap.size W7 X → Calls Try.prog 48 #[.pointer (some ⟨n.b, 0, none⟩), nodeV s (.slice A6 s.f4.length c6)] X fun e w' => e = .returned (.bool true) ∧ Below X.heap.size X w' from fun X hX => by
        have h := tells_call n A6 c6 X (hIX X hX) hwf hh (by rw [HS.out]; exact hCX X hX) (by rw [HS.out]; exact HV.out.1)
        rw [HS.out] at h
        exact h)
      have HLN := Lib.hid (fun X (hX : Below W7.heap.size W7 X) => leaves_is n X (hIX X hX) hwf hc3)
      have HLR := Lib.hid (show ∀ X, Below W7.heap.size W7 X → Calls Try.prog 51 #[nodeV s (.slice A6 s.f4.length c6)] X fun e w' => ∃ v, e = .returned v ∧ ToksAt w' v n.plain.leaves ∧ Below X.heap.size X w' from fun X hX =>
        (refLeaves_call hpok HS.out (hCX X hX) HV.out.1).mono fun e w' ⟨v, h1, h2, h3⟩ => ⟨v, h1, ToksAt.of_row (toks_of_R h2), h3⟩)
      have HSN := Lib.hid (show ∀ X, Below W7.heap.size W7 X → Calls Try.prog 31 #[n.ptr] X fun e w' => ∃ v, e = .returned v ∧ SpotsAt w' v (spotsN n) ∧ Below X.heap.size X w' from fun X hX =>
        (spots_call n X (hIX X hX) hwf hc3).mono fun e w' ⟨v, h1, h2, h3⟩ => ⟨v, h1, SpotsAt.of_row h2, h3⟩)
      have HSR := Lib.hid (fun X (hX : Below W7.heap.size W7 X) => refSpots_call hwf hh (by omega) HS.out (hCX X hX) HV.out.1)
      have HTN := Lib.hid (show ∀ X, Below W7.heap.size W7 X → Calls Try.prog 54 #[n.ptr] X fun e w' => ∃ kv, e = .returned (.agg #[.int .i64 n.sy, .int .i64 n.pr, kv]) ∧ n.tree.At w'.heap.size w' kv ∧ Below X.heap.size X w' from fun X hX =>
        (tree_call n X (hIX X hX) hwf).mono fun e w' ⟨kv, h1, h2, h3⟩ => ⟨kv, h1, h2.at, h3⟩)
      have HTR := Lib.hid (show ∀ X, Below W7.heap.size W7 X → Calls Try.prog 55 #[nodeV s (.slice A6 s.f4.length c6)] X fun e w' => ∃ kv, e = .returned (.agg #[.int .i64 n.sy, .int .i64 n.pr, kv]) ∧ n.tree.At w'.heap.size w' kv ∧ Below X.heap.size X w' from fun X hX => by
        refine (refTree_call hpok HS.out (hCX X hX) HV.out.1).mono ?_
        rintro e w' ⟨kv, h1, h2, h3⟩
        refine ⟨kv, ?_, tree_of_R (t := n.tree) (by rw [← plain_tree n, Pn.tree_eq]; exact h2), h3⟩
        rw [h1, plain_sy, n.plain_eq]
        rfl)
      have HTT := Lib.hid (show ∀ (kv ku : Value) (X : World), n.tree.At X.heap.size X kv → n.tree.At X.heap.size X ku → Calls Try.prog 53 #[.agg #[.int .i64 n.sy, .int .i64 n.pr, kv], .agg #[.int .i64 n.sy, .int .i64 n.pr, ku]] X fun e w' => e = .returned (.bool true) ∧ Below X.heap.size X w' from fun kv ku X h1 h2 => by
        have h := sameTree_call n.tree n.tree kv ku X h1 h2 (by rw [tree_cnt2 n]; omega)
        rwa [same_refl_tree, n.tree_sy, n.tree_pr] at h)
      have HLL := Lib.hid (show n.plain.leaves.length ≤ 1000000 by have := (Nd.WF.adds n hwf).1; have := hok.tk2; omega)
      have HSL := Lib.hid (show (spotsN n).length ≤ 1000000 by unfold spotsN; rw [List.length_map, preN_len]; omega)
      unfold Nd.ptr nodeV at *
      clear hok hpok hCX hIX
      refine wp_region_last (S := fun X => X.cell? ⟨w6.heap.size, 0, none⟩ = some (.int .i64 s.f0) ∧ X.cell? ⟨w6.heap.size, 1, none⟩ = some (.int .i64 s.f1) ∧ X.cell? ⟨w6.heap.size, 2, none⟩ = some (.int .i64 s.f2.f0) ∧ X.cell? ⟨w6.heap.size, 3, none⟩ = some (.int .i64 s.f2.f1) ∧ X.cell? ⟨w6.heap.size, 4, none⟩ = some (.int .i64 s.f2.f2) ∧ X.cell? ⟨w6.heap.size, 5, none⟩ = some (.int .i64 s.f3.f0) ∧ X.cell? ⟨w6.heap.size, 6, none⟩ = some (.int .i64 s.f3.f1) ∧ X.cell? ⟨w6.heap.size, 7, none⟩ = some (.bool s.f3.f2) ∧ X.cell? ⟨w6.heap.size, 8, none⟩ = some (.slice A6 s.f4.length c6)) (by kernel_rfl) (SK.out _ (below_drew1' (Below.refl _ _))) 28 rfl (fun hH => ?_)
      (try simp only [List.getElem_toArray, List.getElem_cons_succ, List.getElem_cons_zero, Act.put, List.setIfInBounds_toArray, List.set_cons_zero, List.set_cons_succ])
      have hz1 := below_drew1' (Below.refl W7.heap.size W7)
      have S1 := hH
      refine AnyL.take (i := 0) (v := ?_) rfl (by kernel_rfl) (by kernel_rfl) (by kernel_rfl) (fun _ _ _ h => h) (Or.inl ⟨by rfl, ?_⟩) S1 ?_
      rotate_left
      · (intro w hSw; (try dsimp only at hSw); go_simp; (try with_reducible rfl))
      (try simp only [List.getElem_toArray, List.getElem_cons_succ, List.getElem_cons_zero, Act.put, List.setIfInBounds_toArray, List.set_cons_zero, List.set_cons_succ])
      refine AnyL.take (i := 1) (v := ?_) rfl (by kernel_rfl) (by kernel_rfl) (by kernel_rfl) (fun _ _ _ h => h) (Or.inl ⟨by rfl, ?_⟩) S1 ?_
      rotate_left
      · (intro w hSw; (try dsimp only at hSw); go_simp; (try with_reducible rfl))
      (try simp only [List.getElem_toArray, List.getElem_cons_succ, List.getElem_cons_zero, Act.put, List.setIfInBounds_toArray, List.set_cons_zero, List.set_cons_succ])
      refine AnyL.step (i := 2) (by kernel_rfl) rfl (fun K hK => ?_)
      (try simp only [List.getElem_toArray, List.getElem_cons_succ, List.getElem_cons_zero])
      go_simp
      go_at_call 48
      refine (HTELL.out _ hz1).mono ?_
      rintro e x2 ⟨rfl, hs2⟩
      have hz2 := hz1.trans (hs2.mono hz1.size)
      have S2 := SK.out _ hz2
      refine hK.out _ _ (.inr S2) ?_
      clear hK K
      (try simp only [List.getElem_toArray, List.getElem_cons_succ, List.getElem_cons_zero, Act.put, List.setIfInBounds_toArray, List.set_cons_zero, List.set_cons_succ])
      refine AnyL.take (i := 3) (v := ?_) rfl (by kernel_rfl) (by kernel_rfl) (by kernel_rfl) (fun _ _ _ h => h) (Or.inl ⟨by rfl, ?_⟩) S2 ?_
      rotate_left
      · (intro w hSw; (try dsimp only at hSw); go_simp; (try with_reducible rfl))
      (try simp only [List.getElem_toArray, List.getElem_cons_succ, List.getElem_cons_zero, Act.put, List.setIfInBounds_toArray, List.set_cons_zero, List.set_cons_succ])
      refine AnyL.take (i := 4) (v := ?_) rfl (by kernel_rfl) (by kernel_rfl) (by kernel_rfl) (fun _ _ _ h => h) (Or.inl ⟨by rfl, ?_⟩) S2 ?_
      rotate_left
      · (intro w hSw; (try dsimp only at hSw); go_simp; (try with_reducible rfl))
      (try simp only [List.getElem_toArray, List.getElem_cons_succ, List.getElem_cons_zero, Act.put, List.setIfInBounds_toArray, List.set_cons_zero, List.set_cons_succ])
      refine AnyL.take (i := 6) (v := ?_) rfl (by kernel_rfl) (by kernel_rfl) (by kernel_rfl) (fun _ _ _ h => h) (Or.inl ⟨by rfl, ?_⟩) S2 ?_
      rotate_left
      · (intro w hSw; (try dsimp only at hSw); go_simp; (try with_reducible rfl))
      (try simp only [List.getElem_toArray, List.getElem_cons_succ, List.getElem_cons_zero, Act.put, List.setIfInBounds_toArray, List.set_cons_zero, List.set_cons_succ])
      refine AnyL.step (i := 5) (by kernel_rfl) rfl (fun K hK => ?_)
      (try simp only [List.getElem_toArray, List.getElem_cons_succ, List.getElem_cons_zero])
      go_simp
      go_at_call 42
      refine (HLN.out _ hz2).mono ?_
      rintro e x3 ⟨v3, rfl, ht3, hr3, hs3⟩
      have hz3 := hz2.trans (hs3.mono hz2.size)
      have S3 := SK.out _ hz3
      have HT3 := Lib.hid ht3
      clear ht3 hr3
      refine hK.out _ _ (.inr S3) ?_
      clear hK K
      (try simp only [List.getElem_toArray, List.getElem_cons_succ, List.getElem_cons_zero, Act.put, List.setIfInBounds_toArray, List.set_cons_zero, List.set_cons_succ])
      refine AnyL.step (i := 7) (by kernel_rfl) rfl (fun K hK => ?_)
      (try simp only [List.getElem_toArray, List.getElem_cons_succ, List.getElem_cons_zero])
      go_simp
      go_at_call 51
      refine (HLR.out _ hz3).mono ?_
      rintro e x4 ⟨v4, rfl, ht4, hs4⟩
      have hz4 := hz3.trans (hs4.mono hz3.size)
      have S4 := SK.out _ hz4
      have HT4 := Lib.hid ht4
      clear ht4
      refine hK.out _ _ (.inr S4) ?_
      clear hK K
      (try simp only [List.getElem_toArray, List.getElem_cons_succ, List.getElem_cons_zero, Act.put, List.setIfInBounds_toArray, List.set_cons_zero, List.set_cons_succ])
      refine AnyL.step (i := 8) (by kernel_rfl) rfl (fun K hK => ?_)
      (try simp only [List.getElem_toArray, List.getElem_cons_succ, List.getElem_cons_zero])
      go_simp
      go_at_call 50
      refine (sameToks_eq (HT3.out.keep hs4) HT4.out HLL.out).mono ?_
      rintro e x5 ⟨rfl, hs5⟩
      have hz5 := hz4.trans (hs5.mono hz4.size)
      have S5 := SK.out _ hz5
      refine hK.out _ _ (.inr S5) ?_
      clear hK K
      (try simp only [List.getElem_toArray, List.getElem_cons_succ, List.getElem_cons_zero, Act.put, List.setIfInBounds_toArray, List.set_cons_zero, List.set_cons_succ])
      refine AnyL.take (i := 9) (v := ?_) rfl (by kernel_rfl) (by kernel_rfl) (by kernel_rfl) (fun _ _ _ h => h) (Or.inl ⟨by rfl, ?_⟩) S5 ?_
      rotate_left
      · (intro w hSw; (try dsimp only at hSw); go_simp; (try with_reducible rfl))
      (try simp only [List.getElem_toArray, List.getElem_cons_succ, List.getElem_cons_zero, Act.put, List.setIfInBounds_toArray, List.set_cons_zero, List.set_cons_succ])
      refine AnyL.take (i := 10) (v := ?_) rfl (by kernel_rfl) (by kernel_rfl) (by kernel_rfl) (fun _ _ _ h => h) (Or.inl ⟨by rfl, ?_⟩) S5 ?_
      rotate_left
      · (intro w hSw; (try dsimp only at hSw); go_simp; (try with_reducible rfl))
      (try simp only [List.getElem_toArray, List.getElem_cons_succ, List.getElem_cons_zero, Act.put, List.setIfInBounds_toArray, List.set_cons_zero, List.set_cons_succ])
      refine AnyL.take (i := 11) (v := ?_) rfl (by kernel_rfl) (by kernel_rfl) (by kernel_rfl) (fun _ _ _ h => h) (Or.inl ⟨by rfl, ?_⟩) S5 ?_
      rotate_left
      · (intro w hSw; (try dsimp only at hSw); go_simp; (try with_reducible rfl))
      (try simp only [List.getElem_toArray, List.getElem_cons_succ, List.getElem_cons_zero, Act.put, List.setIfInBounds_toArray, List.set_cons_zero, List.set_cons_succ])
      refine AnyL.take (i := 13) (v := ?_) rfl (by kernel_rfl) (by kernel_rfl) (by kernel_rfl) (fun _ _ _ h => h) (Or.inl ⟨by rfl, ?_⟩) S5 ?_
      rotate_left
      · (intro w hSw; (try dsimp only at hSw); go_simp; (try with_reducible rfl))
      (try simp only [List.getElem_toArray, List.getElem_cons_succ, List.getElem_cons_zero, Act.put, List.setIfInBounds_toArray, List.set_cons_zero, List.set_cons_succ])
      refine AnyL.step (i := 12) (by kernel_rfl) rfl (fun K hK => ?_)
      (try simp only [List.getElem_toArray, List.getElem_cons_succ, List.getElem_cons_zero])
      go_simp
      go_at_call 31
      refine (HSN.out _ hz5).mono ?_
      rintro e x6 ⟨v6, rfl, ht6, hs6⟩
      have hz6 := hz5.trans (hs6.mono hz5.size)
      have S6 := SK.out _ hz6
      have HT6 := Lib.hid ht6
      clear ht6
      refine hK.out _ _ (.inr S6) ?_
      clear hK K
      (try simp only [List.getElem_toArray, List.getElem_cons_succ, List.getElem_cons_zero, Act.put, List.setIfInBounds_toArray, List.set_cons_zero, List.set_cons_succ])
      refine AnyL.step (i := 14) (by kernel_rfl) rfl (fun K hK => ?_)
      (try simp only [List.getElem_toArray, List.getElem_cons_succ, List.getElem_cons_zero])
      go_simp
      go_at_call 52
      refine (HSR.out _ hz6).mono ?_
      rintro e x7 ⟨v7, rfl, ht7, hs7⟩
      have hz7 := hz6.trans (hs7.mono hz6.size)
      have S7 := SK.out _ hz7
      have HT7 := Lib.hid ht7
      clear ht7
      refine hK.out _ _ (.inr S7) ?_
      clear hK K
      (try simp only [List.getElem_toArray, List.getElem_cons_succ, List.getElem_cons_zero, Act.put, List.setIfInBounds_toArray, List.set_cons_zero, List.set_cons_succ])
      refine AnyL.step (i := 15) (by kernel_rfl) rfl (fun K hK => ?_)
      (try simp only [List.getElem_toArray, List.getElem_cons_succ, List.getElem_cons_zero])
      go_simp
      go_at_call 35
      refine (sameSpots_call v6 v7 _ _ (HT6.out.keep hs7) HT7.out HSL.out).mono ?_
      rintro e x8 ⟨rfl, hs8⟩
      have hz8 := hz7.trans (hs8.mono hz7.size)
      have S8 := SK.out _ hz8
      refine hK.out _ _ (.inr S8) ?_
      clear hK K
      (try simp only [List.getElem_toArray, List.getElem_cons_succ, List.getElem_cons_zero, Act.put, List.setIfInBounds_toArray, List.set_cons_zero, List.set_cons_succ])
      refine AnyL.take (i := 16) (v := ?_) rfl (by kernel_rfl) (by kernel_rfl) (by kernel_rfl) (fun _ _ _ h => h) (Or.inl ⟨by rfl, ?_⟩) S8 ?_
      rotate_left
      · (intro w hSw; (try dsimp only at hSw); go_simp; (try with_reducible rfl))
      (try simp only [List.getElem_toArray, List.getElem_cons_succ, List.getElem_cons_zero, Act.put, List.setIfInBounds_toArray, List.set_cons_zero, List.set_cons_succ])
      refine AnyL.take (i := 17) (v := ?_) rfl (by kernel_rfl) (by kernel_rfl) (by kernel_rfl) (fun _ _ _ h => h) (Or.inl ⟨by rfl, ?_⟩) S8 ?_
      rotate_left
      · (intro w hSw; (try dsimp only at hSw); go_simp; (try with_reducible rfl))
      (try simp only [List.getElem_toArray, List.getElem_cons_succ, List.getElem_cons_zero, Act.put, List.setIfInBounds_toArray, List.set_cons_zero, List.set_cons_succ])
      refine AnyL.take (i := 18) (v := ?_) rfl (by kernel_rfl) (by kernel_rfl) (by kernel_rfl) (fun _ _ _ h => h) (Or.inl ⟨by rfl, ?_⟩) S8 ?_
      rotate_left
      · (intro w hSw; (try dsimp only at hSw); go_simp; (try with_reducible rfl))
      (try simp only [List.getElem_toArray, List.getElem_cons_succ, List.getElem_cons_zero, Act.put, List.setIfInBounds_toArray, List.set_cons_zero, List.set_cons_succ])
      refine AnyL.take (i := 20) (v := ?_) rfl (by kernel_rfl) (by kernel_rfl) (by kernel_rfl) (fun _ _ _ h => h) (Or.inl ⟨by rfl, ?_⟩) S8 ?_
      rotate_left
      · (intro w hSw; (try dsimp only at hSw); go_simp; (try with_reducible rfl))
      (try simp only [List.getElem_toArray, List.getElem_cons_succ, List.getElem_cons_zero, Act.put, List.setIfInBounds_toArray, List.set_cons_zero, List.set_cons_succ])
      refine AnyL.step (i := 19) (by kernel_rfl) rfl (fun K hK => ?_)
      (try simp only [List.getElem_toArray, List.getElem_cons_succ, List.getElem_cons_zero])
      go_simp
      go_at_call 54
      refine (HTN.out _ hz8).mono ?_
      rintro e x9 ⟨v9, rfl, ht9, hs9⟩
      have hz9 := hz8.trans (hs9.mono hz8.size)
      have S9 := SK.out _ hz9
      have HT9 := Lib.hid ht9
      clear ht9
      refine hK.out _ _ (.inr S9) ?_
      clear hK K
      (try simp only [List.getElem_toArray, List.getElem_cons_succ, List.getElem_cons_zero, Act.put, List.setIfInBounds_toArray, List.set_cons_zero, List.set_cons_succ])
      refine AnyL.step (i := 21) (by kernel_rfl) rfl (fun K hK => ?_)
      (try simp only [List.getElem_toArray, List.getElem_cons_succ, List.getElem_cons_zero])
      go_simp
      go_at_call 55
      refine (HTR.out _ hz9).mono ?_
      rintro e x10 ⟨v10, rfl, ht10, hs10⟩
      have hz10 := hz9.trans (hs10.mono hz9.size)
      have S10 := SK.out _ hz10
      have HT10 := Lib.hid ht10
      clear ht10
      refine hK.out _ _ (.inr S10) ?_
      clear hK K
      (try simp only [List.getElem_toArray, List.getElem_cons_succ, List.getElem_cons_zero, Act.put, List.setIfInBounds_toArray, List.set_cons_zero, List.set_cons_succ])
      refine AnyL.step (i := 22) (by kernel_rfl) rfl (fun K hK => ?_)
      (try simp only [List.getElem_toArray, List.getElem_cons_succ, List.getElem_cons_zero])
      go_simp
      go_at_call 53
      refine (HTT.out _ _ _ ((HT9.out.keep hs10).up hs10.size) HT10.out).mono ?_
      rintro e x11 ⟨rfl, hs11⟩
      have hz11 := hz10.trans (hs11.mono hz10.size)
      have S11 := SK.out _ hz11
      refine hK.out _ _ (.inr S11) ?_
      clear hK K
      (try simp only [List.getElem_toArray, List.getElem_cons_succ, List.getElem_cons_zero, Act.put, List.setIfInBounds_toArray, List.set_cons_zero, List.set_cons_succ])
      refine AnyL.take (i := 23) (v := ?_) rfl (by kernel_rfl) (by kernel_rfl) (by kernel_rfl) (fun _ _ _ h => h) (Or.inl ⟨by rfl, ?_⟩) S11 ?_
      rotate_left
      · (intro w hSw; (try dsimp only at hSw); go_simp; (try with_reducible rfl))
      (try simp only [List.getElem_toArray, List.getElem_cons_succ, List.getElem_cons_zero, Act.put, List.setIfInBounds_toArray, List.set_cons_zero, List.set_cons_succ])
      refine AnyL.take (i := 24) (v := ?_) rfl (by kernel_rfl) (by kernel_rfl) (by kernel_rfl) (fun _ _ _ h => h) (Or.inl ⟨by rfl, ?_⟩) S11 ?_
      rotate_left
      · (intro w hSw; (try dsimp only at hSw); go_simp; (try with_reducible rfl))
      (try simp only [List.getElem_toArray, List.getElem_cons_succ, List.getElem_cons_zero, Act.put, List.setIfInBounds_toArray, List.set_cons_zero, List.set_cons_succ])
      refine AnyL.step (i := 25) (by kernel_rfl) rfl (fun K hK => ?_)
      (try simp only [List.getElem_toArray, List.getElem_cons_succ, List.getElem_cons_zero])
      go_simp
      go_at_call 30
      refine (lives20 _).mono ?_
      rintro e x12 ⟨rfl, hs12⟩
      have hz12 := hz11.trans (hs12.mono hz11.size)
      have S12 := SK.out _ hz12
      refine hK.out _ _ (.inr S12) ?_
      clear hK K
      (try simp only [List.getElem_toArray, List.getElem_cons_succ, List.getElem_cons_zero, Act.put, List.setIfInBounds_toArray, List.set_cons_zero, List.set_cons_succ])
      refine AnyL.take (i := 26) (v := ?_) rfl (by kernel_rfl) (by kernel_rfl) (by kernel_rfl) (fun _ _ _ h => h) (Or.inl ⟨by rfl, ?_⟩) S12 ?_
      rotate_left
      · (intro w hSw; (try dsimp only at hSw); go_simp; (try with_reducible rfl))
      (try simp only [List.getElem_toArray, List.getElem_cons_succ, List.getElem_cons_zero, Act.put, List.setIfInBounds_toArray, List.set_cons_zero, List.set_cons_succ])
      refine AnyL.take (i := 27) (v := ?_) rfl (by kernel_rfl) (by kernel_rfl) (by kernel_rfl) (fun _ _ _ h => h) (Or.inl ⟨by rfl, ?_⟩) S12 ?_
      rotate_left
      · (intro w hSw; (try dsimp only at hSw); go_simp; (try with_reducible rfl))
      (try simp only [List.getElem_toArray, List.getElem_cons_succ, List.getElem_cons_zero, Act.put, List.setIfInBounds_toArray, List.set_cons_zero, List.set_cons_succ])
      refine AnyL.done (by kernel_rfl) ?_ _
      clear S1 S2 S3 S4 S5 S6 S7 S8 S9 S10 S11 S12 hH
      go_wp2_with fail
      go_ret
      exact ⟨rfl, hBW.trans ((hb2.trans ((h27.trans (hz12.mono h27.size)).mono hb2.size)).mono hBW.size)⟩

end Go.Proofs.Ytcjpmgfobnaoeaa
