/- SameTree and stamped: the walks. -/
import Derived.Test.YtcjpmgfobnaoeaaA53
namespace Go.Proofs.Ytcjpmgfobnaoeaa
open Go.RowKit
attribute [local irreducible] Calls

theorem TrsSame_step {l m : List Tr} {i : Nat} (h : i < l.length) (h' : i < m.length) : TrsSame (l.drop i) (m.drop i) = (l[i].same m[i] && TrsSame (l.drop (i + 1)) (m.drop (i + 1))) := by
  rw [drop_cons h, drop_cons h']
  conv => lhs; unfold TrsSame
theorem NdsStamped_step {l m : List Nd} {i : Nat} (h : i < l.length) (h' : i < m.length) : NdsStamped (l.drop i) (m.drop i) = (l[i].stamped m[i] && NdsStamped (l.drop (i + 1)) (m.drop (i + 1))) := by
  rw [drop_cons h, drop_cons h']
  conv => lhs; unfold NdsStamped
theorem TrsSame_len {l m : List Tr} (h : l.length ≠ m.length) : TrsSame l m = false := by
  cases e : TrsSame l m with
  | false => rfl
  | true => exact absurd ((trsSame_iff l m).1 e).1 h
theorem NdsStamped_len {l m : List Nd} (h : l.length ≠ m.length) : NdsStamped l m = false := by
  cases e : NdsStamped l m with
  | false => rfl
  | true => exact absurd ((ndsStamped_iff l m).1 e).1 h
theorem TrsCnt_mem {l : List Tr} {k : Tr} (h : k ∈ l) : k.cnt ≤ TrsCnt l := by
  induction l with
  | nil => simp at h
  | cons x xs ih =>
    unfold TrsCnt
    rcases List.mem_cons.1 h with rfl | h
    · omega
    · have := ih h; omega

set_option maxRecDepth 100000 in
set_option maxHeartbeats 4000000 in
theorem sameTree_call (t : Tr) : ∀ (u : Tr) (kv ku : Value) (w : World), t.At w.heap.size w kv → u.At w.heap.size w ku → t.cnt ≤ 1000000 →
    Calls Try.prog 53 #[.agg #[.int .i64 t.sy, .int .i64 t.pr, kv], .agg #[.int .i64 u.sy, .int .i64 u.pr, ku]] w fun e w' => e = .returned (.bool (t.same u)) ∧ Below w.heap.size w w' := by
  revert t
  refine Tr.ind ?_
  intro t ih u kv ku w ht hu hc
  obtain ⟨a, c, rfl, hts⟩ := ht.len
  obtain ⟨a2, c2, rfl, hus⟩ := hu.len
  have hlen : t.kids.length ≤ 1000000 := by have := len_le_cnt t.kids; rw [Tr.cnt_eq] at hc; omega
  have hW : ∀ W, W = (w.alloc (.cells #[.int .i64 t.sy, .int .i64 t.pr, .slice a t.kids.length c] 24)).alloc (.cells #[.int .i64 u.sy, .int .i64 u.pr, .slice a2 u.kids.length c2] 24) → Below w.heap.size w W ∧
      W.heap[w.heap.size]? = some (.cells #[.int .i64 t.sy, .int .i64 t.pr, .slice a t.kids.length c] 24 (0, 0)) ∧ W.heap[w.heap.size + 1]? = some (.cells #[.int .i64 u.sy, .int .i64 u.pr, .slice a2 u.kids.length c2] 24 (0, 0)) := by
    rintro W rfl
    exact ⟨((Below.refl _ _).alloc (Nat.le_refl _) _).alloc (by simp) _, by rw [Below.heap_alloc _ _ _ (by simp)]; exact heap_alloc_new _ _, heap_new2 _ _ _⟩
  have HW := Lib.hid hW
  have HIH := Lib.hid ih
  have HTS := Lib.hid hts
  have HUS := Lib.hid hus
  have HC := Lib.hid hc
  have HS := Lib.hid (Tr.same_eq t u)
  clear hW ih hts hus hc ht hu
  go_enter Try.func53, Try.ntmps53
  apply wp_seq_k
  intro K1 k1
  have H1 := Lib.hid k1
  clear k1
  go_wp2_with fail
  refine H1.out _ _ ?_
  clear H1 K1
  obtain ⟨hB, hx2, hx3⟩ := HW.out _ rfl
  generalize (w.alloc (.cells #[.int .i64 t.sy, .int .i64 t.pr, .slice a t.kids.length c] 24)).alloc (.cells #[.int .i64 u.sy, .int .i64 u.pr, .slice a2 u.kids.length c2] 24) = W at *
  have HX2 := Lib.hid hx2
  have HX3 := Lib.hid hx3
  have p0 := cell_of_heap (i := 0) hx2 rfl
  have p1 := cell_of_heap (i := 1) hx2 rfl
  have p2 := cell_of_heap (i := 2) hx2 rfl
  have r0 := cell_of_heap (i := 0) hx3 rfl
  have r1 := cell_of_heap (i := 1) hx3 rfl
  have r2 := cell_of_heap (i := 2) hx3 rfl
  clear HW hx2 hx3
  by_cases e1 : t.sy = u.sy
  case neg =>
    have q1 : (t.sy != u.sy) = true := by simpa using e1
    have HR := Lib.hid (show t.same u = false by rw [HS.out]; simp [e1])
    clear e1
    go_wp2_with fail
    go_ret
    exact ⟨ret_bool HR.out.symm, hB⟩
  case pos =>
  have q1 : (t.sy != u.sy) = false := by simpa using e1
  have E1 := Lib.hid e1
  clear e1
  by_cases e2 : t.pr = u.pr
  case neg =>
    have q2 : (t.pr != u.pr) = true := by simpa using e2
    have HR := Lib.hid (show t.same u = false by rw [HS.out]; simp [e2])
    clear e2
    go_wp2_with fail
    go_ret
    exact ⟨ret_bool HR.out.symm, hB⟩
  case pos =>
  have q2 : (t.pr != u.pr) = false := by simpa using e2
  have E2 := Lib.hid e2
  clear e2
  by_cases e3 : t.kids.length = u.kids.length
  case neg =>
    have q3 : ((t.kids.length : Int) != (u.kids.length : Int)) = true := bne_iff_ne.2 (by omega)
    have HR := Lib.hid (show t.same u = false by rw [HS.out, TrsSame_len e3]; simp)
    clear e3
    go_wp2_with fail
    go_ret
    exact ⟨ret_bool HR.out.symm, hB⟩
  case pos =>
  have q3 : ((t.kids.length : Int) != (u.kids.length : Int)) = false := by rw [show (t.kids.length : Int) = (u.kids.length : Int) by omega]; exact bne_self_eq_false _
  have E3 := Lib.hid e3
  have HT := Lib.hid (show t.same u = TrsSame t.kids u.kids by rw [HS.out, E1.out, E2.out]; simp)
  clear e3 E1 E2 HS
  go_wp2_with fail
  clear p0 p1 p2 r0 r1 r2 q1 q2 q3
  go_loopw [5] (fun iv wx => ∃ i : Nat, iv = .int .i64 i ∧ i ≤ t.kids.length ∧ Below W.heap.size W wx ∧ Hid (TrsSame (t.kids.drop i) (u.kids.drop i) = t.same u)) (fun iv _ => t.kids.length - (intOf iv).toNat)
  case atStart => exact ⟨0, rfl, by omega, Below.refl _ _, by show _ = _; rw [List.drop_zero, List.drop_zero]; exact HT.out.symm⟩
  case round =>
    obtain ⟨i, rfl, hi, hbr, HI⟩ := hrel
    have hx2 := (hbr.block _ (Array.getElem?_eq_some_iff.1 HX2.out).1).trans HX2.out
    have hx3 := (hbr.block _ (Array.getElem?_eq_some_iff.1 HX3.out).1).trans HX3.out
    have p2 := cell_of_heap (i := 2) (v := .slice a t.kids.length c) hx2 rfl
    have hwr := hB.trans (hbr.mono hB.size)
    by_cases hlt : i < t.kids.length
    · have hlt2 : i < u.kids.length := by have := E3.out; omega
      obtain ⟨b, o, kvi, rfl, hb, d0, d1, d2, hati⟩ := HTS.out.get i hlt
      obtain ⟨b', o', kui, rfl, hb', d0', d1', d2', hati'⟩ := HUS.out.get i hlt2
      have hstep := TrsSame_step hlt hlt2
      have hmem : t.kids[i] ∈ t.kids := List.getElem_mem hlt
      have hkc : t.kids[i].cnt ≤ 1000000 := by have := TrsCnt_mem hmem; have := HC.out; rw [Tr.cnt_eq] at this; omega
      obtain ⟨kd, hkd⟩ : ∃ kd, kd = t.kids[i] := ⟨_, rfl⟩
      obtain ⟨ku, hku⟩ : ∃ ku, ku = u.kids[i] := ⟨_, rfl⟩
      rw [← hkd] at hstep d0 d1 hati hmem hkc
      rw [← hku] at hstep d0' d1' hati'
      rw [Nat.zero_add] at d0 d1 d2 d0' d1' d2'
      have hcall : ∀ s : Sb wr, Calls Try.prog 53 #[.agg #[.int .i64 kd.sy, .int .i64 kd.pr, kvi], .agg #[.int .i64 ku.sy, .int .i64 ku.pr, kui]] s.w fun e w' => e = .returned (.bool (kd.same ku)) ∧ ∃ s' : Sb wr, w' = s'.w := fun s =>
        Calls.sb (HIH.out kd hmem ku kvi kui s.w ((hati.keep (hwr.trans (s.below.mono hwr.size))).up (Nat.le_trans hwr.size s.below.size)) ((hati'.keep (hwr.trans (s.below.mono hwr.size))).up (Nat.le_trans hwr.size s.below.size)) hkc)
      have f0 : ∀ s : Sb wr, s.w.cell? ⟨b, o + i * 3, none⟩ = some (.int .i64 kd.sy) := fun s => s.cell ((hwr.cell (p := ⟨b, _, none⟩) hb).trans d0)
      have f1 : ∀ s : Sb wr, s.w.cell? ⟨b, o + i * 3 + 1, none⟩ = some (.int .i64 kd.pr) := fun s => s.cell ((hwr.cell (p := ⟨b, _, none⟩) hb).trans d1)
      have f2 : ∀ s : Sb wr, s.w.cell? ⟨b, o + i * 3 + 2, none⟩ = some kvi := fun s => s.cell ((hwr.cell (p := ⟨b, _, none⟩) hb).trans d2)
      have f3 : ∀ s : Sb wr, s.w.cell? ⟨b', o' + i * 3, none⟩ = some (.int .i64 ku.sy) := fun s => s.cell ((hwr.cell (p := ⟨b', _, none⟩) hb').trans d0')
      have f4 : ∀ s : Sb wr, s.w.cell? ⟨b', o' + i * 3 + 1, none⟩ = some (.int .i64 ku.pr) := fun s => s.cell ((hwr.cell (p := ⟨b', _, none⟩) hb').trans d1')
      have f5 : ∀ s : Sb wr, s.w.cell? ⟨b', o' + i * 3 + 2, none⟩ = some kui := fun s => s.cell ((hwr.cell (p := ⟨b', _, none⟩) hb').trans d2')
      have g0 : ∀ s : Sb wr, s.w.cell? ⟨w.heap.size, 2, none⟩ = some (.slice (some ⟨b, o, none⟩) t.kids.length c) := fun s => s.cell p2
      have g1 : ∀ s : Sb wr, s.w.cell? ⟨w.heap.size + 1, 2, none⟩ = some (.slice (some ⟨b', o', none⟩) u.kids.length c2) := fun s => s.cell (cell_of_heap hx3 rfl)
      have HI' := Lib.hid (HI.out.symm.trans hstep)
      have HCALL := Lib.hid hcall
      have hltI : (i : Int) < (t.kids.length : Int) := by omega
      have hltI2 : (i : Int) < (u.kids.length : Int) := by omega
      have hi0 : (0 : Int) ≤ (i : Int) := Int.natCast_nonneg _
      obtain ⟨akd, ckd, rfl, _⟩ := hati.len
      obtain ⟨aku, cku, rfl, _⟩ := hati'.len
      clear hcall hstep d0 d1 d2 d0' d1' d2' hati hati' hkd hku hmem hkc hx2 hx3 HI
      generalize kd.same ku = r at *
      go_upto_region 6 with (fail)
      refine wp_region_sb (by kernel_rfl) (by kernel_rfl) ?_
      repeat (go_big_quiet_step (first | (go_at_call 53; exact HCALL.out _)))
      refine wpQuiet_nil ?_
      intro s
      clear f0 f1 f2 f3 f4 f5 g0 g1
      have hbs := hbr.trans (s.below.mono hbr.size)
      have hwi : IntKind.i64.wrap ((i : Int) + 1) = ((i + 1 : Nat) : Int) := by rw [IntKind.wrap_i64]; omega
      cases r with
      | true =>
        go_wp2_with fail
        go_roundw
        case rel => exact ⟨i + 1, by go_num, by omega, hbs, by show _ = _; have := HI'.out; rw [Bool.true_and] at this; exact this.symm⟩
        case measure => simp [intOf]; omega
      | false =>
        go_wp2_with fail
        go_ret
        exact ⟨ret_bool (by have := HI'.out; rw [Bool.false_and] at this; exact this.symm), hwr.trans (s.below.mono hwr.size)⟩
    · have hge : ¬ ((i : Int) < (t.kids.length : Int)) := by omega
      have HR := Lib.hid (show t.same u = true by
        have h1 := HI.out
        rw [List.drop_of_length_le (by omega), List.drop_of_length_le (by have := E3.out; omega)] at h1
        rw [← h1]; rfl)
      go_wp2_with fail
      go_ret
      exact ⟨ret_bool HR.out.symm, hwr⟩

set_option maxRecDepth 100000 in
set_option maxHeartbeats 4000000 in
theorem stamped_call (n : Nd) : ∀ (m : Nd) (w : World), n.In w → m.In w → n.WF → m.WF →
    Calls Try.prog 56 #[n.ptr, m.ptr] w fun e w' => e = .returned (.bool (n.stamped m)) ∧ Below w.heap.size w w' := by
  revert n
  refine Nd.ind ?_
  intro n ih m w hn hm hnw hmw
  have nok := Nd.WF.ok n hnw
  have mok := Nd.WF.ok m hmw
  have hlen := nok.klen
  have hlen2 := mok.klen
  have K1 := Lib.hid (fun W (hW : Below w.heap.size w W) => kids_some n W (hn.below hW) (by have := nok.ht1; omega) (by omega))
  have K2 := Lib.hid (fun W (hW : Below w.heap.size w W) => kids_some m W (hm.below hW) (by have := mok.ht1; omega) (by omega))
  have T1 := Lib.hid (fun W (hW : Below w.heap.size w W) => stamp_some n W (hn.below hW) (by have := nok.ht1; omega))
  have T2 := Lib.hid (fun W (hW : Below w.heap.size w W) => stamp_some m W (hm.below hW) (by have := mok.ht1; omega))
  have HIH := Lib.hid ih
  have HN := Lib.hid (And.intro hn hnw)
  have HM := Lib.hid (And.intro hm hmw)
  have HS := Lib.hid (Nd.stamped_eq n m)
  clear nok mok ih hn hm hnw hmw
  unfold Nd.ptr at K1 K2 T1 T2 ⊢
  go_enter Try.func56, Try.ntmps56
  by_cases e1 : (n.st == m.st && (n.lk == m.lk && (n.fm == m.fm))) = true
  case neg =>
    have heq : ∀ W, (binOp .neq 57 (.agg #[.int .i64 n.st, .int .i64 n.lk, .bool n.fm]) (.agg #[.int .i64 m.st, .int .i64 m.lk, .bool m.fm])).run Try.prog W = .ok (.bool true) W := fun W => by
      rw [neq57, Bool.eq_false_iff.2 e1]; rfl
    have HR := Lib.hid (show n.stamped m = false by rw [HS.out, Bool.eq_false_iff.2 e1]; rfl)
    clear e1
    go_wp2_with (first
      | (go_at_call 34; refine (K1.out _ (Below.refl _ _)).mono ?_; rintro e w1 ⟨v1, rfl, hr1, hb1⟩; clear hr1)
      | (go_at_call 34; refine (K2.out _ hb1).mono ?_; rintro e w2 ⟨v2, rfl, hr2, hb2⟩; clear hr2; replace hb2 := hb1.trans (hb2.mono hb1.size))
      | (go_at_call 61; refine (T1.out _ hb2).mono ?_; rintro e w3 ⟨rfl, hb3⟩; replace hb3 := hb2.trans (hb3.mono hb2.size))
      | (go_at_call 61; refine (T2.out _ hb3).mono ?_; rintro e w4 ⟨rfl, hb4⟩; replace hb4 := hb3.trans (hb4.mono hb3.size)))
    go_ret
    exact ⟨ret_bool HR.out.symm, hb4⟩
  case pos =>
  have heq : ∀ W, (binOp .neq 57 (.agg #[.int .i64 n.st, .int .i64 n.lk, .bool n.fm]) (.agg #[.int .i64 m.st, .int .i64 m.lk, .bool m.fm])).run Try.prog W = .ok (.bool false) W := fun W => by
    rw [neq57, e1]; rfl
  have HT := Lib.hid (show n.stamped m = NdsStamped n.kids m.kids by rw [HS.out, e1]; rfl)
  clear e1 HS
  by_cases e3 : n.kids.length = m.kids.length
  case neg =>
    have q3 : ((n.kids.length : Int) != (m.kids.length : Int)) = true := bne_iff_ne.2 (by omega)
    have HR := Lib.hid (show n.stamped m = false by rw [HT.out, NdsStamped_len e3])
    clear e3
    go_wp2_with (first
      | (go_at_call 34; refine (K1.out _ (Below.refl _ _)).mono ?_; rintro e w1 ⟨v1, rfl, hr1, hb1⟩; obtain ⟨A1, c1, rfl, _⟩ := ownsRow_any hr1; clear hr1)
      | (go_at_call 34; refine (K2.out _ hb1).mono ?_; rintro e w2 ⟨v2, rfl, hr2, hb2⟩; obtain ⟨A2, c2, rfl, _⟩ := ownsRow_any hr2; clear hr2; replace hb2 := hb1.trans (hb2.mono hb1.size))
      | (go_at_call 61; refine (T1.out _ hb2).mono ?_; rintro e w3 ⟨rfl, hb3⟩; replace hb3 := hb2.trans (hb3.mono hb2.size))
      | (go_at_call 61; refine (T2.out _ hb3).mono ?_; rintro e w4 ⟨rfl, hb4⟩; replace hb4 := hb3.trans (hb4.mono hb3.size)))
    go_ret
    exact ⟨ret_bool HR.out.symm, hb4⟩
  case pos =>
  have q3 : ((n.kids.length : Int) != (m.kids.length : Int)) = false := by rw [show (n.kids.length : Int) = (m.kids.length : Int) by omega]; exact bne_self_eq_false _
  have E3 := Lib.hid e3
  clear e3
  go_wp2_with (first
    | (go_at_call 34; refine (K1.out _ (Below.refl _ _)).mono ?_; rintro e w1 ⟨v1, rfl, hr1, hb1⟩; obtain ⟨A1, c1, rfl, hc1⟩ := ownsRow_any hr1; have C1 := Lib.hid hc1; clear hr1 hc1)
    | (go_at_call 34; refine (K2.out _ hb1).mono ?_; rintro e w2 ⟨v2, rfl, hr2, hb12⟩; obtain ⟨A2, c2, rfl, hc2⟩ := ownsRow_any hr2; have C2 := Lib.hid hc2; clear hr2 hc2; have hb2 := hb1.trans (hb12.mono hb1.size))
    | (go_at_call 61; refine (T1.out _ hb2).mono ?_; rintro e w3 ⟨rfl, hb23⟩; have hb3 := hb2.trans (hb23.mono hb2.size))
    | (go_at_call 61; refine (T2.out _ hb3).mono ?_; rintro e w4 ⟨rfl, hb34⟩; have hb4 := hb3.trans (hb34.mono hb3.size)))
  have hb24 := hb23.trans (hb34.mono hb23.size)
  have hb14 := hb12.trans (hb24.mono hb12.size)
  clear hb3 hb23 hb34 heq q3
  go_loopw [7] (fun iv wx => ∃ i : Nat, iv = .int .i64 i ∧ i ≤ n.kids.length ∧ Below w4.heap.size w4 wx ∧ Hid (NdsStamped (n.kids.drop i) (m.kids.drop i) = n.stamped m)) (fun iv _ => n.kids.length - (intOf iv).toNat)
  case atStart => exact ⟨0, rfl, by omega, Below.refl _ _, by show _ = _; rw [List.drop_zero, List.drop_zero]; exact HT.out.symm⟩
  case round =>
    obtain ⟨i, rfl, hi, hbr, HI⟩ := hrel
    have hwr := hb4.trans (hbr.mono hb4.size)
    by_cases hlt : i < n.kids.length
    · have hlt2 : i < m.kids.length := by have := E3.out; omega
      obtain ⟨g1, rfl, _, l1, k1⟩ := C1.out i n.kids[i].ptr (by rw [List.getElem?_map, List.getElem?_eq_getElem hlt]; rfl)
      obtain ⟨g2, rfl, _, l2, k2⟩ := C2.out i m.kids[i].ptr (by rw [List.getElem?_map, List.getElem?_eq_getElem hlt2]; rfl)
      have hstep := NdsStamped_step hlt hlt2
      have hmem : n.kids[i] ∈ n.kids := List.getElem_mem hlt
      have hmem2 : m.kids[i] ∈ m.kids := List.getElem_mem hlt2
      obtain ⟨kd, hkd⟩ : ∃ kd, kd = n.kids[i] := ⟨_, rfl⟩
      obtain ⟨ku, hku⟩ : ∃ ku, ku = m.kids[i] := ⟨_, rfl⟩
      rw [← hkd] at hstep k1 hmem
      rw [← hku] at hstep k2 hmem2
      have hcall : ∀ s : Sb wr, Calls Try.prog 56 #[kd.ptr, ku.ptr] s.w fun e w' => e = .returned (.bool (kd.stamped ku)) ∧ ∃ s' : Sb wr, w' = s'.w := fun s =>
        Calls.sb (HIH.out kd hmem ku s.w ((HN.out.1.head.2.2 kd hmem).below (hwr.trans (s.below.mono hwr.size))) ((HM.out.1.head.2.2 ku hmem2).below (hwr.trans (s.below.mono hwr.size))) (HN.out.2.kid kd hmem) (HM.out.2.kid ku hmem2))
      have f1 : ∀ s : Sb wr, s.w.cell? ⟨g1, i, none⟩ = some (.pointer (some ⟨kd.b, 0, none⟩)) := fun s => s.cell (((hb14.trans (hbr.mono hb14.size)).cell (p := ⟨g1, _, none⟩) l1).trans k1)
      have f2 : ∀ s : Sb wr, s.w.cell? ⟨g2, i, none⟩ = some (.pointer (some ⟨ku.b, 0, none⟩)) := fun s => s.cell (((hb24.trans (hbr.mono hb24.size)).cell (p := ⟨g2, _, none⟩) l2).trans k2)
      have HI' := Lib.hid (HI.out.symm.trans hstep)
      unfold Nd.ptr at hcall
      have HCALL := Lib.hid hcall
      have hltI : (i : Int) < (n.kids.length : Int) := by omega
      have hltI2 : (i : Int) < (m.kids.length : Int) := by omega
      have hi0 : (0 : Int) ≤ (i : Int) := Int.natCast_nonneg _
      clear hcall hstep k1 k2 hkd hku hmem hmem2 HI
      generalize kd.stamped ku = r at *
      go_upto_region 7 with (fail)
      refine wp_region_sb (by kernel_rfl) (by kernel_rfl) ?_
      repeat (go_big_quiet_step (first | (go_at_call 56; exact HCALL.out _)))
      refine wpQuiet_nil ?_
      intro s
      clear f1 f2
      have hbs := hbr.trans (s.below.mono hbr.size)
      have hwi : IntKind.i64.wrap ((i : Int) + 1) = ((i + 1 : Nat) : Int) := by rw [IntKind.wrap_i64]; omega
      cases r with
      | true =>
        go_wp2_with fail
        go_roundw
        case rel => exact ⟨i + 1, by go_num, by omega, hbs, by show _ = _; have := HI'.out; rw [Bool.true_and] at this; exact this.symm⟩
        case measure => simp [intOf]; omega
      | false =>
        go_wp2_with fail
        go_ret
        exact ⟨ret_bool (by have := HI'.out; rw [Bool.false_and] at this; exact this.symm), hwr.trans (s.below.mono hwr.size)⟩
    · have hge : ¬ ((i : Int) < (n.kids.length : Int)) := by omega
      have HR := Lib.hid (show n.stamped m = true by
        have h1 := HI.out
        rw [List.drop_of_length_le (by omega), List.drop_of_length_le (by have := E3.out; omega)] at h1
        rw [← h1]; rfl)
      go_wp2_with fail
      go_ret
      exact ⟨ret_bool HR.out.symm, hwr⟩

end Go.Proofs.Ytcjpmgfobnaoeaa
