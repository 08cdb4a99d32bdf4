/- Two lists of spots; the document's way down. -/
import Derived.Test.YtcjpmgfobnaoeaaA37
namespace Go.Proofs.Ytcjpmgfobnaoeaa
open Go.RowKit

/-- The slice holds these spots. -/
def SpotsAt (w : World) (v : Value) (l : List Sp) : Prop := ∃ A c, v = .slice A l.length c ∧ ∀ i (hi : i < l.length), ∃ g, A = some ⟨g, 0, none⟩ ∧ g < w.heap.size ∧
    w.cell? ⟨g, i * 5, none⟩ = some (.int .i64 l[i].sy) ∧ w.cell? ⟨g, i * 5 + 1, none⟩ = some (.int .i64 l[i].pr) ∧ w.cell? ⟨g, i * 5 + 2, none⟩ = some (.int .i64 l[i].fa) ∧ w.cell? ⟨g, i * 5 + 3, none⟩ = some (.int .i64 l[i].fz) ∧ w.cell? ⟨g, i * 5 + 4, none⟩ = some (.int .i64 l[i].dp)

theorem SpotsAt.of_row {w : World} {base n : Nat} {v : Value} {l : List Sp} (h : w.ownsRow base 66 5 v n (spots l)) : SpotsAt w v l := by
  obtain ⟨_, A, c, h1, h2⟩ := spots_row h
  exact ⟨A, c, h1, fun i hi => by obtain ⟨g, k1, _, k2, k3⟩ := h2 i hi; exact ⟨g, k1, k2, k3⟩⟩
theorem SpotsAt.keep {w w' : World} {v : Value} {l : List Sp} (h : SpotsAt w v l) (hb : Below w.heap.size w w') : SpotsAt w' v l := by
  obtain ⟨A, c, h1, h2⟩ := h
  refine ⟨A, c, h1, fun i hi => ?_⟩
  obtain ⟨g, k1, k2, q0, q1, q2, q3, q4⟩ := h2 i hi
  exact ⟨g, k1, Nat.lt_of_lt_of_le k2 hb.size, (hb.cell (p := ⟨g, _, none⟩) k2).trans q0, (hb.cell (p := ⟨g, _, none⟩) k2).trans q1, (hb.cell (p := ⟨g, _, none⟩) k2).trans q2, (hb.cell (p := ⟨g, _, none⟩) k2).trans q3, (hb.cell (p := ⟨g, _, none⟩) k2).trans q4⟩
theorem SpotsAt.nil (w : World) : SpotsAt w (.slice none 0 0) [] := ⟨none, 0, rfl, fun i hi => by simp at hi⟩

attribute [local irreducible] Calls
set_option maxRecDepth 100000 in
set_option maxHeartbeats 4000000 in
/-- SameSpots of lists that are the same. -/
theorem sameSpots_call (v u : Value) (l : List Sp) (w : World) (h1 : SpotsAt w v l) (h2 : SpotsAt w u l) (hl : l.length ≤ 1000000) : Calls Try.prog 35 #[v, u] w fun e w' => e = .returned (.bool true) ∧ Below w.heap.size w w' := by
  obtain ⟨A, c, rfl, h1⟩ := h1
  obtain ⟨B, d, rfl, h2⟩ := h2
  have H1 := Lib.hid h1
  have H2 := Lib.hid h2
  clear h1 h2
  have hq : ((l.length : Int) != (l.length : Int)) = false := by simp
  go_enter Try.func35, Try.ntmps35
  go_wp2_with fail
  go_loopw [5] (fun iv wx => ∃ i : Nat, iv = .int .i64 i ∧ i ≤ l.length ∧ Below w.heap.size w wx) (fun iv _ => l.length - (intOf iv).toNat)
  case atStart => exact ⟨0, rfl, by omega, Below.refl _ _⟩
  case round =>
    obtain ⟨i, rfl, hi, hbr⟩ := hrel
    by_cases hlt : i < l.length
    · obtain ⟨g, rfl, lg, q0, q1, q2, q3, q4⟩ := H1.out i hlt
      obtain ⟨k, rfl, lk, r0, r1, r2, r3, r4⟩ := H2.out i hlt
      generalize l[i] = s at q0 q1 q2 q3 q4 r0 r1 r2 r3 r4
      replace q0 := (hbr.cell (p := ⟨g, _, none⟩) lg).trans q0
      replace q1 := (hbr.cell (p := ⟨g, _, none⟩) lg).trans q1
      replace q2 := (hbr.cell (p := ⟨g, _, none⟩) lg).trans q2
      replace q3 := (hbr.cell (p := ⟨g, _, none⟩) lg).trans q3
      replace q4 := (hbr.cell (p := ⟨g, _, none⟩) lg).trans q4
      replace r0 := (hbr.cell (p := ⟨k, _, none⟩) lk).trans r0
      replace r1 := (hbr.cell (p := ⟨k, _, none⟩) lk).trans r1
      replace r2 := (hbr.cell (p := ⟨k, _, none⟩) lk).trans r2
      replace r3 := (hbr.cell (p := ⟨k, _, none⟩) lk).trans r3
      replace r4 := (hbr.cell (p := ⟨k, _, none⟩) lk).trans r4
      have e0 : (s.sy == s.sy) = true := beq_self_eq_true _
      have e1 : (s.pr == s.pr) = true := beq_self_eq_true _
      have e2 : (s.fa == s.fa) = true := beq_self_eq_true _
      have e3 : (s.fz == s.fz) = true := beq_self_eq_true _
      have e4 : (s.dp == s.dp) = true := beq_self_eq_true _
      have hltI : (i : Int) < (l.length : Int) := by omega
      have hi0 : (0 : Int) ≤ (i : Int) := Int.natCast_nonneg _
      go_wp2_with fail
      go_quiet (fail)
      go_wp2_with fail
      go_roundw
      case rel => exact ⟨i + 1, by go_num, by omega, ⟨hbr.os, hbr.tape, hbr.output, hbr.size, hbr.block⟩⟩
      case measure => simp [intOf]; omega
    · have hge : ¬ ((i : Int) < (l.length : Int)) := by omega
      go_wp2_with fail
      go_ret
      exact ⟨rfl, hbr⟩

/-- What the document's Path says of a list. -/
def refPathSays (l : List Sp) (x : Int) (w : World) (e : Ending) (w' : World) : Prop :=
  Below w.heap.size w w' ∧ ((l = [] ∧ e = .returned (.tuple #[.slice none 0 0, .int .i64 1])) ∨
    (l ≠ [] ∧ l.filter (·.has x) = [] ∧ e = .returned (.tuple #[.slice none 0 0, .int .i64 4])) ∨
    (l.filter (·.has x) ≠ [] ∧ ∃ v, e = .returned (.tuple #[v, .int .i64 0]) ∧ w'.ownsRow w.heap.size 66 5 v (l.filter (·.has x)).length (spots (l.filter (·.has x)))))

set_option maxRecDepth 100000 in
set_option maxHeartbeats 4000000 in
theorem refPath_call (v : Value) (l : List Sp) (x : Int) (w : World) (h1 : SpotsAt w v l) (hl : l.length ≤ 1000000) : Calls Try.prog 59 #[v, .int .i64 x] w (refPathSays l x w) := by
  obtain ⟨A, c, rfl, h1⟩ := h1
  have H1 := Lib.hid h1
  clear h1
  by_cases h0 : l = []
  · have hq : (((l.length : Nat) : Int) == 0) = true := by rw [h0]; rfl
    go_enter Try.func59, Try.ntmps59
    go_wp2_with fail
    go_ret2
    exact ⟨Below.refl _ _, .inl ⟨h0, rfl⟩⟩
  have hlp : 0 < l.length := List.length_pos_iff.2 h0
  have hq : ((l.length : Int) == 0) = false := beq_eq_false_iff_ne.2 (by omega)
  have H0 := Lib.hid h0
  clear h0
  go_enter Try.func59, Try.ntmps59
  go_wp2_with fail
  go_loopw [6, 7] (fun ov iv wx => ∃ i : Nat, iv = .int .i64 i ∧ i ≤ l.length ∧ Below w.heap.size w wx ∧ Hid (wx.ownsRow w.heap.size 66 5 ov ((l.take i).filter (·.has x)).length (spots ((l.take i).filter (·.has x))))) (fun _ iv _ => l.length - (intOf iv).toNat)
  case atStart => exact ⟨0, rfl, by omega, Below.refl _ _, World.ownsRow_nil _ _ _ _⟩
  case round =>
    obtain ⟨i, rfl, hi, hbr, HR⟩ := hrel
    have hlen : ((l.take i).filter (·.has x)).length ≤ i := by
      refine Nat.le_trans (List.length_filter_le _ _) ?_
      rw [List.length_take]
      omega
    by_cases hlt : i < l.length
    · obtain ⟨g, rfl, lg, q0, q1, q2, q3, q4⟩ := H1.out i hlt
      have hltI : (i : Int) < (l.length : Int) := by omega
      have hi0 : (0 : Int) ≤ (i : Int) := Int.natCast_nonneg _
      have p0 : wr.cell? ⟨g, i * 5, none⟩ = some (.int .i64 l[i].sy) := (hbr.cell (p := ⟨g, _, none⟩) lg).trans q0
      have p1 : wr.cell? ⟨g, i * 5 + 1, none⟩ = some (.int .i64 l[i].pr) := (hbr.cell (p := ⟨g, _, none⟩) lg).trans q1
      have p2 : wr.cell? ⟨g, i * 5 + 2, none⟩ = some (.int .i64 l[i].fa) := (hbr.cell (p := ⟨g, _, none⟩) lg).trans q2
      have p3 : wr.cell? ⟨g, i * 5 + 3, none⟩ = some (.int .i64 l[i].fz) := (hbr.cell (p := ⟨g, _, none⟩) lg).trans q3
      have p4 : wr.cell? ⟨g, i * 5 + 4, none⟩ = some (.int .i64 l[i].dp) := (hbr.cell (p := ⟨g, _, none⟩) lg).trans q4
      clear q0 q1 q2 q3 q4
      have htake : (l.take (i + 1)).filter (·.has x) = (l.take i).filter (·.has x) ++ (if (l[i]).has x then [l[i]] else []) := by
        rw [List.take_succ_eq_append_getElem hlt, List.filter_append]
        congr 1
        rw [List.filter_cons]
        split <;> simp
      have HT := Lib.hid htake
      clear htake
      obtain ⟨L, hL⟩ : ∃ L, (l.take i).filter (·.has x) = L := ⟨_, rfl⟩
      rw [hL] at HT HR hlen
      clear hL
      obtain ⟨s, hs⟩ : ∃ s, l[i] = s := ⟨_, rfl⟩
      rw [hs] at p0 p1 p2 p3 p4 HT
      clear hs
      by_cases hin : s.fa ≤ x ∧ x < s.fz
      · have hh : s.has x = true := by unfold Sp.has; exact decide_eq_true hin
        rw [if_pos hh] at HT
        obtain ⟨k1, k2⟩ := hin
        have j1 := HR.out
        clear hh
        go_wp2_with (first | (at_builtin; refine wpList_push rfl (.tmp 35) (.tmp 40) 50 rfl 66 _ 5 40 info66 Try.underlying50 rfl (by decide) w.heap.size _ _ (spots L) rfl j1 [.int .i64 s.sy, .int .i64 s.pr, .int .i64 s.fa, .int .i64 s.fz, .int .i64 s.dp] rfl rfl (by simp [Value.oneCell']) (by omega) (by omega) hbr.size ?_; intro g9 c9 w9 hown9 hgr9))
        have hb9 := hbr.trans hgr9.below
        have HO := Lib.hid hown9
        clear hown9 j1
        go_roundw
        case rel =>
          refine ⟨i + 1, by go_num, by omega, hb9, ?_⟩
          show World.ownsRow _ _ _ _ _ _ _
          rw [HT.out, List.length_append]
          unfold spots
          rw [List.flatMap_append]
          exact HO.out
        case measure => simp [intOf]; omega
      · have hh : s.has x = false := by unfold Sp.has; exact decide_eq_false hin
        rw [if_neg (by rw [hh]; simp), List.append_nil] at HT
        clear hh
        by_cases k1 : s.fa ≤ x
        · have k2 : ¬ x < s.fz := fun h => hin ⟨k1, h⟩
          have k3 : s.fz ≤ x := by omega
          clear hin
          go_wp2_with fail
          go_roundw
          case rel => exact ⟨i + 1, by go_num, by omega, hbr, by show World.ownsRow _ _ _ _ _ _ _; rw [HT.out]; exact HR.out⟩
          case measure => simp [intOf]; omega
        · have k2 : x < s.fa := by omega
          clear hin
          go_wp2_with fail
          go_roundw
          case rel => exact ⟨i + 1, by go_num, by omega, hbr, by show World.ownsRow _ _ _ _ _ _ _; rw [HT.out]; exact HR.out⟩
          case measure => simp [intOf]; omega
    · have hge : ¬ ((i : Int) < (l.length : Int)) := by omega
      have hfull : l.take i = l := List.take_of_length_le (by omega)
      rw [hfull] at HR hlen
      clear hfull
      obtain ⟨L, hL⟩ : ∃ L, l.filter (·.has x) = L := ⟨_, rfl⟩
      rw [hL] at HR hlen
      have HL := Lib.hid hL
      clear hL
      obtain ⟨B, d, hv⟩ := row_any HR.out
      subst hv
      by_cases hn : L = []
      · have hq2 : ((L.length : Int) == 0) = true := by rw [hn]; rfl
        have HN := Lib.hid hn
        clear hn
        go_wp2_with fail
        go_ret2
        exact ⟨hbr, .inr (.inl ⟨H0.out, by rw [HL.out]; exact HN.out, rfl⟩)⟩
      · have hnp : 0 < L.length := List.length_pos_iff.2 hn
        have hq2 : ((L.length : Int) == 0) = false := beq_eq_false_iff_ne.2 (by omega)
        have HN := Lib.hid hn
        clear hn
        go_wp2_with fail
        go_ret2
        refine ⟨hbr, .inr (.inr ⟨by rw [HL.out]; exact HN.out, _, rfl, ?_⟩)⟩
        rw [HL.out]
        exact HR.out

end Go.Proofs.Ytcjpmgfobnaoeaa
