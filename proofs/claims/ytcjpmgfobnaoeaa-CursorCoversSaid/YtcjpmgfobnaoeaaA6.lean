/- The chapter's answer for the cursor. -/
import Derived.Test.YtcjpmgfobnaoeaaA5
namespace Go.Proofs.Ytcjpmgfobnaoeaa
open Go.RowKit

theorem ret_bool {a b : Bool} (h : a = b) : Ending.returned (.bool a) = .returned (.bool b) := by rw [h]
theorem ret_int {a b : Int} (h : a = b) : Ending.returned (.int .i64 a) = .returned (.int .i64 b) := by rw [h]

/-! ### The chapter's answer for the cursor -/
def mayC (old a b t : Int) : Bool := decide (0 ≤ a ∧ 0 ≤ b ∧ 0 ≤ t ∧ a ≤ old ∧ a ≤ t ∧ b ≤ old - a ∧ b ≤ t - a)

theorem may_any (old a b t : Int) (w : World) (h1 : 0 ≤ old) (h2 : old ≤ 262144) (ht : t ≤ 9223372036854775807) : Calls Try.prog 23 #[.int .i64 old, .int .i64 a, .int .i64 b, .int .i64 t] w fun e w' => e = .returned (.bool (mayC old a b t)) ∧ w' = w := by
  have H : Hid (∀ x : Bool, x = mayC old a b t ↔ (x = true ↔ (0 ≤ a ∧ 0 ≤ b ∧ 0 ≤ t ∧ a ≤ old ∧ a ≤ t ∧ b ≤ old - a ∧ b ≤ t - a))) := Lib.hid (by
    intro x; unfold mayC; cases x <;> simp)
  generalize mayC old a b t = r at *
  go_enter Try.func23, Try.ntmps23
  go_wp2
  all_goals (go_ret; refine ⟨ret_bool ((H.out _).2 ?_), rfl⟩)
  all_goals (simp; omega)

set_option maxHeartbeats 1000000 in
theorem refOld_any (old a b t k : Int) (w : World) (c : CurOk old a b t) : Calls Try.prog 26 #[.int .i64 old, .int .i64 a, .int .i64 b, .int .i64 t, .int .i64 k] w fun e w' => e = .returned (.tuple #[.int .i64 (oldC old a b t k).1, .bool (oldC old a b t k).2]) ∧ w' = w := by
  obtain ⟨h1, h2, ha, hb, h3, h4, h5, h6, h7⟩ := c
  have H := Lib.hid (show ∀ x y, oldC old a b t k = (x, y) → Ending.returned (.tuple #[.int .i64 x, .bool y]) = .returned (.tuple #[.int .i64 (oldC old a b t k).1, .bool (oldC old a b t k).2]) by
    intro x y h; rw [h])
  have HO := Lib.hid (show oldC old a b t k = if k < 0 ∨ t ≤ k then (0, false) else if k < a then (k, true) else if t - b ≤ k then (k - t + old, true) else (0, false) from rfl)
  generalize oldC old a b t k = r at *
  go_enter Try.func26, Try.ntmps26
  go_wp2
  go_loop [12] (fun iv => ∃ i : Nat, iv = .int .i64 i ∧ (i : Int) ≤ a ∧ (k < 0 ∨ i ≤ k)) (fun iv => (a - intOf iv).toNat)
  case atStart => exact ⟨0, rfl, by omega, by omega⟩
  case round =>
    obtain ⟨i, rfl, hi, hk⟩ := hrel
    by_cases hlt : (i : Int) < a
    · by_cases he : k = i
      · have hq : (k == (i : Int)) = true := by simpa using he
        have HE := Lib.hid he
        clear he
        go_wp2
        go_ret2
        exact ⟨H.out _ _ (by rw [HO.out, if_neg (by have := HE.out; omega), if_pos (by have := HE.out; omega), HE.out]), rfl⟩
      · have hq : (k == (i : Int)) = false := by simpa using he
        have HE := Lib.hid he
        clear he
        go_wp2
        go_round
        case rel => exact ⟨i + 1, by go_num, by omega, by have := HE.out; omega⟩
        case measure => simp [intOf]; omega
    · have hia : ¬ ((i : Int) < a) := hlt
      have HI := Lib.hid (show (i : Int) = a by omega)
      go_wp2
      go_loop [13] (fun jv => ∃ j : Nat, jv = .int .i64 j ∧ (j : Int) ≤ b ∧ (k < t - j ∨ t ≤ k)) (fun jv => (b - intOf jv).toNat)
      case atStart => exact ⟨0, rfl, by omega, by omega⟩
      case round =>
        obtain ⟨j, rfl, hj, hk2⟩ := hrel
        by_cases hltj : (j : Int) < b
        · by_cases he : k = t - 1 - j
          · have hq : (k == t - 1 - (j : Int)) = true := by simpa using he
            have HE := Lib.hid he
            clear he
            go_wp2
            go_ret2
            refine ⟨H.out _ _ ?_, rfl⟩
            have := HE.out
            have := HI.out
            rw [HO.out, if_neg (by omega), if_neg (by omega), if_pos (by omega)]
            refine Prod.ext ?_ rfl
            show k - t + old = old - 1 - j
            omega
          · have hq : (k == t - 1 - (j : Int)) = false := by simpa using he
            have HE := Lib.hid he
            clear he
            go_wp2
            go_round
            case rel => exact ⟨j + 1, by go_num, by omega, by have := HE.out; omega⟩
            case measure => simp [intOf]; omega
        · go_wp2
          go_ret2
          refine ⟨H.out _ _ ?_, rfl⟩
          have := HI.out
          rw [HO.out]
          by_cases h0 : k < 0 ∨ t ≤ k
          · rw [if_pos h0]
          · rw [if_neg h0, if_neg (by omega), if_neg (by omega)]

theorem refStays_any (old a b t fr m : Int) (w : World) (c : CurOk old a b t) (f0 : 0 ≤ fr) (f1 : fr ≤ 1000000) (m0 : 1 ≤ m) (m1 : m ≤ 1000000) :
    Calls Try.prog 68 #[.int .i64 old, .int .i64 a, .int .i64 b, .int .i64 fr, .int .i64 m] w fun e w' => e = .returned (.bool (staysC old a b fr m)) ∧ w' = w := by
  obtain ⟨h1, h2, ha, hb, h3, h4, h5, h6, h7⟩ := c
  have H := Lib.hid (show ∀ x : Bool, (x = true ↔ (fr + m ≤ a ∨ old - b ≤ fr)) → Ending.returned (.bool x) = .returned (.bool (staysC old a b fr m)) by
    intro x hx; refine ret_bool ?_; unfold staysC; cases x <;> simp at * <;> omega)
  generalize staysC old a b fr m = r at *
  go_enter Try.func68, Try.ntmps68
  go_wp2
  go_loop [11, 12, 13] (fun fv lv iv => ∃ (i : Nat) (f l : Bool), iv = .int .i64 (fr + i) ∧ fv = .bool f ∧ lv = .bool l ∧ (i : Int) ≤ m ∧ Hid ((f = true ↔ (i = 0 ∨ fr + i ≤ a)) ∧ (l = true ↔ (i = 0 ∨ old - b ≤ fr)))) (fun _ _ iv => (fr + m - intOf iv).toNat)
  case atStart => exact ⟨0, true, true, by simp, rfl, rfl, by omega, by simp [Hid]⟩
  case round =>
    obtain ⟨i, f, l, rfl, rfl, rfl, hi, HI⟩ := hrel
    by_cases hlt : (i : Int) < m
    · cases f <;> cases l <;> go_wp2
      all_goals
        go_round
        case rel =>
          refine ⟨i + 1, _, _, by go_num, rfl, rfl, by omega, ?_⟩
          have := HI.out
          simp only [Hid]
          simp at this ⊢
          omega
        case measure => simp [intOf]; omega
    · cases f <;> cases l <;> go_wp2
      all_goals
        go_ret
        refine ⟨H.out _ ?_, rfl⟩
        have := HI.out
        simp at this ⊢
        omega
end Go.Proofs.Ytcjpmgfobnaoeaa
