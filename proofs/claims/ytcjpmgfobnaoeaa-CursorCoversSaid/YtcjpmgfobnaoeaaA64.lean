/- Plain, for CursorCovers: whose tokens are told of at a place. -/
import Derived.Test.YtcjpmgfobnaoeaaA51
namespace Go.Proofs.Ytcjpmgfobnaoeaa

/-- Where the tokens of a node told of at a place lie. -/
structure SegAt (tk0 a b o fr : Int) (L : List Tok) (m : Nd) : Prop where
  stays : staysC tk0 a b o m.tk = true
  seg : ∃ p s, L = p ++ m.plain.leaves ++ s ∧ fr + p.length = o

theorem begN_seg (tk0 a b o : Int) : ∀ n : Nd, n.WF → ∀ fr, ∀ m ∈ begN tk0 a b o fr n, SegAt tk0 a b o fr n.plain.leaves m := by
  refine Nd.ind ?_
  intro n ih h fr m hm
  have hk : ∀ l : List Nd, (∀ k ∈ l, k ∈ n.kids) → ∀ fr, ∀ m ∈ begK tk0 a b o fr l, SegAt tk0 a b o fr (l.flatMap fun k => k.plain.leaves) m := by
    intro l
    induction l with
    | nil => intro _ fr m hm; unfold begK at hm; simp at hm
    | cons k ks ihl =>
      intro hl fr m hm
      have hkm := hl k (by simp)
      have hkw := h.kid k hkm
      unfold begK at hm
      rw [List.flatMap_cons]
      rcases List.mem_append.1 hm with hm | hm
      · obtain ⟨h1, p, s, h2, h3⟩ := ih k hkm hkw fr m hm
        exact ⟨h1, p, s ++ ks.flatMap fun k => k.plain.leaves, by rw [h2]; simp, h3⟩
      · obtain ⟨h1, p, s, h2, h3⟩ := ihl (fun m hm => hl m (by simp [hm])) (fr + k.tk) m hm
        refine ⟨h1, k.plain.leaves ++ p, s, by rw [h2]; simp, ?_⟩
        rw [List.length_append]
        have := tk_leaves hkw
        omega
  rw [begN_eq] at hm
  rcases List.mem_append.1 hm with hm | hm
  · split at hm
    · rename_i hc
      obtain rfl := List.mem_singleton.1 hm
      exact ⟨by rw [← hc.1]; exact hc.2, [], [], by simp, by simp [hc.1]⟩
    · simp at hm
  · have hpr : 0 ≤ n.pr := by
      rcases h.cases with ⟨_, h2, _⟩ | ⟨h1, _⟩
      · rw [h2] at hm; unfold begK at hm; simp at hm
      · exact h1
    have h1 := hk n.kids (fun _ h => h) fr m hm
    rw [leaves_node hpr, PnsLeaves_eq, List.flatMap_map]
    exact h1

/-- The tokens that are told of ahead of a place. -/
def cov (L : List Tok) (a b t k : Nat) : List Tok := L.take (min a k) ++ (L.drop (L.length - b)).take (k - (t - b))

theorem cov_end {L : List Tok} {a b t : Nat} (h : a ≤ t) (hb : b ≤ L.length) (hbt : b ≤ t) : cov L a b t t = L.take a ++ L.drop (L.length - b) := by
  unfold cov
  rw [Nat.min_eq_left h, List.take_of_length_le (l := L.drop _)]
  rw [List.length_drop]
  omega

theorem take_seg {p m s : List Tok} {i : Nat} (h : p.length = i) : (p ++ (m ++ s)).take (i + m.length) = (p ++ (m ++ s)).take i ++ m := by
  subst h
  rw [List.take_left, ← List.append_assoc, show p.length + m.length = (p ++ m).length by simp, List.take_left]

theorem cov_step {n : Nd} (hwf : n.WF) {a b t k : Nat} (c : CurOk n.tk a b t) (hab : a + b ≤ t) (hk : k < t) :
    (∃ m l, atC n a b t k = m :: l ∧ ((k : Int) < a ∨ (t : Int) - b ≤ k) ∧ 1 ≤ m.tk ∧ (k : Int) + m.tk ≤ t ∧ cov n.plain.leaves a b t (k + m.tk.toNat) = cov n.plain.leaves a b t k ++ m.plain.leaves ∧ m.tk = m.plain.leaves.length) ∨
    (atC n a b t k = [] ∧ ¬ ((k : Int) < a ∨ (t : Int) - b ≤ k) ∧ cov n.plain.leaves a b t (k + 1) = cov n.plain.leaves a b t k) := by
  have hT := tk_leaves hwf
  have hk0 : (0 : Int) ≤ (k : Int) := Int.natCast_nonneg _
  have cb := c.b1
  rcases atC_chain hwf c hk0 (by omega) with ⟨hy, hcond, u, _, hdc⟩ | ⟨hy, hcond, hnil⟩
  · refine .inl ?_
    have hne := hdc.ne
    have hbeg := atC_beg hwf c hy
    cases hl : atC n a b t k with
    | nil => exact absurd hl hne
    | cons m l =>
      have hm : m ∈ begN n.tk a b (oldC n.tk a b t k).1 0 n := by rw [← hbeg, hl]; simp
      obtain ⟨h1, p, s, h2, h3⟩ := begN_seg _ _ _ _ n hwf 0 m hm
      have hmw : m.WF := atN_all (p := fun q => q.WF) (fun q hq => hq.kid) n.tk a b (oldC n.tk a b t k).1 n hwf 0 m (by
        have : m ∈ atC n a b t k := by rw [hl]; simp
        unfold atC at this
        rw [if_pos hy] at this
        exact this)
      have mok := Nd.WF.ok m hmw
      have m1 := mok.tk1
      have hmt := tk_leaves hmw
      have hlen := congrArg List.length h2
      rw [List.length_append, List.length_append] at hlen
      unfold staysC at h1
      have h1 := of_decide_eq_true h1
      refine ⟨m, l, rfl, hcond, m1, ?_⟩
      have hmn : m.tk.toNat = m.plain.leaves.length := by omega
      by_cases hka : (k : Int) < a
      · have ho : (oldC n.tk a b t k).1 = k := by unfold oldC; rw [if_neg (by omega), if_pos hka]
        rw [ho] at h1 h3
        have hle : k + m.plain.leaves.length ≤ a := by omega
        refine ⟨by omega, ?_, hmt⟩
        unfold cov
        rw [hmn, Nat.min_eq_right hle, Nat.min_eq_right (by omega), show k + m.plain.leaves.length - (t - b) = 0 by omega, show k - (t - b) = 0 by omega, List.take_zero, List.append_nil, List.append_nil, h2]
        have hpk : p.length = k := by omega
        rw [List.append_assoc]
        exact take_seg hpk
      · have ho : (oldC n.tk a b t k).1 = k - t + n.tk := by
          unfold oldC
          rw [if_neg (by omega), if_neg hka, if_pos (by omega)]
        rw [ho] at h1 h3
        refine ⟨by omega, ?_, hmt⟩
        unfold cov
        rw [hmn, Nat.min_eq_left (by omega), Nat.min_eq_left (by omega), List.append_assoc]
        congr 1
        obtain ⟨q, hq⟩ : ∃ q, q = n.plain.leaves.length - b := ⟨_, rfl⟩
        rw [← hq]
        have hqp : q ≤ p.length := by omega
        have hd : n.plain.leaves.drop q = p.drop q ++ (m.plain.leaves ++ s) := by
          rw [h2, List.append_assoc, List.drop_append_of_le_length hqp]
        have hpd : (p.drop q).length = k - (t - b) := by rw [List.length_drop]; omega
        rw [hd, show k + m.plain.leaves.length - (t - b) = (k - (t - b)) + m.plain.leaves.length by omega]
        exact take_seg hpd
  · refine .inr ⟨hnil, hcond, ?_⟩
    unfold cov
    rw [Nat.min_eq_left (by omega), Nat.min_eq_left (by omega), show k + 1 - (t - b) = 0 by omega, show k - (t - b) = 0 by omega]

end Go.Proofs.Ytcjpmgfobnaoeaa
