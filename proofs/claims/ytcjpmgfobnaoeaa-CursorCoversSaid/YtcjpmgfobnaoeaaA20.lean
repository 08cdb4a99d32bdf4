/- What At tells is what begins there. Plain. -/
import Derived.Test.YtcjpmgfobnaoeaaA17
import Derived.Test.YtcjpmgfobnaoeaaA7
namespace Go.Proofs.Ytcjpmgfobnaoeaa

mutual
theorem begN_lt (tk0 a b at' : Int) : ∀ (n : Nd) (fr : Int), n.WF → at' < fr → begN tk0 a b at' fr n = []
  | .mk bb tk bt ld ht sy pr wd st lk fm ks kids, fr, h, hlt => by
    unfold begN
    rw [if_neg (by omega), begK_lt tk0 a b at' kids fr (fun k hk => h.kid k hk) hlt]
    rfl
theorem begK_lt (tk0 a b at' : Int) : ∀ (ns : List Nd) (fr : Int), (∀ k ∈ ns, k.WF) → at' < fr → begK tk0 a b at' fr ns = []
  | [], fr, _, _ => by unfold begK; rfl
  | n :: ns, fr, h, hlt => by
    unfold begK
    have h1 := (Nd.WF.ok n (h n (by simp))).tk1
    rw [begN_lt tk0 a b at' n fr (h n (by simp)) hlt, begK_lt tk0 a b at' ns (fr + n.tk) (fun k hk => h k (by simp [hk])) (by omega)]
    rfl
end

theorem begK_ge (tk0 a b at' : Int) : ∀ (ns : List Nd) (fr : Int), (∀ k ∈ ns, k.WF) → (∀ k ∈ ns, ∀ f, f + k.tk ≤ at' → begN tk0 a b at' f k = []) → fr + sumTk ns ≤ at' → begK tk0 a b at' fr ns = []
  | [], fr, _, _, _ => by unfold begK; rfl
  | n :: ns, fr, h, ih, hge => by
    unfold begK
    rw [sumTk_cons] at hge
    have h0 := (sumTk_ge (l := ns) fun k hk => (Nd.WF.ok k (h k (by simp [hk]))).tk1).1
    have h1 : (0 : Int) ≤ ns.length := by omega
    rw [ih n (by simp) fr (by omega), begK_ge tk0 a b at' ns (fr + n.tk) (fun k hk => h k (by simp [hk])) (fun k hk => ih k (by simp [hk])) (by omega)]
    rfl

theorem begN_ge (tk0 a b at' : Int) : ∀ (n : Nd), n.WF → ∀ fr, fr + n.tk ≤ at' → begN tk0 a b at' fr n = [] := by
  refine Nd.ind ?_
  intro n ih h fr hge
  have h1 := (Nd.WF.ok n h).tk1
  have h2 := h.sum.1
  rw [begN_eq, if_neg (by omega), begK_ge tk0 a b at' n.kids fr (fun k hk => h.kid k hk) (fun k hk f hf => ih k hk (h.kid k hk) f hf) (by omega)]
  rfl

theorem atK_begK (tk0 a b at' : Int) : ∀ (ns : List Nd) (fr : Int), (∀ k ∈ ns, k.WF) → (∀ k ∈ ns, ∀ f, f ≤ at' → at' < f + k.tk → atN tk0 a b at' f k = begN tk0 a b at' f k) → fr ≤ at' → atK tk0 a b at' fr ns = begK tk0 a b at' fr ns
  | [], fr, _, _, _ => by unfold atK begK; rfl
  | n :: ns, fr, h, ih, hle => by
    unfold atK begK
    by_cases hlt : at' < fr + n.tk
    · rw [if_pos hlt, ih n (by simp) fr hle hlt, begK_lt tk0 a b at' ns (fr + n.tk) (fun k hk => h k (by simp [hk])) hlt, List.append_nil]
    · rw [if_neg hlt, begN_ge tk0 a b at' n (h n (by simp)) fr (by omega), atK_begK tk0 a b at' ns (fr + n.tk) (fun k hk => h k (by simp [hk])) (fun k hk => ih k (by simp [hk])) (by omega)]
      rfl

theorem atN_begN (tk0 a b at' : Int) : ∀ (n : Nd), n.WF → ∀ fr, fr ≤ at' → at' < fr + n.tk → atN tk0 a b at' fr n = begN tk0 a b at' fr n := by
  refine Nd.ind ?_
  intro n ih h fr h1 h2
  rw [atN_eq, begN_eq, atK_begK tk0 a b at' n.kids fr (fun k hk => h.kid k hk) (fun k hk f hf1 hf2 => ih k hk (h.kid k hk) f hf1 hf2) h1]

theorem oldC_in {tk a b t k : Int} (c : CurOk tk a b t) (h : (oldC tk a b t k).2 = true) : 0 ≤ (oldC tk a b t k).1 ∧ (oldC tk a b t k).1 < tk := by
  obtain ⟨h1, h2, ha, hb, h3, h4, h5, h6, h7⟩ := c
  unfold oldC at *
  split at h
  · simp at h
  · rename_i g1
    rw [if_neg g1]
    split at h
    · rename_i g2
      rw [if_pos g2]
      simp only []
      omega
    · rename_i g2
      rw [if_neg g2]
      split at h
      · rename_i g3
        rw [if_pos g3]
        simp only []
        omega
      · simp at h

theorem atC_beg {n : Nd} {a b t k : Int} (hwf : n.WF) (c : CurOk n.tk a b t) (h : (oldC n.tk a b t k).2 = true) : atC n a b t k = begN n.tk a b (oldC n.tk a b t k).1 0 n := by
  obtain ⟨h1, h2⟩ := oldC_in c h
  unfold atC
  rw [if_pos h]
  exact atN_begN _ _ _ _ n hwf 0 h1 (by omega)
theorem atC_none {n : Nd} {a b t k : Int} (h : (oldC n.tk a b t k).2 = false) : atC n a b t k = [] := by
  unfold atC
  rw [if_neg (by simp [h])]

end Go.Proofs.Ytcjpmgfobnaoeaa
