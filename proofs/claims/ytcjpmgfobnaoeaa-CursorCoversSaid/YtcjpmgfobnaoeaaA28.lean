/- Plain: what find.Path tells is a chain. -/
import Derived.Test.YtcjpmgfobnaoeaaA26
namespace Go.Proofs.Ytcjpmgfobnaoeaa

/-- Each spot lies within the one ahead, one deeper, and round the offset. -/
def Chain (at' : Int) : Int → Int → Int → List Sp → Prop
  | _, _, _, [] => True
  | d, a, z, s :: l => s.dp = d ∧ s.fa ≤ at' ∧ at' < s.fz ∧ a ≤ s.fa ∧ s.fz ≤ z ∧ Chain at' (d + 1) s.fa s.fz l

theorem Chain.weak {at' d a a' z : Int} {l : List Sp} (h : Chain at' d a z l) (ha : a' ≤ a) : Chain at' d a' z l := by
  cases l with
  | nil => trivial
  | cons s l => obtain ⟨h1, h2, h3, h4, h5, h6⟩ := h; exact ⟨h1, h2, h3, by omega, h5, h6⟩

theorem Chain.at {at' : Int} : ∀ {l : List Sp} {d a z : Int}, Chain at' d a z l → ∀ i (h : i < l.length), (l[i]).dp = d + i ∧ (l[i]).fa ≤ at' ∧ at' < (l[i]).fz
  | s :: l, d, a, z, h, 0, _ => by obtain ⟨h1, h2, h3, _⟩ := h; exact ⟨by simpa using h1, h2, h3⟩
  | s :: l, d, a, z, h, i + 1, hi => by
    obtain ⟨_, _, _, _, _, h6⟩ := h
    obtain ⟨k1, k2, k3⟩ := Chain.at h6 i (by simpa using hi)
    refine ⟨?_, k2, k3⟩
    simp only [List.getElem_cons_succ]
    rw [k1]; omega
theorem Chain.step {at' : Int} : ∀ {l : List Sp} {d a z : Int}, Chain at' d a z l → ∀ i (h : i + 1 < l.length), (l[i]).fa ≤ (l[i + 1]).fa ∧ (l[i + 1]).fz ≤ (l[i]).fz
  | s :: t :: l, d, a, z, h, 0, _ => by obtain ⟨_, _, _, _, _, _, _, _, h4, h5, _⟩ := h; exact ⟨h4, h5⟩
  | s :: l, d, a, z, h, i + 1, hi => by
    obtain ⟨_, _, _, _, _, h6⟩ := h
    exact Chain.step h6 i (by simpa using hi)

theorem belowK_lead {at' : Int} {k : Nd} {f : Int} : ∀ {l : List Nd} {fr : Int}, (∀ m ∈ l, m.WF) → belowK at' fr l = some (k, f) → fr + headLd l ≤ f + k.ld
  | m :: ms, fr, h0, h => by
    rw [belowK_cons] at h
    have hm := Nd.WF.ok m (h0 m (by simp))
    have m1 := hm.ld1
    show fr + m.ld ≤ _
    split at h
    · simp only [Option.some.injEq, Prod.mk.injEq] at h
      obtain ⟨rfl, rfl⟩ := h
      omega
    · obtain ⟨h1, h2, _⟩ := belowK_in (l := ms) (fun x hx => (Nd.WF.ok x (h0 x (by simp [hx]))).bt0) h
      have := (Nd.WF.ok k (h0 k (by simp [h1]))).ld0
      omega
theorem belowK_lt {at' : Int} {k : Nd} {f : Int} : ∀ {l : List Nd} {fr : Int}, belowK at' fr l = some (k, f) → at' < f + k.bt
  | m :: ms, fr, h => by
    rw [belowK_cons] at h
    split at h
    · simp only [Option.some.injEq, Prod.mk.injEq] at h
      obtain ⟨rfl, rfl⟩ := h
      assumption
    · exact belowK_lt h

theorem pathN_chain (at' : Int) : ∀ n : Nd, n.WF → ∀ fr d, Chain at' d (fr + n.ld) (fr + n.bt) (pathN at' fr d n) := by
  refine Nd.ind ?_
  intro n ih h fr d
  rw [pathN_below]
  rcases hb : belowK at' fr n.kids with _ | ⟨k, f⟩
  · trivial
  · obtain ⟨m1, m2, m3⟩ := belowK_in (fun m hm => (Nd.WF.ok m (h.kid m hm)).bt0) hb
    have hl := belowK_lead (fun m hm => h.kid m hm) hb
    have hlt := belowK_lt hb
    have hs := h.sum.2
    show Chain at' d _ _ (if at' < f + k.ld then [] else _)
    split
    · trivial
    · refine ⟨rfl, by simp only []; omega, hlt, ?_, by simp only []; omega, ih k m1 (h.kid k m1) f (d + 1)⟩
      simp only []
      rcases h.cases with ⟨_, h2, _⟩ | ⟨_, _, _, _, h5, _⟩
      · rw [h2] at m1; simp at m1
      · omega

theorem pathA_chain {at' : Int} {n : Nd} (h : n.WF) (h0 : 0 ≤ at') (h1 : at' < n.bt) : Chain at' 0 0 n.bt (pathA n at') := by
  have hc := (pathN_chain at' n h 0 1).weak (a' := 0) (by have := (Nd.WF.ok n h).ld0; omega)
  rw [Int.zero_add] at hc
  exact ⟨rfl, h0, h1, Int.le_refl _, Int.le_refl _, hc⟩

mutual
theorem pathN_len (at' : Int) : ∀ (n : Nd) (fr d : Int), (pathN at' fr d n).length ≤ n.cnt
  | .mk _ _ _ _ _ _ _ _ _ _ _ _ kids, fr, d => by
    unfold pathN Nd.cnt
    have := pathK_len at' kids fr d
    omega
theorem pathK_len (at' : Int) : ∀ (l : List Nd) (fr d : Int), (pathK at' fr d l).length ≤ NdsCnt l
  | [], fr, d => by unfold pathK; simp
  | k :: ks, fr, d => by
    have h1 := pathN_len at' k fr (d + 1)
    have h2 := pathK_len at' ks (fr + k.bt) d
    have h3 := k.cnt_eq
    have h4 := pathK_len2 at' k fr (d + 1)
    unfold pathK NdsCnt
    split
    · split
      · simp
      · simp only [List.length_cons]; omega
    · omega
theorem pathK_len2 (at' : Int) : ∀ (n : Nd) (fr d : Int), (pathN at' fr d n).length + 1 ≤ n.cnt
  | .mk _ _ _ _ _ _ _ _ _ _ _ _ kids, fr, d => by
    unfold pathN Nd.cnt
    have := pathK_len at' kids fr d
    omega
end
theorem pathA_len (n : Nd) (at' : Int) : (pathA n at').length ≤ n.cnt := by
  have := pathK_len2 at' n 0 1
  show (pathN at' 0 1 n).length + 1 ≤ _
  exact this

end Go.Proofs.Ytcjpmgfobnaoeaa
