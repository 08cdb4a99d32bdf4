/- Plain: the places in a kid are the kid's own, moved. -/
import Derived.Test.YtcjpmgfobnaoeaaA31
namespace Go.Proofs.Ytcjpmgfobnaoeaa

def shV (a d : Int) (v : Vs) : Vs := (v.1, v.2.1 + a, v.2.2 + d)
mutual
theorem preN_shift (a d : Int) : ∀ (n : Nd) (b e : Int), preN (b + a) (e + d) n = (preN b e n).map (shV a d)
  | .mk _ _ _ _ _ _ _ _ _ _ _ _ kids, b, e => by
    unfold preN
    have h := preK_shift a d kids b (e + 1)
    rw [show e + 1 + d = e + d + 1 by omega] at h
    rw [h, List.map_cons]
    rfl
theorem preK_shift (a d : Int) : ∀ (l : List Nd) (b e : Int), preK (b + a) (e + d) l = (preK b e l).map (shV a d)
  | [], b, e => rfl
  | k :: ks, b, e => by
    have h1 := preN_shift a d k b e
    have h2 := preK_shift a d ks (b + k.bt) e
    rw [show b + k.bt + a = b + a + k.bt by omega] at h2
    rw [preK_cons, preK_cons, h1, h2, List.map_append]
end

mutual
theorem preN_dp : ∀ (n : Nd) (a d : Int), ∀ v ∈ preN a d n, d ≤ v.2.2
  | .mk _ _ _ _ _ _ _ _ _ _ _ _ kids, a, d, v, hv => by
    unfold preN at hv
    rcases List.mem_cons.1 hv with rfl | hv
    · exact Int.le_refl _
    · have := preK_dp kids a (d + 1) v hv
      omega
theorem preK_dp : ∀ (l : List Nd) (a d : Int), ∀ v ∈ preK a d l, d ≤ v.2.2
  | [], a, d, v, hv => by simp [preK] at hv
  | k :: ks, a, d, v, hv => by
    rw [preK_cons] at hv
    rcases List.mem_append.1 hv with hv | hv
    · exact preN_dp k a d v hv
    · exact preK_dp ks (a + k.bt) d v hv
end

/-- The depth of what is visited, and its height. -/
theorem preN_ht : ∀ n : Nd, n.WF → ∀ a d, ∀ v ∈ preN a d n, v.2.2 + v.1.ht ≤ d + n.ht := by
  refine Nd.ind ?_
  intro n ih h a d v hv
  have hk : ∀ l : List Nd, (∀ k ∈ l, k ∈ n.kids) → ∀ a, ∀ v ∈ preK a (d + 1) l, v.2.2 + v.1.ht ≤ d + n.ht := by
    intro l
    induction l with
    | nil => intro _ a v hv; simp [preK] at hv
    | cons k ks ihl =>
      intro hl a v hv
      have hkm := hl k (by simp)
      have hh := (Nd.WF.ok n h).kht k hkm
      rw [preK_cons] at hv
      rcases List.mem_append.1 hv with hv | hv
      · have := ih k hkm (h.kid k hkm) a (d + 1) v hv
        omega
      · exact ihl (fun m hm => hl m (by simp [hm])) _ v hv
  rw [preN_kids] at hv
  rcases List.mem_cons.1 hv with rfl | hv
  · exact Int.le_refl _
  · exact hk n.kids (fun _ h => h) a v hv

theorem spots_bounds (n : Nd) (h : n.WF) {s : Sp} (hs : s ∈ spotsN n) : 0 ≤ s.fa ∧ s.fa ≤ s.fz ∧ s.fz ≤ n.bt ∧ 0 ≤ s.dp ∧ s.dp ≤ n.ht := by
  obtain ⟨v, hv, rfl⟩ := List.mem_map.1 hs
  obtain ⟨q1, q2, q3, q4, q5⟩ := preN_in n h 0 0 v hv
  have ho := Nd.WF.ok _ q1
  have h1 := ho.ld0
  have h2 := ho.ld1
  have h3 := ho.ht1
  have h4 := preN_ht n h 0 0 v hv
  unfold spotV
  simp only []
  refine ⟨by split <;> omega, by split <;> omega, by omega, by omega, by omega⟩

/-- A kid's spot, moved. -/
def shI (a : Int) (k : Nd) (j : Nat) (s : Sp) : Sp := ⟨s.sy, s.pr, if j = 0 then a + k.ld else s.fa + a, s.fz + a, s.dp + 1⟩
def shK (a : Int) (k : Nd) : List Sp := (spotsN k).mapIdx (shI a k)

theorem shK_len (a : Int) (k : Nd) : (shK a k).length = (spotsN k).length := by unfold shK; rw [List.length_mapIdx]
theorem shK_get (a : Int) (k : Nd) (j : Nat) (h : j < (shK a k).length) : (shK a k)[j] = shI a k j ((spotsN k)[j]'(by rw [shK_len] at h; exact h)) := by
  exact List.getElem_mapIdx

theorem pre_zero (k : Nd) (j : Nat) (h : j < (preN 0 0 k).length) : (j = 0 ∧ (preN 0 0 k)[j] = (k, 0, 0)) ∨ (j ≠ 0 ∧ 1 ≤ ((preN 0 0 k)[j]).2.2) := by
  have e := preN_kids 0 0 k
  rcases j with _ | j
  · refine .inl ⟨rfl, ?_⟩
    simp only [e, List.getElem_cons_zero]
  · refine .inr ⟨by omega, ?_⟩
    simp only [e, List.getElem_cons_succ]
    exact preK_dp k.kids 0 (0 + 1) _ (List.getElem_mem _)

theorem kid_spots (a : Int) (k : Nd) : (preN a 1 k).map spotV = shK a k := by
  have hs := preN_shift a 1 k 0 0
  rw [Int.zero_add, Int.zero_add] at hs
  refine List.ext_getElem ?_ ?_
  · rw [shK_len, List.length_map, hs]
    unfold spotsN
    rw [List.length_map, List.length_map]
  · intro j h1 h2
    rw [shK_get a k j h2]
    have hj : j < (preN 0 0 k).length := by rw [List.length_map, hs, List.length_map] at h1; exact h1
    have e1 : ((preN a 1 k).map spotV)[j] = spotV (shV a 1 ((preN 0 0 k)[j])) := by
      simp only [hs, List.getElem_map]
    have e2 : (spotsN k)[j]'(by unfold spotsN; rw [List.length_map]; exact hj) = spotV ((preN 0 0 k)[j]) := by
      unfold spotsN
      rw [List.getElem_map]
    rw [e1, e2]
    rcases pre_zero k j hj with ⟨rfl, hz⟩ | ⟨h0, hz⟩
    · rw [hz]
      unfold spotV shV shI
      simp
      omega
    · generalize (preN 0 0 k)[j] = v at hz
      unfold spotV shV shI
      simp only []
      rw [if_neg h0, if_neg (by omega), if_neg (by omega)]
      congr 1 <;> omega

theorem spots_within (n : Nd) : spotsN n = ⟨n.sy, n.pr, 0, n.bt, 0⟩ :: (preK 0 1 n.kids).map spotV := by
  unfold spotsN
  rw [preN_kids, List.map_cons]
  congr 1
  unfold spotV
  simp

end Go.Proofs.Ytcjpmgfobnaoeaa
