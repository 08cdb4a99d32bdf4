/- Plain: the visits of a tree, a node ahead of its kids; its spots; which of them an offset lies in. -/
import Derived.Test.YtcjpmgfobnaoeaaA28
namespace Go.Proofs.Ytcjpmgfobnaoeaa

/-- A node, where it begins, how deep it lies. -/
abbrev Vs := Nd × Int × Int

/-- The kids of a node that begin at a place. -/
def kidsV (a d : Int) : List Nd → List Vs
  | [] => []
  | k :: ks => (k, a, d) :: kidsV (a + k.bt) d ks

mutual
/-- The visits of a node and of what is below it. -/
def preN (a d : Int) : Nd → List Vs
  | .mk b tk bt ld ht sy pr wd st lk fm ks kids => (.mk b tk bt ld ht sy pr wd st lk fm ks kids, a, d) :: preK a (d + 1) kids
def preK (a d : Int) : List Nd → List Vs
  | [] => []
  | k :: ks => preN a d k ++ preK (a + k.bt) d ks
end
theorem preN_kids (a d : Int) (n : Nd) : preN a d n = (n, a, d) :: preK a (d + 1) n.kids := by cases n; rfl
theorem preK_cons (a d : Int) (k : Nd) (ks : List Nd) : preK a d (k :: ks) = preN a d k ++ preK (a + k.bt) d ks := by rw [preK]
def preV (v : Vs) : List Vs := preN v.2.1 v.2.2 v.1
theorem preK_eq (d : Int) : ∀ (l : List Nd) (a : Int), preK a d l = (kidsV a d l).flatMap preV
  | [], a => rfl
  | k :: ks, a => by rw [preK_cons, preK_eq d ks]; rfl
theorem preV_eq (v : Vs) : preV v = v :: (kidsV v.2.1 (v.2.2 + 1) v.1.kids).flatMap preV := by
  obtain ⟨n, a, d⟩ := v
  show preN a d n = _
  rw [preN_kids, preK_eq]

/-- The spot of a visit. -/
def spotV (v : Vs) : Sp := ⟨v.1.sy, v.1.pr, if v.2.2 = 0 then 0 else v.2.1 + v.1.ld, v.2.1 + v.1.bt, v.2.2⟩
/-- What Spots tells of a node. -/
def spotsN (n : Nd) : List Sp := (preN 0 0 n).map spotV

mutual
theorem preN_len : ∀ (n : Nd) (a d : Int), (preN a d n).length = n.cnt
  | .mk _ _ _ _ _ _ _ _ _ _ _ _ kids, a, d => by
    unfold preN Nd.cnt
    have := preK_len kids a (d + 1)
    simp only [List.length_cons]
    omega
theorem preK_len : ∀ (l : List Nd) (a d : Int), (preK a d l).length = NdsCnt l
  | [], a, d => by unfold preK; simp [NdsCnt]
  | k :: ks, a, d => by
    have h1 := preN_len k a d
    have h2 := preK_len ks (a + k.bt) d
    rw [preK_cons, List.length_append]
    unfold NdsCnt
    omega
end

/-- Where a visit of something below a node lies. -/
structure Within (a d z l : Int) (v : Vs) : Prop where
  wf : v.1.WF
  ge : a ≤ v.2.1
  ld : l ≤ v.2.1 + v.1.ld
  le : v.2.1 + v.1.bt ≤ z
  dp : d ≤ v.2.2

theorem preN_in : ∀ n : Nd, n.WF → ∀ a d, ∀ v ∈ preN a d n, Within a d (a + n.bt) (a + n.ld) v := by
  refine Nd.ind ?_
  intro n ih h a d v hv
  have hk : ∀ l : List Nd, (∀ k ∈ l, k ∈ n.kids) → ∀ a d, ∀ v ∈ preK a d l, Within a d (a + sumBt l) (a + headLd l) v := by
    intro l
    induction l with
    | nil => intro _ a d v hv; simp [preK] at hv
    | cons k ks ihl =>
      intro hl a d v hv
      have hkm := hl k (by simp)
      have hkw := h.kid k hkm
      have hok := Nd.WF.ok k hkw
      have b0 := hok.bt0
      have l1 := hok.ld1
      have hs0 := (sumBt_ge (l := ks) fun m hm => (Nd.WF.ok m (h.kid m (hl m (by simp [hm])))).bt0).1
      rw [sumBt_cons]
      show Within a d _ (a + k.ld) v
      rw [preK_cons] at hv
      rcases List.mem_append.1 hv with hv | hv
      · obtain ⟨h1, h2, h3, h4, h5⟩ := ih k hkm hkw a d v hv
        exact ⟨h1, h2, h3, by omega, h5⟩
      · obtain ⟨h1, h2, h3, h4, h5⟩ := ihl (fun m hm => hl m (by simp [hm])) (a + k.bt) d v hv
        have := (Nd.WF.ok v.1 h1).ld0
        exact ⟨h1, by omega, by omega, by omega, h5⟩
  rw [preN_kids] at hv
  rcases List.mem_cons.1 hv with rfl | hv
  · exact ⟨h, Int.le_refl _, Int.le_refl _, Int.le_refl _, Int.le_refl _⟩
  · obtain ⟨h1, h2, h3, h4, h5⟩ := hk n.kids (fun _ h => h) a (d + 1) v hv
    have hs := h.sum.2
    refine ⟨h1, h2, ?_, by omega, by omega⟩
    rcases h.cases with ⟨_, e2, _⟩ | ⟨_, _, _, _, e5, _⟩
    · rw [e2] at hv; simp [preK] at hv
    · omega

/-- Does an offset lie in a spot? -/
def Sp.has (s : Sp) (x : Int) : Bool := decide (s.fa ≤ x ∧ x < s.fz)

theorem has_deep {v : Vs} {x : Int} (h : 1 ≤ v.2.2) : (spotV v).has x = decide (v.2.1 + v.1.ld ≤ x ∧ x < v.2.1 + v.1.bt) := by
  unfold Sp.has spotV
  simp only []
  rw [if_neg (by omega)]

/-- Of the spots of a node that is not the root, those in which an offset lies are the way down. -/
theorem preN_path (x : Int) : ∀ n : Nd, n.WF → ∀ a d, 1 ≤ d → ((preN a d n).map spotV).filter (·.has x) = if a + n.ld ≤ x ∧ x < a + n.bt then ⟨n.sy, n.pr, a + n.ld, a + n.bt, d⟩ :: pathN x a (d + 1) n else [] := by
  refine Nd.ind ?_
  intro n ih h a d hd
  by_cases hx : a + n.ld ≤ x ∧ x < a + n.bt
  · rw [if_pos hx, preN_kids, List.map_cons, List.filter_cons, has_deep hd, decide_eq_true hx, if_pos rfl]
    have e : spotV (n, a, d) = ⟨n.sy, n.pr, a + n.ld, a + n.bt, d⟩ := by
      unfold spotV
      simp only []
      rw [if_neg (by omega)]
    rw [e, pathN_kids]
    congr 1
    have hk : ∀ l : List Nd, (∀ k ∈ l, k ∈ n.kids) → ∀ a d, 1 ≤ d → ((preK a d l).map spotV).filter (·.has x) = pathK x a d l := by
      intro l
      induction l with
      | nil => intro _ a d _; rfl
      | cons k ks ihl =>
        intro hl a d hd
        have hkm := hl k (by simp)
        have hkw := h.kid k hkm
        have hok := Nd.WF.ok k hkw
        rw [preK_cons, List.map_append, List.filter_append, ih k hkm hkw a d hd]
        unfold pathK
        by_cases h1 : x < a + k.bt
        · rw [if_pos h1]
          have hno : ((preK (a + k.bt) d ks).map spotV).filter (·.has x) = [] := by
            rw [List.filter_eq_nil_iff]
            intro s hs
            obtain ⟨v, hv, rfl⟩ := List.mem_map.1 hs
            have hw : v.1.WF ∧ a + k.bt ≤ v.2.1 ∧ d ≤ v.2.2 := by
              have hin : ∀ (l : List Nd) (a : Int), (∀ m ∈ l, m.WF) → v ∈ preK a d l → v.1.WF ∧ a ≤ v.2.1 ∧ d ≤ v.2.2 := by
                intro l
                induction l with
                | nil => intro a _ hv; simp [preK] at hv
                | cons m ms ihm =>
                  intro a hw hv
                  rw [preK_cons] at hv
                  rcases List.mem_append.1 hv with hv | hv
                  · obtain ⟨q1, q2, q3, q4, q5⟩ := preN_in m (hw m (by simp)) a d v hv
                    exact ⟨q1, q2, q5⟩
                  · obtain ⟨q1, q2, q3⟩ := ihm (a + m.bt) (fun y hy => hw y (by simp [hy])) hv
                    have := (Nd.WF.ok m (hw m (by simp))).bt0
                    exact ⟨q1, by omega, q3⟩
              exact hin ks _ (fun m hm => h.kid m (hl m (by simp [hm]))) hv
            have := (Nd.WF.ok v.1 hw.1).ld0
            rw [has_deep (by omega)]
            simp only [decide_eq_true_eq]
            omega
          rw [hno, List.append_nil]
          by_cases h2 : x < a + k.ld
          · rw [if_pos h2, if_neg (by omega)]
          · rw [if_neg h2, if_pos ⟨by omega, h1⟩]
        · rw [if_neg h1, if_neg (by omega), List.nil_append]
          exact ihl (fun m hm => hl m (by simp [hm])) (a + k.bt) d hd
    exact hk n.kids (fun _ h => h) a (d + 1) (by omega)
  · rw [if_neg hx, List.filter_eq_nil_iff]
    intro s hs
    obtain ⟨v, hv, rfl⟩ := List.mem_map.1 hs
    obtain ⟨q1, q2, q3, q4, q5⟩ := preN_in n h a d v hv
    rw [has_deep (by omega)]
    simp only [decide_eq_true_eq]
    omega

/-- Of all spots of a tree, those in which an offset lies are the way down from the root. -/
theorem spots_path (n : Nd) (h : n.WF) (x : Int) : (spotsN n).filter (·.has x) = if x < 0 ∨ n.bt ≤ x then [] else pathA n x := by
  unfold spotsN
  have e : spotV (n, 0, 0) = ⟨n.sy, n.pr, 0, n.bt, 0⟩ := by
    unfold spotV
    simp
  have hk : ∀ l : List Nd, (∀ k ∈ l, k.WF) → ∀ a d, 1 ≤ d → ((preK a d l).map spotV).filter (·.has x) = pathK x a d l := by
    intro l hl a d hd
    have h1 : ∀ (l : List Nd) (a : Int), (∀ k ∈ l, k.WF) → x < a → ((preK a d l).map spotV).filter (·.has x) = [] := by
      intro l
      induction l with
      | nil => intro a _ _; rfl
      | cons k ks ihl =>
        intro a hw ha
        have hok := Nd.WF.ok k (hw k (by simp))
        have b0 := hok.bt0
        have l0 := hok.ld0
        rw [preK_cons, List.map_append, List.filter_append, preN_path x k (hw k (by simp)) a d hd, if_neg (by omega), List.nil_append]
        exact ihl _ (fun m hm => hw m (by simp [hm])) (by omega)
    induction l generalizing a with
    | nil => rfl
    | cons k ks ihl =>
      have hok := Nd.WF.ok k (hl k (by simp))
      rw [preK_cons, List.map_append, List.filter_append, preN_path x k (hl k (by simp)) a d hd]
      unfold pathK
      by_cases h2 : x < a + k.bt
      · rw [if_pos h2, h1 ks _ (fun m hm => hl m (by simp [hm])) h2, List.append_nil]
        by_cases h3 : x < a + k.ld
        · rw [if_pos h3, if_neg (by omega)]
        · rw [if_neg h3, if_pos ⟨by omega, h2⟩]
      · rw [if_neg h2, if_neg (by omega), List.nil_append]
        exact ihl (fun m hm => hl m (by simp [hm])) _
  rw [preN_kids, List.map_cons, List.filter_cons, e]
  by_cases hx : x < 0 ∨ n.bt ≤ x
  · rw [if_pos hx]
    have h0 : (Sp.mk n.sy n.pr 0 n.bt 0).has x = false := by
      unfold Sp.has
      simp only [decide_eq_false_iff_not]
      omega
    rw [h0, if_neg (by simp)]
    rw [List.filter_eq_nil_iff]
    intro s hs
    obtain ⟨v, hv, rfl⟩ := List.mem_map.1 hs
    have hm : v ∈ preN 0 0 n := by rw [preN_kids]; exact List.mem_cons_of_mem _ hv
    obtain ⟨q1, q2, q3, q4, q5⟩ := preN_in n h 0 0 v hm
    have hok := Nd.WF.ok n h
    have l0 := hok.ld0
    have vl0 := (Nd.WF.ok v.1 q1).ld0
    unfold Sp.has spotV
    simp only [decide_eq_true_eq]
    split <;> omega
  · rw [if_neg hx]
    have h0 : (Sp.mk n.sy n.pr 0 n.bt 0).has x = true := by
      unfold Sp.has
      simp only [decide_eq_true_eq]
      omega
    rw [h0, if_pos rfl]
    unfold pathA
    rw [pathN_kids, hk n.kids (fun k hk => h.kid k hk) 0 (0 + 1) (by omega)]
    rfl

end Go.Proofs.Ytcjpmgfobnaoeaa
