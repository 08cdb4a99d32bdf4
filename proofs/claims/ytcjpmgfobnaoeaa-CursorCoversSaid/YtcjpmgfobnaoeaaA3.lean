/- Which nodes are well made, and what follows of their numbers. Plain. -/
import Derived.Test.YtcjpmgfobnaoeaaA0
namespace Go.Proofs.Ytcjpmgfobnaoeaa

def sumTk (l : List Nd) : Int := (l.map Nd.tk).sum
def sumBt (l : List Nd) : Int := (l.map Nd.bt).sum
def maxHt : List Nd → Int
  | [] => 0
  | n :: ns => max n.ht (maxHt ns)
def headLd : List Nd → Int
  | [] => 0
  | n :: _ => n.ld

theorem sumTk_nil : sumTk [] = 0 := rfl
theorem sumTk_cons (n : Nd) (l : List Nd) : sumTk (n :: l) = n.tk + sumTk l := by simp [sumTk]
theorem sumBt_nil : sumBt [] = 0 := rfl
theorem sumBt_cons (n : Nd) (l : List Nd) : sumBt (n :: l) = n.bt + sumBt l := by simp [sumBt]

mutual
/-- A node that was made by Leaf and Make. -/
def Nd.WF : Nd → Prop
  | .mk _ tk bt ld ht sy pr wd st lk _ _ kids =>
    ((pr = -1 ∧ kids = [] ∧ tk = 1 ∧ ht = 1 ∧ bt = ld + wd ∧ 0 ≤ ld ∧ 0 ≤ wd ∧ bt ≤ 65536 ∧ 0 ≤ sy ∧ sy < 32 ∧ 0 ≤ st ∧ lk = -1) ∨
     (0 ≤ pr ∧ kids ≠ [] ∧ tk = sumTk kids ∧ bt = sumBt kids ∧ ld = headLd kids ∧ ht = maxHt kids + 1 ∧ wd = 0 ∧ tk ≤ 262144 ∧ bt ≤ 65536 ∧ 0 ≤ sy ∧ 0 ≤ st ∧ 0 ≤ lk)) ∧ NdsWF kids
def NdsWF : List Nd → Prop
  | [] => True
  | n :: ns => n.WF ∧ NdsWF ns
end

theorem NdsWF_iff : ∀ {ns : List Nd}, NdsWF ns ↔ ∀ n ∈ ns, n.WF
  | [] => by simp [NdsWF]
  | n :: ns => by simp [NdsWF, NdsWF_iff (ns := ns)]

theorem Nd.WF.cases {n : Nd} (h : n.WF) :
    (n.pr = -1 ∧ n.kids = [] ∧ n.tk = 1 ∧ n.ht = 1 ∧ n.bt = n.ld + n.wd ∧ 0 ≤ n.ld ∧ 0 ≤ n.wd ∧ n.bt ≤ 65536 ∧ 0 ≤ n.sy ∧ n.sy < 32 ∧ 0 ≤ n.st ∧ n.lk = -1) ∨
    (0 ≤ n.pr ∧ n.kids ≠ [] ∧ n.tk = sumTk n.kids ∧ n.bt = sumBt n.kids ∧ n.ld = headLd n.kids ∧ n.ht = maxHt n.kids + 1 ∧ n.wd = 0 ∧ n.tk ≤ 262144 ∧ n.bt ≤ 65536 ∧ 0 ≤ n.sy ∧ 0 ≤ n.st ∧ 0 ≤ n.lk) := by
  cases n with
  | mk b tk bt ld ht sy pr wd st lk fm ks kids => unfold Nd.WF at h; exact h.1

theorem Nd.WF.kid {n : Nd} (h : n.WF) : ∀ k ∈ n.kids, k.WF := by
  cases n with
  | mk b tk bt ld ht sy pr wd st lk fm ks kids => unfold Nd.WF at h; exact NdsWF_iff.1 h.2

/-- Induction on a node, all of its kids given. -/
theorem Nd.ind {p : Nd → Prop} (h : ∀ n : Nd, (∀ k ∈ n.kids, p k) → p n) : ∀ n : Nd, p n := by
  intro n
  refine Nd.rec (motive_1 := p) (motive_2 := fun l => ∀ k ∈ l, p k) ?_ ?_ ?_ n
  · intro b tk bt ld ht sy pr wd st lk fm ks kids ih
    exact h _ ih
  · intro k hk
    simp at hk
  · intro n ns h1 h2 k hk
    rcases List.mem_cons.1 hk with rfl | hk
    · exact h1
    · exact h2 k hk

theorem sumTk_ge {l : List Nd} (h : ∀ k ∈ l, 1 ≤ k.tk) : (l.length : Int) ≤ sumTk l ∧ ∀ k ∈ l, k.tk ≤ sumTk l := by
  induction l with
  | nil => simp [sumTk]
  | cons n ns ih =>
    obtain ⟨h1, h2⟩ := ih fun k hk => h k (by simp [hk])
    have hn := h n (by simp)
    rw [sumTk_cons]
    refine ⟨by simp; omega, fun k hk => ?_⟩
    rcases List.mem_cons.1 hk with rfl | hk
    · omega
    · have := h2 k hk; omega

theorem sumBt_ge {l : List Nd} (h : ∀ k ∈ l, 0 ≤ k.bt) : 0 ≤ sumBt l ∧ ∀ k ∈ l, k.bt ≤ sumBt l := by
  induction l with
  | nil => simp [sumBt]
  | cons n ns ih =>
    obtain ⟨h1, h2⟩ := ih fun k hk => h k (by simp [hk])
    have hn := h n (by simp)
    rw [sumBt_cons]
    refine ⟨by omega, fun k hk => ?_⟩
    rcases List.mem_cons.1 hk with rfl | hk
    · omega
    · have := h2 k hk; omega

theorem maxHt_ge {l : List Nd} : 0 ≤ maxHt l ∧ ∀ k ∈ l, k.ht ≤ maxHt l := by
  induction l with
  | nil => simp [maxHt]
  | cons n ns ih =>
    unfold maxHt
    refine ⟨by omega, fun k hk => ?_⟩
    rcases List.mem_cons.1 hk with rfl | hk
    · omega
    · have := ih.2 k hk; omega

/-- What holds of every well made node's numbers. -/
structure NdOk (n : Nd) : Prop where
  tk1 : 1 ≤ n.tk
  tk2 : n.tk ≤ 262144
  bt0 : 0 ≤ n.bt
  bt1 : n.bt ≤ 65536
  ld0 : 0 ≤ n.ld
  ld1 : n.ld ≤ n.bt
  wd0 : 0 ≤ n.wd
  ht1 : 1 ≤ n.ht
  sy0 : 0 ≤ n.sy
  len : (n.kids.length : Int) ≤ n.tk
  klen : n.kids.length ≤ 262144
  pr1 : -1 ≤ n.pr
  kht : ∀ k ∈ n.kids, k.ht < n.ht
  ktk : ∀ k ∈ n.kids, k.tk ≤ n.tk
  kbt : ∀ k ∈ n.kids, k.bt ≤ n.bt

theorem Nd.WF.ok : ∀ n : Nd, n.WF → NdOk n := by
  refine Nd.ind ?_
  intro n ih h
  have ih' : ∀ k ∈ n.kids, NdOk k := fun k hk => ih k hk (h.kid k hk)
  rcases h.cases with ⟨h1, h2, h3, h4, h5, h6, h7, h8, h9, h10, h11, h12⟩ | ⟨h1, h2, h3, h4, h5, h6, h7, h8, h9, h10, h11, h12⟩
  · refine ⟨by omega, by omega, by omega, by omega, by omega, by omega, by omega, by omega, by omega, by rw [h2]; simp; omega, by rw [h2]; simp, by omega, ?_, ?_, ?_⟩ <;> (rw [h2]; simp)
  · obtain ⟨t1, t2⟩ := sumTk_ge fun k hk => (ih' k hk).tk1
    obtain ⟨b1, b2⟩ := sumBt_ge fun k hk => (ih' k hk).bt0
    obtain ⟨m1, m2⟩ := maxHt_ge (l := n.kids)
    have hld : 0 ≤ n.ld ∧ n.ld ≤ n.bt := by
      rw [h5, h4]
      cases hk : n.kids with
      | nil => exact absurd hk h2
      | cons k ks =>
        have := ih' k (by rw [hk]; simp)
        have hb := b2 k (by rw [hk]; simp)
        rw [hk] at hb
        have := this.ld0
        have := (ih' k (by rw [hk]; simp)).ld1
        rw [show headLd (k :: ks) = k.ld from rfl]
        omega
    have hl : 1 ≤ n.kids.length := by
      cases hk : n.kids with
      | nil => exact absurd hk h2
      | cons k ks => simp
    refine ⟨by omega, by omega, by omega, by omega, hld.1, hld.2, by omega, by omega, by omega, by omega, by omega, by omega, ?_, ?_, ?_⟩
    · intro k hk; have := m2 k hk; omega
    · intro k hk; have := t2 k hk; omega
    · intro k hk; have := b2 k hk; omega

theorem Nd.WF.sum {n : Nd} (h : n.WF) : sumTk n.kids ≤ n.tk ∧ sumBt n.kids ≤ n.bt := by
  rcases h.cases with ⟨h1, h2, h3, h4, h5, h6, h7, h8, h9, h10, h11, h12⟩ | ⟨h1, h2, h3, h4, h5, h6, h7, h8, h9, h10, h11, h12⟩
  · rw [h2, sumTk_nil, sumBt_nil]; omega
  · omega

theorem drop_cons {α : Type} {l : List α} {i : Nat} (h : i < l.length) : l.drop i = l[i] :: l.drop (i + 1) := List.drop_eq_getElem_cons h

end Go.Proofs.Ytcjpmgfobnaoeaa
