/- What came in, read as data: trees, tokens, stamps. -/
import Derived.Test.YtcjpmgfobnaoeaaA16
import Derived.ChangeArms
import Derived.DataReads
namespace Go.Proofs.Ytcjpmgfobnaoeaa
open Go.RowKit

/-- A struct's fields: type and offset of each. -/
def fieldsOf : Option TypeDesc → Option (List (TypeId × Nat))
  | some (.struct fs) => some (fs.toList.map fun f => (f.type, f.offset))
  | _ => none

theorem open_struct {H : Type} {enc : TypeId × Value → H} {P : Program} {w : World} {sp : Nat → Bool} {held : Bool} {t : TypeId} {fuel : Nat} {cs : List Value} {x : DataW H × List MemPlace} {l : List (TypeId × Nat)}
    (hf : fieldsOf (P.underlying t) = some l) (h : DataW.trod enc P w 0 sp held fuel t cs = some x) :
    ∃ n, fuel = n + 1 ∧ cs.length = P.cellsOf t ∧ ∀ ty off, (ty, off) ∈ l → ∃ y, DataW.trod enc P w 0 sp held n ty ((cs.drop off).take (P.cellsOf ty)) = some y := by
  unfold fieldsOf at hf
  split at hf
  · rename_i fs hu
    obtain ⟨xs, n, h1, _, h3, h4, h5⟩ := DataW.trod_struct hu h
    refine ⟨n, h1, h3, fun ty off hm => ?_⟩
    simp only [Option.some.injEq] at hf
    rw [← hf] at hm
    obtain ⟨f, hfm, he⟩ := List.mem_map.1 hm
    obtain ⟨i, hi, hfi⟩ := List.getElem_of_mem hfm
    have hi' : i < fs.size := by simpa using hi
    have hq := h5 i f (by rw [Array.getElem?_eq_getElem hi']; simpa using hfi)
    simp only [Prod.mk.injEq] at he
    obtain ⟨rfl, rfl⟩ := he
    exact ⟨xs[i]'(by omega), by rw [hq, List.getElem?_eq_getElem (by omega)]⟩
  · simp at hf

theorem len3 {α : Type} {l : List α} (h : l.length = 3) : ∃ a b c, l = [a, b, c] := by
  rcases l with _ | ⟨a, _ | ⟨b, _ | ⟨c, _ | ⟨d, l⟩⟩⟩⟩ <;> simp at h
  exact ⟨a, b, c, rfl⟩
theorem len5 {α : Type} {l : List α} (h : l.length = 5) : ∃ a b c d e, l = [a, b, c, d, e] := by
  rcases l with _ | ⟨a, _ | ⟨b, _ | ⟨c, _ | ⟨d, _ | ⟨e, _ | ⟨f, l⟩⟩⟩⟩⟩⟩ <;> simp at h
  exact ⟨a, b, c, d, e, rfl⟩

/-- A slice whose elements are what f says. -/
theorem open_slc {α : Type} {H : Type} {enc : TypeId × Value → H} {P : Program} {w : World} {sp : Nat → Bool} {held : Bool} {T E : TypeId} {fuel sz : Nat} {cs : List Value} {x : DataW H × List MemPlace}
    (hT : P.underlying T = some (.slice E)) (hE : P.cellsOf E = sz) (hsz : 0 < sz) (R : List Value → α → Prop)
    (hel : ∀ n, n < fuel → ∀ cs x, DataW.trod enc P w 0 sp held n E cs = some x → ∃ y : α, R cs y) (h : DataW.trod enc P w 0 sp held fuel T cs = some x) :
    ∃ (a : Option Addr) (c : Nat) (es : List α), cs = [.slice a es.length c] ∧ es.length ≤ c ∧ c ≤ maxLen ∧
      ∀ i (hi : i < es.length), ∃ b o cs, a = some ⟨b, o, none⟩ ∧ b < w.heap.size ∧ cs.length = sz ∧ (∀ j u, cs[j]? = some u → w.cell? ⟨b, o + i * sz + j, none⟩ = some u) ∧ R cs es[i] := by
  rcases DataW.trod_slice hT h with ⟨rfl, _⟩ | ⟨a, len, cap, elems, rest, n, rfl, rfl, _, _, hl, hm, hlen, hel2, _, _⟩
  · exact ⟨none, 0, [], rfl, by simp, by decide, fun i hi => by simp at hi⟩
  · have hex : ∀ i, i < len → ∃ y : α, ∃ cs, w.cells? 0 (a.add (i * sz)) sz = some cs ∧ R cs y := by
      intro i hi
      have h1 := hel2 i hi
      rw [hE, List.getElem?_eq_getElem (by omega)] at h1
      simp only [Option.bind_eq_some_iff] at h1
      obtain ⟨cs, hc, hy⟩ := h1
      obtain ⟨y, hR⟩ := hel n (by omega) cs _ hy
      exact ⟨y, cs, hc, hR⟩
    have hlist : ∃ es : List α, es.length = len ∧ ∀ i (hi : i < es.length), ∃ cs, w.cells? 0 (a.add (i * sz)) sz = some cs ∧ R cs es[i] := by
      refine ⟨List.ofFn fun i : Fin len => (hex i.1 i.2).choose, by simp, fun i hi => ?_⟩
      have hi' : i < len := by simpa using hi
      rw [List.getElem_ofFn]
      exact (hex i hi').choose_spec
    obtain ⟨es, hel3, hes⟩ := hlist
    refine ⟨some a, cap, es, by rw [hel3], by omega, hm, fun i hi => ?_⟩
    obtain ⟨cs, hc, hR⟩ := hes i hi
    obtain ⟨_, hcl, hcj⟩ := World.cells?_some hc
    have h0 : 0 < cs.length := by omega
    have hq := hcj 0 hsz
    rw [List.getElem?_eq_getElem h0] at hq
    obtain ⟨b, o, spot⟩ := a
    have hs : spot = none := by
      obtain ⟨cs0, hc0, _⟩ := hes 0 (by omega)
      obtain ⟨_, hcl0, hcj0⟩ := World.cells?_some hc0
      have hq0 := hcj0 0 hsz
      rw [List.getElem?_eq_getElem (show 0 < cs0.length by omega)] at hq0
      simpa [Addr.add] using World.cell?_spot hq0
    subst hs
    rw [Addr.add_lit, Addr.add_lit] at hq
    refine ⟨b, o, cs, rfl, World.block_lt_of_cell? w _ hq, hcl, fun j u hu => ?_, hR⟩
    have hj : j < cs.length := (List.getElem?_eq_some_iff.1 hu).1
    have := hcj j (by omega)
    rw [hu, Addr.add_lit, Addr.add_lit] at this
    exact this

theorem fields24 : fieldsOf (Try.prog.underlying 24) = some [(3, 0), (3, 1), (22, 2)] := by kernel_rfl
theorem fields28 : fieldsOf (Try.prog.underlying 28) = some [(24, 0), (25, 3), (26, 4)] := by kernel_rfl
theorem fields72 : fieldsOf (Try.prog.underlying 72) = some [(3, 0), (3, 1), (3, 2)] := by kernel_rfl
theorem fields57 : fieldsOf (Try.prog.underlying 57) = some [(3, 0), (3, 1), (4, 2)] := by kernel_rfl
theorem und22 : Try.prog.underlying 22 = some (.slice 24) := by kernel_rfl
theorem und25 : Try.prog.underlying 25 = some (.slice 72) := by kernel_rfl
theorem und26 : Try.prog.underlying 26 = some (.slice 57) := by kernel_rfl
theorem und3 : Try.prog.underlying 3 = some (.int .i64) := by kernel_rfl
theorem und4 : Try.prog.underlying 4 = some .bool := by kernel_rfl
theorem cells24 : Try.prog.cellsOf 24 = 3 := by kernel_rfl
theorem cells28 : Try.prog.cellsOf 28 = 5 := by kernel_rfl
theorem cells72 : Try.prog.cellsOf 72 = 3 := by kernel_rfl
theorem cells57 : Try.prog.cellsOf 57 = 3 := by kernel_rfl
theorem cells22 : Try.prog.cellsOf 22 = 1 := by kernel_rfl
theorem cells25 : Try.prog.cellsOf 25 = 1 := by kernel_rfl
theorem cells26 : Try.prog.cellsOf 26 = 1 := by kernel_rfl
theorem cells3 : Try.prog.cellsOf 3 = 1 := by kernel_rfl
theorem cells4 : Try.prog.cellsOf 4 = 1 := by kernel_rfl

section
variable {H : Type} {enc : TypeId × Value → H} {w : World} {sp : Nat → Bool} {held : Bool} {fuel : Nat} {cs : List Value} {x : DataW H × List MemPlace}

theorem open_tree : ∀ (fuel : Nat) (cs : List Value) (x : DataW H × List MemPlace), DataW.trod enc Try.prog w 0 sp held fuel 24 cs = some x → ∃ t : Tr, ∃ kv, cs = [.int .i64 t.sy, .int .i64 t.pr, kv] ∧ t.At w.heap.size w kv := by
  intro fuel
  induction fuel using Nat.strongRecOn with
  | ind fuel ih =>
    intro cs x h
    obtain ⟨n, rfl, hl, hfs⟩ := open_struct fields24 h
    rw [cells24] at hl
    obtain ⟨c0, c1, c2, rfl⟩ := len3 hl
    · obtain ⟨y0, h0⟩ := hfs 3 0 (by simp)
      obtain ⟨y1, h1⟩ := hfs 3 1 (by simp)
      obtain ⟨y2, h2⟩ := hfs 22 2 (by simp)
      rw [cells3] at h0 h1
      rw [cells22] at h2
      simp only [List.drop_zero, List.drop_succ_cons, List.take_succ_cons, List.take_zero] at h0 h1 h2
      obtain ⟨s, e0, _, _⟩ := DataW.trod_int und3 h0
      obtain ⟨p, e1, _, _⟩ := DataW.trod_int und3 h1
      obtain ⟨a, c, es, e2, hc, hm, hel⟩ := open_slc und22 cells24 (by decide) (fun cs (y : Tr × Value) => cs = [.int .i64 y.1.sy, .int .i64 y.1.pr, y.2] ∧ y.1.At w.heap.size w y.2)
        (fun m hm cs x hx => by obtain ⟨t, kv, h1, h2⟩ := ih m (by omega) cs x hx; exact ⟨(t, kv), h1, h2⟩) h2
      simp only [List.cons.injEq, and_true] at e0 e1 e2
      subst e0 e1 e2
      refine ⟨.mk s p (es.map Prod.fst), _, rfl, ?_⟩
      unfold Tr.At
      refine ⟨a, c, by rw [List.length_map], by simpa using hc, ?_⟩
      clear hc hm h0 h1 h2 hfs ih h
      have hgen : ∀ (l : List (Tr × Value)) (i0 : Nat), (∀ i (hi : i < l.length), ∃ b o cs, a = some ⟨b, o, none⟩ ∧ b < w.heap.size ∧ cs.length = 3 ∧ (∀ j u, cs[j]? = some u → w.cell? ⟨b, o + (i0 + i) * 3 + j, none⟩ = some u) ∧
          (cs = [.int .i64 l[i].1.sy, .int .i64 l[i].1.pr, l[i].2] ∧ l[i].1.At w.heap.size w l[i].2)) → TrsAt w.heap.size w a i0 (l.map Prod.fst) := by
        intro l
        induction l with
        | nil => intro i0 _; simp only [List.map_nil]; unfold TrsAt; trivial
        | cons y ys ihl =>
          intro i0 hi
          simp only [List.map_cons]
          unfold TrsAt
          obtain ⟨b, o, cs, e1, e2, e3, e4, e5, e6⟩ := hi 0 (by simp)
          refine ⟨⟨b, o, y.2, e1, e2, ?_, ?_, ?_, e6⟩, ihl (i0 + 1) fun i hil => ?_⟩
          · exact e4 0 _ (by rw [e5]; rfl)
          · exact e4 1 _ (by rw [e5]; rfl)
          · exact e4 2 _ (by rw [e5]; rfl)
          · obtain ⟨b, o, cs, e1, e2, e3, e4, e5⟩ := hi (i + 1) (by simpa using hil)
            refine ⟨b, o, cs, e1, e2, e3, fun j u hu => ?_, e5⟩
            have := e4 j u hu
            rwa [show i0 + (i + 1) = i0 + 1 + i by omega] at this
      exact hgen es 0 fun i hi => by
        obtain ⟨b, o, cs, e1, e2, e3, e4, e5⟩ := hel i hi
        exact ⟨b, o, cs, e1, e2, e3, fun j u hu => by rw [Nat.zero_add]; exact e4 j u hu, e5⟩

/-- A slice of structs of three cells. -/
theorem slc_at {α : Type} {T E : TypeId} (f : α → List Value) (hT : Try.prog.underlying T = some (.slice E)) (hE : Try.prog.cellsOf E = 3)
    (hel : ∀ n cs x, DataW.trod enc Try.prog w 0 sp held n E cs = some x → ∃ y : α, cs = f y) (h : DataW.trod enc Try.prog w 0 sp held fuel T cs = some x) :
    ∃ v, ∃ es : List α, cs = [v] ∧ SlcAt w.heap.size w 3 v (es.map f) := by
  obtain ⟨a, c, es, rfl, hc, hm, hq⟩ := open_slc hT hE (by decide) (fun cs (y : α) => cs = f y) (fun n _ cs x hx => hel n cs x hx) h
  refine ⟨_, es, rfl, ?_⟩
  by_cases h0 : es = []
  · subst h0; exact .inl ⟨a, c, rfl, rfl⟩
  · have hp : 0 < es.length := List.length_pos_iff.2 h0
    obtain ⟨b, o, cs, ha, hb, _⟩ := hq 0 hp
    subst ha
    refine .inr ⟨b, o, c, by rw [List.length_map], by simpa using hc, hb, fun i hi j u hu => ?_⟩
    have hi' : i < es.length := by simpa using hi
    obtain ⟨b', o', cs', e1, _, _, e4, e5⟩ := hq i hi'
    have e2 : b' = b ∧ o' = o := by simpa using e1.symm
    obtain ⟨rfl, rfl⟩ := e2
    refine e4 j u ?_
    rw [List.getElem_map] at hu
    rw [e5]
    exact hu

theorem open_tok : ∀ n cs x, DataW.trod enc Try.prog w 0 sp held n 72 cs = some x → ∃ y : Int × Int × Int, cs = tkCells y := by
  intro n cs x h
  obtain ⟨n, rfl, hl, hfs⟩ := open_struct fields72 h
  rw [cells72] at hl
  obtain ⟨c0, c1, c2, rfl⟩ := len3 hl
  · obtain ⟨y0, h0⟩ := hfs 3 0 (by simp)
    obtain ⟨y1, h1⟩ := hfs 3 1 (by simp)
    obtain ⟨y2, h2⟩ := hfs 3 2 (by simp)
    rw [cells3] at h0 h1 h2
    simp only [List.drop_zero, List.drop_succ_cons, List.take_succ_cons, List.take_zero] at h0 h1 h2
    obtain ⟨a, e0, _, _⟩ := DataW.trod_int und3 h0
    obtain ⟨b, e1, _, _⟩ := DataW.trod_int und3 h1
    obtain ⟨c, e2, _, _⟩ := DataW.trod_int und3 h2
    simp only [List.cons.injEq, and_true] at e0 e1 e2
    subst e0 e1 e2
    exact ⟨(a, b, c), rfl⟩
theorem open_stamp : ∀ n cs x, DataW.trod enc Try.prog w 0 sp held n 57 cs = some x → ∃ y : Int × Int × Bool, cs = stCells y := by
  intro n cs x h
  obtain ⟨n, rfl, hl, hfs⟩ := open_struct fields57 h
  rw [cells57] at hl
  obtain ⟨c0, c1, c2, rfl⟩ := len3 hl
  · obtain ⟨y0, h0⟩ := hfs 3 0 (by simp)
    obtain ⟨y1, h1⟩ := hfs 3 1 (by simp)
    obtain ⟨y2, h2⟩ := hfs 4 2 (by simp)
    rw [cells3] at h0 h1
    rw [cells4] at h2
    simp only [List.drop_zero, List.drop_succ_cons, List.take_succ_cons, List.take_zero] at h0 h1 h2
    obtain ⟨a, e0, _, _⟩ := DataW.trod_int und3 h0
    obtain ⟨b, e1, _, _⟩ := DataW.trod_int und3 h1
    obtain ⟨c, e2, _⟩ := DataW.trod_bool und4 h2
    simp only [List.cons.injEq, and_true] at e0 e1 e2
    subst e0 e1 e2
    exact ⟨(a, b, c), rfl⟩

/-- The data that came in. -/
theorem open_data {v : Value} {d : DataW H} {ps : List MemPlace} (hv : ∃ cs, v = .agg cs) (h : DataW.Trod enc Try.prog w 0 sp held 28 v d ps) : ∃ D : Dt, D.At w.heap.size w v := by
  obtain ⟨cs, rfl⟩ := hv
  obtain ⟨fuel, h⟩ := h
  obtain ⟨n, rfl, hl, hfs⟩ := open_struct fields28 h
  rw [cells28] at hl
  obtain ⟨l⟩ := cs
  simp only [Value.cells] at hl hfs
  obtain ⟨c0, c1, c2, c3, c4, rfl⟩ := len5 hl
  · obtain ⟨y0, h0⟩ := hfs 24 0 (by simp)
    obtain ⟨y1, h1⟩ := hfs 25 3 (by simp)
    obtain ⟨y2, h2⟩ := hfs 26 4 (by simp)
    rw [cells24] at h0
    rw [cells25] at h1
    rw [cells26] at h2
    simp only [List.drop_zero, List.drop_succ_cons, List.take_succ_cons, List.take_zero] at h0 h1 h2
    obtain ⟨t, kv, e0, hat⟩ := open_tree _ _ _ h0
    obtain ⟨tv, tks, e1, ht⟩ := slc_at tkCells und25 cells72 open_tok h1
    obtain ⟨sv, sts, e2, hs⟩ := slc_at stCells und26 cells57 open_stamp h2
    simp only [List.cons.injEq, and_true] at e0 e1 e2
    obtain ⟨rfl, rfl, rfl⟩ := e0
    subst e1 e2
    exact ⟨⟨t, tks, sts⟩, _, _, _, rfl, hat, ht, hs⟩
end

end Go.Proofs.Ytcjpmgfobnaoeaa
