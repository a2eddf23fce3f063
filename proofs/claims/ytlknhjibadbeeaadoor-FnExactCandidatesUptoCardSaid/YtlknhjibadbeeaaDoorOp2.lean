/- Opening the arguments: terms and clauses as they are read. -/
import Derived.Test.YtlknhjibadbeeaaDoorOp
import Derived.Test.YtlknhjibadbeeaaDoorW37
namespace Go.Proofs.YtlknhjibadbeeaaDoor
open Go.ChangeShapes Go.WideShapes Go.ChangeAt Go.RowKit Go.Deep

theorem four_of {cs : List Value} {a b c d : Value} (hl : cs.length = 4) (h0 : (cs.drop 0).take 1 = [a]) (h1 : (cs.drop 1).take 1 = [b]) (h2 : (cs.drop 2).take 1 = [c]) (h3 : (cs.drop 3).take 1 = [d]) : cs = [a, b, c, d] := by
  match cs, hl with
  | [w, x, y, z], _ => simp at h0 h1 h2 h3; subst h0 h1 h2 h3; rfl

theorem five_of {cs : List Value} (hl : cs.length = 5) : ∃ v0 v1 v2 v3 v4, cs = [v0, v1, v2, v3, v4] := by
  match cs, hl with
  | [a, b, c, d, e], _ => exact ⟨a, b, c, d, e, rfl⟩
theorem bulk_two {H : Type} {ys : List (DataW H × List MemPlace)} {a b : DataW H × List MemPlace} (h0 : ys[0]? = some a) (h1 : ys[1]? = some b) : Rows.uptoBulk a.1 + Rows.uptoBulk b.1 ≤ Rows.uptoBulkAll (ys.map (·.1)) := by
  match ys, h0, h1 with
  | x :: y :: r, h0, h1 =>
    simp only [List.getElem?_cons_zero, List.getElem?_cons_succ, Option.some.injEq] at h0 h1
    subst h0 h1
    simp only [List.map_cons, Rows.uptoBulkAll]
    omega

def i64r (n : Int) : Prop := -9223372036854775808 ≤ n ∧ n ≤ 9223372036854775807
theorem i64_wf {n : Int} (h : (Lit.int .i64 n).wf = true) : i64r n := by
  simp only [Lit.wf, Bool.and_eq_true, decide_eq_true_eq] at h
  exact ⟨h.1, h.2⟩

theorem namesLeL_of : ∀ {ts : List Tm} {m : Nat}, (∀ t ∈ ts, namesLe t m = true) → namesLeL ts m = true
  | [], _, _ => rfl
  | t :: ts, m, h => by
    simp only [namesLeL, Bool.and_eq_true]
    exact ⟨h t (by simp), namesLeL_of fun x hx => h x (by simp [hx])⟩

section
variable {H : Type}
theorem nodesL_bulk (ts : List Tm) (D : Nat → DataW H) (h : ∀ i (hi : i < ts.length), nodes ts[i] ≤ Rows.uptoBulk (D i)) : ∀ j, j ≤ ts.length → nodesL (ts.take j) ≤ Rows.uptoBulkAll ((List.range j).map D)
  | 0, _ => by simp [nodesL]
  | j + 1, hj => by
    rw [nodesL_take ts j (by omega), List.range_succ, List.map_append, append]
    have h1 := nodesL_bulk ts D h j (by omega)
    have h2 := h j (by omega)
    simp only [List.map_cons, List.map_nil, Rows.uptoBulkAll]
    omega
theorem clN_bulk (ts : List Cl) (D : Nat → DataW H) (h : ∀ i (hi : i < ts.length), nodes ts[i].head + nodesL ts[i].body ≤ Rows.uptoBulk (D i)) : ∀ j, j ≤ ts.length → clN (ts.take j) ≤ Rows.uptoBulkAll ((List.range j).map D)
  | 0, _ => by simp [clN]
  | j + 1, hj => by
    rw [clN_take ts j (by omega), List.range_succ, List.map_append, append]
    have h1 := clN_bulk ts D h j (by omega)
    have h2 := h j (by omega)
    simp only [List.map_cons, List.map_nil, Rows.uptoBulkAll]
    omega
end

section
variable {H : Type} {enc : TypeId × Value → H} {P : Program} {w : World} {base : Nat} {spare : Nat → Bool} {held : Bool}
theorem open_struct_fields {e : TypeId} {fs : Array Field} {fuel : Nat} {cs : List Value} {x : DataW H × List MemPlace} (he : P.underlying e = some (.struct fs)) (hone : oneCellFields P fs = true) (h : DataW.trod enc P w base spare held fuel e cs = some x) :
    ∃ (ys : List (DataW H × List MemPlace)) (n : Nat), x.1 = .agg (ys.map (·.1)) ∧ cs.length = P.cellsOf e ∧ ∀ (j : Nat) (f : Field), fs[j]? = some f → ∃ y, ys[j]? = some y ∧ DataW.trod enc P w base spare held n f.type ((cs.drop j).take 1) = some y := by
  obtain ⟨ys, n', -, rfl, hlen, hyl, hf⟩ := DataW.trod_struct he h
  refine ⟨ys, n', rfl, hlen, fun j f hj => ?_⟩
  obtain ⟨ho, hk⟩ := hone_of hone j f hj
  have hjl : j < fs.size := (Array.getElem?_eq_some_iff.1 hj).1
  have h1 := hf j f hj
  rw [ho, hk] at h1
  have hys : ys[j]? = some (ys[j]'(by omega)) := List.getElem?_eq_getElem (by omega)
  exact ⟨_, hys, h1.trans hys⟩
end

section
variable {H : Type} (enc : TypeId × Value → H) (w : World)

def TermsAt (K : Nat) : Prop := ∀ (fuel : Nat) (cs : List Value) (x : DataW H × List MemPlace), Rows.uptoBulk x.1 ≤ K → DataW.trod enc Tryd.prog w 0 (fun _ => true) true fuel 30 cs = some x →
  ∃ ad n c ts, cs = [.slice ad n c] ∧ TmSl (fun _ => True) w ts ad n ∧ nodesL ts ≤ Rows.uptoBulk x.1 ∧ (∀ M, Rows.uptoBulk x.1 ≤ M → namesLeL ts M = true) ∧ ∀ t ∈ ts, i64r t.n
def TermAt (K : Nat) : Prop := ∀ (fuel : Nat) (cs : List Value) (x : DataW H × List MemPlace), Rows.uptoBulk x.1 ≤ K → DataW.trod enc Tryd.prog w 0 (fun _ => true) true fuel 32 cs = some x →
  ∃ k n nm ad m c ks, cs = [.int .i64 k, .int .i64 n, .string ⟨nm.toArray⟩, .slice ad m c] ∧ TmSl (fun _ => True) w ks ad m ∧ nodes (.mk k n nm ks) ≤ Rows.uptoBulk x.1 ∧ (∀ M, Rows.uptoBulk x.1 ≤ M → namesLe (.mk k n nm ks) M = true) ∧ i64r n ∧ ∀ t ∈ ks, i64r t.n

theorem term_of (K : Nat) (ih : TermsAt enc w K) : TermAt enc w (K + 1) := by
  intro fuel cs x hb h
  obtain ⟨ys, n', hx, hlen, hf⟩ := open_struct_fields Tryd.underlying32 (by kernel_rfl) h
  rw [show Tryd.prog.cellsOf 32 = 4 by kernel_rfl] at hlen
  obtain ⟨y0, hy0, ht0⟩ := hf 0 _ rfl
  obtain ⟨y1, hy1, ht1⟩ := hf 1 _ rfl
  obtain ⟨y2, hy2, ht2⟩ := hf 2 _ rfl
  obtain ⟨y3, hy3, ht3⟩ := hf 3 _ rfl
  obtain ⟨n0, e0, -, -⟩ := DataW.trod_int Tryd.underlying3 ht0
  obtain ⟨n1, e1, -, hw1⟩ := DataW.trod_int Tryd.underlying3 ht1
  obtain ⟨sb, e2, q2, -⟩ := DataW.trod_string Tryd.underlying9 ht2
  have hm : Rows.uptoBulk x.1 = Rows.uptoBulkAll (ys.map (·.1)) + 1 := by rw [hx]; rfl
  have m2 := part_le (H := H) (List.mem_map_of_mem (f := (·.1)) (List.mem_of_getElem? hy2))
  have m3 := part_le (H := H) (List.mem_map_of_mem (f := (·.1)) (List.mem_of_getElem? hy3))
  obtain ⟨ad, n, c, ts, e3, hts, hnl, hnm, hint⟩ := ih _ _ y3 (by omega) ht3
  rw [q2] at m2
  simp only [string_eq] at m2
  refine ⟨n0, n1, sb.data.toList, ad, n, c, ts, ?_, hts, by simp only [nodes]; omega, fun M hM => ?_, i64_wf hw1, hint⟩
  · exact four_of hlen e0 e1 e2 e3
  · simp only [namesLe, Bool.and_eq_true, decide_eq_true_eq]
    exact ⟨by omega, hnm M (by omega)⟩

theorem terms_of (K : Nat) (ih : TermAt enc w K) : TermsAt enc w (K + 1) := by
  intro fuel cs x hb h
  rcases open_slice Tryd.underlying30 h with ⟨rfl, rfl⟩ | ⟨a, len, cap, m, n, D, Pl, rfl, -, hlc, -, hm, hx, hi⟩
  · exact ⟨none, 0, 0, [], rfl, ⟨rfl, fun h => by omega⟩, by simp [nodesL], fun _ _ => rfl, fun t ht => by cases ht⟩
  · simp only [ite_true] at hm
    subst hm
    rw [show Tryd.prog.cellsOf 32 = 4 by kernel_rfl] at hi
    have hxb : Rows.uptoBulkAll (List.map D (List.range len)) + 1 ≤ Rows.uptoBulk x.1 := by
      rw [hx]
      exact slice_elems (H := H) (List.map D (List.range len)) (List.map (fun j => D (len + j)) (List.range (m - len)))
    have hD : ∀ i, i < len → Rows.uptoBulk (D i) ≤ Rows.uptoBulkAll (List.map D (List.range len)) := fun i hil => part_le (List.mem_map_of_mem (List.mem_range.2 hil))
    have key : ∀ i, i < len → ∃ t : Tm, w.cell? (a.add (i * 4 + 0)) = some (.int .i64 t.kind) ∧ w.cell? (a.add (i * 4 + 1)) = some (.int .i64 t.n) ∧ w.cell? (a.add (i * 4 + 2)) = some (.string ⟨t.name.toArray⟩) ∧
        (∃ ad n c, w.cell? (a.add (i * 4 + 3)) = some (.slice ad n c) ∧ TmSl (fun _ => True) w t.kids ad n) ∧ nodes t ≤ Rows.uptoBulk (D i) ∧ (∀ M, Rows.uptoBulk (D i) ≤ M → namesLe t M = true) ∧ i64r t.n := by
      intro i hil
      obtain ⟨cs', hc, ht⟩ := hi i (by omega)
      obtain ⟨-, hcl, hat⟩ := World.cells?_some hc
      obtain ⟨k, nn, nm, ad, mm, c, ks, rfl, hts, hnd, hnm, hi64, -⟩ := ih _ _ _ (by have := hD i hil; show Rows.uptoBulk (D i) ≤ K; omega) ht
      have c0 := hat 0 (by omega); have c1 := hat 1 (by omega); have c2 := hat 2 (by omega); have c3 := hat 3 (by omega)
      rw [Go.Deep.add_add] at c0 c1 c2 c3
      exact ⟨.mk k nn nm ks, c0, c1, c2, ⟨ad, mm, c, c3, hts⟩, hnd, hnm, hi64⟩
    obtain ⟨ts, hxl, hp⟩ := list_of_fun len key
    refine ⟨some a, len, m, ts, rfl, ⟨hxl.symm, fun hpos => ?_⟩, ?_, ?_, ?_⟩
    · have h0 := (hp 0 (by omega)).1
      have hs := spot_none (a := a) (by simpa using h0)
      refine ⟨a.block, a.off, ?_, ?_, trivial, rowAt_mk fun k hk => ?_⟩
      · cases a; simp at hs; simp [hs]
      · have := World.block_lt_of_cell? _ _ h0
        rw [add_eq hs] at this
        exact this
      · obtain ⟨c0, c1, c2, ⟨ad, nn, c, c3, hts⟩, -⟩ := hp k hk
        rw [add_eq hs] at c0 c1 c2 c3
        exact ⟨c0, c1, c2, ad, nn, c, c3, hts⟩
    · have := nodesL_bulk ts D (fun i hi => (hp i hi).2.2.2.2.1) len (by omega)
      rw [List.take_of_length_le (by omega)] at this
      omega
    · intro M hM
      refine namesLeL_of fun t ht => ?_
      obtain ⟨i, hi', rfl⟩ := List.mem_iff_getElem.1 ht
      exact (hp i hi').2.2.2.2.2.1 M (by have := hD i (by omega); omega)
    · intro t ht
      obtain ⟨i, hi', rfl⟩ := List.mem_iff_getElem.1 ht
      exact (hp i hi').2.2.2.2.2.2

theorem open_all : ∀ K, TermAt enc w K ∧ TermsAt enc w K
  | 0 => ⟨fun _ _ x h => by have := one_le x.1; omega, fun _ _ x h => by have := one_le x.1; omega⟩
  | K + 1 => ⟨term_of enc w K (open_all K).2, terms_of enc w K (open_all K).1⟩

/-- WHAT A SLICE OF CLAUSES READS AS. -/
theorem open_clauses {fuel : Nat} {cs : List Value} {x : DataW H × List MemPlace} (h : DataW.trod enc Tryd.prog w 0 (fun _ => true) true fuel 29 cs = some x) :
    ∃ ad n c cls, cs = [.slice ad n c] ∧ ClSl (fun _ => True) w cls ad n ∧ clN cls ≤ Rows.uptoBulk x.1 ∧ ∀ y ∈ cls, ∀ M, Rows.uptoBulk x.1 ≤ M → namesLe y.head M = true ∧ namesLeL y.body M = true := by
  rcases open_slice Tryd.underlying29 h with ⟨rfl, rfl⟩ | ⟨a, len, cap, m, n, D, Pl, rfl, -, hlc, -, hm, hx, hi⟩
  · exact ⟨none, 0, 0, [], rfl, ⟨rfl, fun h => by omega⟩, by simp [clN], fun t ht => by cases ht⟩
  · simp only [ite_true] at hm
    subst hm
    rw [show Tryd.prog.cellsOf 72 = 5 by kernel_rfl] at hi
    have hxb : Rows.uptoBulkAll (List.map D (List.range len)) + 1 ≤ Rows.uptoBulk x.1 := by
      rw [hx]
      exact slice_elems (H := H) (List.map D (List.range len)) (List.map (fun j => D (len + j)) (List.range (m - len)))
    have hD : ∀ i, i < len → Rows.uptoBulk (D i) ≤ Rows.uptoBulkAll (List.map D (List.range len)) := fun i hil => part_le (List.mem_map_of_mem (List.mem_range.2 hil))
    have key : ∀ i, i < len → ∃ t : Cl, w.cell? (a.add (i * 5 + 0)) = some (.int .i64 t.head.kind) ∧ w.cell? (a.add (i * 5 + 1)) = some (.int .i64 t.head.n) ∧ w.cell? (a.add (i * 5 + 2)) = some (.string ⟨t.head.name.toArray⟩) ∧
        (∃ ad n c, w.cell? (a.add (i * 5 + 3)) = some (.slice ad n c) ∧ TmSl (fun _ => True) w t.head.kids ad n) ∧ (∃ ad n c, w.cell? (a.add (i * 5 + 4)) = some (.slice ad n c) ∧ TmSl (fun _ => True) w t.body ad n) ∧
        nodes t.head + nodesL t.body ≤ Rows.uptoBulk (D i) ∧ ∀ M, Rows.uptoBulk (D i) ≤ M → namesLe t.head M = true ∧ namesLeL t.body M = true := by
      intro i hil
      obtain ⟨cs', hc, ht⟩ := hi i (by omega)
      obtain ⟨-, hcl, hat⟩ := World.cells?_some hc
      obtain ⟨ys, n', -, hy, -, hyl, hf⟩ := DataW.trod_struct Tryd.underlying72 ht
      have hy2 : ys.length = 2 := hyl
      have f0 : DataW.trod enc Tryd.prog w 0 (fun _ => true) true n' 32 ((cs'.drop 0).take 4) = ys[0]? := by
        exact (congrArg (fun c => DataW.trod enc Tryd.prog w 0 (fun _ => true) true n' 32 ((cs'.drop 0).take c)) (show Tryd.prog.cellsOf 32 = 4 by kernel_rfl)).symm.trans (hf 0 _ rfl)
      have f1 : DataW.trod enc Tryd.prog w 0 (fun _ => true) true n' 30 ((cs'.drop 4).take 1) = ys[1]? := by
        exact (congrArg (fun c => DataW.trod enc Tryd.prog w 0 (fun _ => true) true n' 30 ((cs'.drop 4).take c)) (show Tryd.prog.cellsOf 30 = 1 by kernel_rfl)).symm.trans (hf 1 _ rfl)
      have hy0 : ys[0]? = some (ys[0]'(by omega)) := List.getElem?_eq_getElem (by omega)
      have hy1 : ys[1]? = some (ys[1]'(by omega)) := List.getElem?_eq_getElem (by omega)
      have hDi : Rows.uptoBulk (D i) = Rows.uptoBulkAll (ys.map (·.1)) + 1 := by
        simp only [Prod.mk.injEq] at hy
        rw [hy.1]; rfl
      have m0 := part_le (H := H) (List.mem_map_of_mem (f := (·.1)) (List.mem_of_getElem? hy0))
      have m1 := part_le (H := H) (List.mem_map_of_mem (f := (·.1)) (List.mem_of_getElem? hy1))
      obtain ⟨k, nn, nm, ad, mm, c, ks, e0, hts, hnd, hnm, -, -⟩ := (open_all enc w (Rows.uptoBulk (ys[0]'(by omega)).1)).1 _ _ _ (Nat.le_refl _) (f0.trans hy0)
      obtain ⟨ad2, mm2, c2', ts, e1, hts2, hnd2, hnm2, -⟩ := (open_all enc w (Rows.uptoBulk (ys[1]'(by omega)).1)).2 _ _ _ (Nat.le_refl _) (f1.trans hy1)
      have m01 : Rows.uptoBulk (ys[0]'(by omega)).1 + Rows.uptoBulk (ys[1]'(by omega)).1 ≤ Rows.uptoBulkAll (ys.map (·.1)) := bulk_two hy0 hy1
      obtain ⟨v0, v1, v2, v3, v4, rfl⟩ : ∃ v0 v1 v2 v3 v4, cs' = [v0, v1, v2, v3, v4] := five_of hcl
      simp only [List.drop_zero, List.take_succ_cons, List.take_zero, List.cons.injEq, and_true, List.drop_succ_cons] at e0 e1
      obtain ⟨rfl, rfl, rfl, rfl⟩ := e0
      subst e1
      have c0 := hat 0 (by omega); have c1 := hat 1 (by omega); have c2 := hat 2 (by omega); have c3 := hat 3 (by omega); have c4 := hat 4 (by omega)
      rw [Go.Deep.add_add] at c0 c1 c2 c3 c4
      exact ⟨⟨.mk k nn nm ks, ts⟩, c0, c1, c2, ⟨ad, mm, c, c3, hts⟩, ⟨ad2, mm2, c2', c4, hts2⟩, by show nodes (.mk k nn nm ks) + nodesL ts ≤ _; omega, fun M hM => ⟨hnm M (by omega), hnm2 M (by omega)⟩⟩
    obtain ⟨ts, hxl, hp⟩ := list_of_fun len key
    refine ⟨some a, len, m, ts, rfl, ⟨hxl.symm, fun hpos => ?_⟩, ?_, ?_⟩
    · have h0 := (hp 0 (by omega)).1
      have hs := spot_none (a := a) (by simpa using h0)
      refine ⟨a.block, a.off, ?_, ?_, trivial, fun k hk => ?_⟩
      · cases a; simp at hs; simp [hs]
      · have := World.block_lt_of_cell? _ _ h0
        rw [add_eq hs] at this
        exact this
      · obtain ⟨c0, c1, c2, ⟨ad, nn, c, c3, hts⟩, ⟨ad2, nn2, c', c4, hts2⟩, -⟩ := hp k hk
        rw [add_eq hs] at c0 c1 c2 c3 c4
        exact ⟨c0, c1, c2, ⟨ad, nn, c, c3, hts⟩, ⟨ad2, nn2, c', c4, hts2⟩⟩
    · have := clN_bulk ts D (fun i hi => (hp i hi).2.2.2.2.2.1) len (by omega)
      rw [List.take_of_length_le (by omega)] at this
      omega
    · intro t ht M hM
      obtain ⟨i, hi', rfl⟩ := List.mem_iff_getElem.1 ht
      exact (hp i hi').2.2.2.2.2.2 M (by have := hD i (by omega); omega)
end
end Go.Proofs.YtlknhjibadbeeaaDoor
