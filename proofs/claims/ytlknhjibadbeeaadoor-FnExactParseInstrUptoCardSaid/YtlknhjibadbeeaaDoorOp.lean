/- Opening the arguments: a slice of instructions as it is read; the bulk of what is read; closing a law's row. -/
import Derived.Test.YtlknhjibadbeeaaDoorRows
import Derived.Test.YtlknhjibadbeeaaDoorM1
import Derived.Deep.Slices
import Derived.Deep.Fields
import Derived.ChangeSame
import Derived.ProofKit
import Derived.OpenShut
import Derived.Deep.DeepHandedRow
import Derived.Lib.LaidTab
import Derived.LaidMore
import Derived.Stop.Joined
namespace Go.Proofs.YtlknhjibadbeeaaDoor
open Go.ChangeShapes Go.WideShapes Go.ChangeAt Go.RowKit Go.Deep
open Go.ChangeMaps (open_string shut_string)

section
variable {H : Type} {enc : TypeId × Value → H} {P : Program} {w : World} {base : Nat} {spare : Nat → Bool} {held : Bool}
theorem open_slice_fields {t e : TypeId} {fs : Array Field} {fuel : Nat} {cs : List Value} {x : DataW H × List MemPlace} (ht : P.underlying t = some (.slice e)) (he : P.underlying e = some (.struct fs))
    (hone : oneCellFields P fs = true) (hC : P.cellsOf e = fs.size) (h : DataW.trod enc P w base spare held fuel t cs = some x) :
    (cs = [.slice none 0 0] ∧ x = (.nil, [])) ∨
    ∃ (a : Addr) (len cap m : Nat) (D : Nat → DataW H) (Pl : Nat → List MemPlace), cs = [.slice (some a) len cap] ∧ base ≤ a.block ∧ len ≤ cap ∧ cap ≤ maxLen ∧ m = (if spare a.block then cap else len) ∧
      x = (.slice ((List.range len).map D) ((List.range (m - len)).map fun j => D (len + j)), MemPlace.row a (m * fs.size) ++ (List.range m).flatMap Pl) ∧
      ∀ i, i < m → ∃ (ys : List (DataW H × List MemPlace)) (n : Nat), D i = .agg (ys.map (·.1)) ∧ Pl i = ys.flatMap (·.2) ∧ ys.length = fs.size ∧
        ∀ (j : Nat) (f : Field), fs[j]? = some f → ∃ (v : Value) (y : DataW H × List MemPlace), w.cell? (a.add (i * fs.size + j)) = some v ∧ ys[j]? = some y ∧ DataW.trod enc P w base spare held n f.type [v] = some y := by
  rcases open_slice ht h with h0 | ⟨a, len, cap, m, n, D, Pl, hcs, hb, hl, hm, hmm, hx, hi⟩
  · exact .inl h0
  · refine .inr ⟨a, len, cap, m, D, Pl, hcs, hb, hl, hm, hmm, by rw [hC] at hx; exact hx, fun i him => ?_⟩
    obtain ⟨cs', hc, ht'⟩ := hi i him
    rw [hC] at hc
    obtain ⟨ys, n', hn', hy, hlen, hyl, hf⟩ := DataW.trod_struct he ht'
    obtain ⟨_, hcl, hat⟩ := World.cells?_some hc
    simp only [Prod.mk.injEq] at hy
    refine ⟨ys, n', hy.1, hy.2, hyl, fun j f hj => ?_⟩
    obtain ⟨ho, hk⟩ := hone_of hone j f hj
    have hjl : j < fs.size := (Array.getElem?_eq_some_iff.1 hj).1
    have hcell := hat j hjl
    have hv : cs'[j]? = some (cs'[j]'(by omega)) := List.getElem?_eq_getElem (by omega)
    have h1 := hf j f hj
    rw [ho, hk] at h1
    have hone' : (cs'.drop j).take 1 = [cs'[j]'(by omega)] := by
      rw [List.drop_eq_getElem_cons (by omega)]
      rfl
    rw [hone'] at h1
    have hys : ys[j]? = some (ys[j]'(by omega)) := List.getElem?_eq_getElem (by omega)
    refine ⟨_, _, ?_, hys, h1.trans hys⟩
    rw [← Go.Deep.add_add, hcell, hv]
end
theorem one_le {H : Type} (d : DataW H) : 1 ≤ Rows.uptoBulk d := by
  cases d with
  | lit l => cases l <;> simp [Rows.uptoBulk]
  | nil => simp [Rows.uptoBulk]
  | ptr d => simp [Rows.uptoBulk]
  | slice elems spare => simp [Rows.uptoBulk]
  | agg parts => simp [Rows.uptoBulk]
  | iface t d => simp [Rows.uptoBulk]
  | map entries => simp [Rows.uptoBulk]
  | held h => simp [Rows.uptoBulk]

/-- a part's bulk is at most the whole's -/
theorem part_le {H : Type} {d : DataW H} {l : List (DataW H)} (h : d ∈ l) : Rows.uptoBulk d ≤ Rows.uptoBulkAll l := by
  induction l with
  | nil => cases h
  | cons x r ih =>
    simp only [Rows.uptoBulkAll]
    cases List.mem_cons.1 h with
    | inl e => subst e; omega
    | inr e => have := ih e; omega

theorem append {H : Type} (l r : List (DataW H)) : Rows.uptoBulkAll (l ++ r) = Rows.uptoBulkAll l + Rows.uptoBulkAll r := by
  induction l with
  | nil => simp [Rows.uptoBulkAll]
  | cons x l ih => simp only [List.cons_append, Rows.uptoBulkAll, ih]; omega

/-- so many values at the most -/
theorem length_le {H : Type} (l : List (DataW H)) : l.length ≤ Rows.uptoBulkAll l := by
  induction l with
  | nil => simp [Rows.uptoBulkAll]
  | cons x r ih => have := one_le x; simp only [Rows.uptoBulkAll, List.length_cons]; omega

/-- a slice's places, and what they hold -/
theorem slice_le {H : Type} (elems spare : List (DataW H)) : elems.length + spare.length + 1 ≤ Rows.uptoBulk (.slice elems spare) := by
  have h1 := length_le elems
  have h2 := length_le spare
  simp only [Rows.uptoBulk]
  omega
theorem slice_elems {H : Type} (elems spare : List (DataW H)) : Rows.uptoBulkAll elems + 1 ≤ Rows.uptoBulk (.slice elems spare) := by
  simp only [Rows.uptoBulk]
  omega

/-- a string's letters -/
theorem string_eq {H : Type} (bytes : List UInt8) : Rows.uptoBulk (DataW.lit (H := H) (.string bytes)) = bytes.length + 1 := by
  simp [Rows.uptoBulk]


theorem bulk_le {H : Type} {l : List (DataW H)} (hk : Rows.uptoSmall H l = true) : Rows.uptoBulkAll l ≤ 1048576 := of_decide_eq_true hk

theorem list_of_fun {α : Type} {p : Nat → α → Prop} : ∀ n : Nat, (∀ i, i < n → ∃ x, p i x) → ∃ xs : List α, xs.length = n ∧ ∀ i (h : i < xs.length), p i xs[i]
  | 0, _ => ⟨[], rfl, fun i h => by simp at h⟩
  | n + 1, h => by
    obtain ⟨xs, hl, hp⟩ := list_of_fun n fun i hi => h i (by omega)
    obtain ⟨x, hx⟩ := h n (by omega)
    refine ⟨xs ++ [x], by simp [hl], fun i hi => ?_⟩
    rcases Nat.lt_or_ge i xs.length with h1 | h1
    · rw [List.getElem_append_left h1]; exact hp i h1
    · have : i = n := by simp [hl] at hi; omega
      subst this
      rw [List.getElem_append_right h1]
      simpa [hl] using hx

theorem spot_none {w : World} {a : Addr} {v : Value} (h : w.cell? (a.add 0) = some v) : a.spot = none := by
  unfold Addr.add at h
  rw [if_pos rfl] at h
  unfold World.cell? at h
  cases hs : a.spot with
  | none => rfl
  | some k =>
    rw [hs] at h
    cases hh : w.heap[a.block]? with
    | none => rw [hh] at h; cases h
    | some o => rw [hh] at h; cases o <;> simp at h

theorem add_eq {a : Addr} (h : a.spot = none) (n : Nat) : a.add n = ⟨a.block, a.off + n, none⟩ := by
  unfold Addr.add
  by_cases hn : n = 0
  · subst hn; rw [if_pos rfl]; cases a; simp at h; simp [h]
  · rw [if_neg hn]

section
variable {H : Type} {enc : TypeId × Value → H} {w : World}
/-- WHAT A SLICE OF INSTRUCTIONS READS AS. -/
theorem open_instrs {fuel : Nat} {cs : List Value} {x : DataW H × List MemPlace} (h : DataW.trod enc Tryd.prog w 0 (fun _ => true) true fuel 22 cs = some x) :
    ∃ ad n c xs, cs = [.slice ad n c] ∧ InsSl w ad n xs ∧ n ≤ Rows.uptoBulk x.1 ∧ ∀ y ∈ xs, y.name.length ≤ Rows.uptoBulk x.1 := by
  rcases open_slice_fields (e := 57) Tryd.underlying22 Tryd.underlying57 (by kernel_rfl) (by kernel_rfl) h with ⟨rfl, rfl⟩ | ⟨a, len, cap, m, D, Pl, rfl, _, hlc, _, hm, hx, hi⟩
  · exact ⟨none, 0, 0, [], rfl, ⟨rfl, fun h => by omega⟩, by simp, fun y hy => by cases hy⟩
  · simp only [ite_true] at hm
    subst hm
    have key : ∀ i, i < len → ∃ y : Ins, w.cell? (a.add (i * 4 + 0)) = some (.int .i64 y.op) ∧ w.cell? (a.add (i * 4 + 1)) = some (.int .i64 y.a) ∧ w.cell? (a.add (i * 4 + 2)) = some (.int .i64 y.b) ∧
        w.cell? (a.add (i * 4 + 3)) = some (.string ⟨y.name.toArray⟩) ∧ y.name.length ≤ Rows.uptoBulk (D i) := by
      intro i hil
      obtain ⟨ys, k, hD, _, hyl, hf⟩ := hi i (by omega)
      obtain ⟨v0, y0, hc0, hy0, ht0⟩ := hf 0 _ rfl
      obtain ⟨v1, y1, hc1, hy1, ht1⟩ := hf 1 _ rfl
      obtain ⟨v2, y2, hc2, hy2, ht2⟩ := hf 2 _ rfl
      obtain ⟨v3, y3, hc3, hy3, ht3⟩ := hf 3 _ rfl
      obtain ⟨n0, e0, -, -⟩ := DataW.trod_int Tryd.underlying3 ht0
      obtain ⟨n1, e1, -, -⟩ := DataW.trod_int Tryd.underlying3 ht1
      obtain ⟨n2, e2, -, -⟩ := DataW.trod_int Tryd.underlying3 ht2
      obtain ⟨sb, e3, q3, -⟩ := DataW.trod_string Tryd.underlying9 ht3
      simp only [List.cons.injEq, and_true] at e0 e1 e2 e3
      subst e0 e1 e2 e3
      refine ⟨⟨n0, n1, n2, sb.data.toList⟩, hc0, hc1, hc2, ?_, ?_⟩
      · exact hc3
      · rw [hD]
        have hm := part_le (H := H) (List.mem_map_of_mem (f := (·.1)) (List.mem_of_getElem? hy3))
        rw [q3] at hm
        simp only [string_eq] at hm
        simp only [Rows.uptoBulk]
        omega
    obtain ⟨xs, hxl, hp⟩ := list_of_fun len key
    refine ⟨some a, len, m, xs, rfl, ⟨hxl.symm, fun hpos => ?_⟩, ?_, ?_⟩
    · have h0 := (hp 0 (by omega)).1
      have hs := spot_none (a := a) (by simpa using h0)
      refine ⟨a.block, a.off, ?_, ?_, fun k hk => ?_⟩
      · cases a; simp at hs; simp [hs]
      · have := World.block_lt_of_cell? _ _ h0
        rw [add_eq hs] at this
        exact this
      · obtain ⟨c0, c1, c2, c3, -⟩ := hp k hk
        rw [add_eq hs] at c0 c1 c2 c3
        exact ⟨c0, c1, c2, c3⟩
    · rw [hx]
      show _ ≤ Rows.uptoBulk (DataW.slice _ _)
      have := slice_le (H := H) (List.map D (List.range len)) (List.map (fun j => D (len + j)) (List.range (m - len)))
      simp at this
      omega
    · intro y hy
      obtain ⟨k, hk, rfl⟩ := List.getElem_of_mem hy
      have h1 := (hp k hk).2.2.2.2
      have h2 : Rows.uptoBulk (D k) ≤ Rows.uptoBulkAll (List.map D (List.range len)) := part_le (List.mem_map_of_mem (List.mem_range.2 (by omega)))
      have h3 := slice_elems (H := H) (List.map D (List.range len)) (List.map (fun j => D (len + j)) (List.range (m - len)))
      rw [hx]
      show _ ≤ Rows.uptoBulk (DataW.slice _ _)
      omega
end
end Go.Proofs.YtlknhjibadbeeaaDoor
