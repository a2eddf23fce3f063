/- Instructions in memory. -/
import Derived.Test.YtlknhjibadbeeaaDoorLm
namespace Go.Proofs.YtlknhjibadbeeaaDoor
open Go.RowKit

/-- instructions in a row of cells -/
def InsRow (w : World) (b o : Nat) (xs : List Ins) : Prop := ∀ k (h : k < xs.length),
  w.cell? ⟨b, o + k * 4, none⟩ = some (.int .i64 xs[k].op) ∧ w.cell? ⟨b, o + k * 4 + 1, none⟩ = some (.int .i64 xs[k].a) ∧
  w.cell? ⟨b, o + k * 4 + 2, none⟩ = some (.int .i64 xs[k].b) ∧ w.cell? ⟨b, o + k * 4 + 3, none⟩ = some (.string ⟨xs[k].name.toArray⟩)

/-- a slice that reads as these instructions -/
def InsSl (w : World) (a : Option Addr) (n : Nat) (xs : List Ins) : Prop :=
  n = xs.length ∧ (0 < n → ∃ b o, a = some ⟨b, o, none⟩ ∧ b < w.heap.size ∧ InsRow w b o xs)

theorem InsRow.below {w w' : World} {b o : Nat} {xs : List Ins} (h : InsRow w b o xs) (hb : Below w.heap.size w w') (hlt : b < w.heap.size) : InsRow w' b o xs := by
  intro k hk
  obtain ⟨h0, h1, h2, h3⟩ := h k hk
  exact ⟨(hb.cell (p := ⟨b, _, none⟩) hlt).trans h0, (hb.cell (p := ⟨b, _, none⟩) hlt).trans h1, (hb.cell (p := ⟨b, _, none⟩) hlt).trans h2, (hb.cell (p := ⟨b, _, none⟩) hlt).trans h3⟩

theorem InsSl.below {w w' : World} {a : Option Addr} {n : Nat} {xs : List Ins} (h : InsSl w a n xs) (hb : Below w.heap.size w w') : InsSl w' a n xs := by
  refine ⟨h.1, fun hn => ?_⟩
  obtain ⟨b, o, ha, hlt, hr⟩ := h.2 hn
  exact ⟨b, o, ha, Nat.lt_of_lt_of_le hlt hb.size, hr.below hb hlt⟩

theorem own_next {wr w2 : World} {g : Nat} {e size : Nat} {v : Value} {n : Nat} {xs : List Value} (h : wr.ownsRow g e size v n xs) (hb : Below wr.heap.size wr w2) : w2.ownsRow g e size v n xs := by
  rcases h.2 with h0 | ⟨g', cap, cur, hv, hg, hh, r⟩
  · exact ⟨h.1, .inl h0⟩
  · refine ⟨h.1, .inr ⟨g', cap, cur, hv, hg, ?_, r⟩⟩
    have hlt : g' < wr.heap.size := by
      rcases Nat.lt_or_ge g' wr.heap.size with h' | h'
      · exact h'
      · simp [Array.getElem?_eq_none h'] at hh
    rw [hb.block g' hlt]; exact hh

/-- the first k rows of four cells hold these values -/
def Done (cs : List Value) (F : Nat → Nat → Value) (k : Nat) : Prop := ∀ j, j < k → ∀ i, i < 4 → cs[j * 4 + i]? = some (F j i)

theorem done_zero (cs : List Value) (F : Nat → Nat → Value) : Done cs F 0 := fun _ h => by omega

theorem done_set {cs : List Value} {F : Nat → Nat → Value} {k n : Nat} {v0 v1 v2 v3 : Value} (hlen : cs.length = n * 4) (hk : k < n) (hd : Done cs F k)
    (h0 : v0 = F k 0) (h1 : v1 = F k 1) (h2 : v2 = F k 2) (h3 : v3 = F k 3) :
    Done ((((cs.set (k * 4) v0).set (k * 4 + 1) v1).set (k * 4 + 2) v2).set (k * 4 + 3) v3) F (k + 1) := by
  subst h0 h1 h2 h3
  intro j hj i hi
  by_cases hjk : j = k
  · subst hjk
    match i, hi with
    | 0, _ => simp [List.getElem?_set, hlen]; omega
    | 1, _ => simp [List.getElem?_set, hlen]; omega
    | 2, _ => simp [List.getElem?_set, hlen]; omega
    | 3, _ => simp [List.getElem?_set, hlen]; omega
  · have := hd j (by omega) i hi
    rw [List.getElem?_set_ne (by omega), List.getElem?_set_ne (by omega), List.getElem?_set_ne (by omega), List.getElem?_set_ne (by omega)]
    exact this

theorem own_store4 {w2 : World} {g e n cap : Nat} {cs : List Value} (h : w2.ownsRow g e 4 (.slice (some ⟨g, 0, none⟩) n cap) n cs) (k : Nat) (v0 v1 v2 v3 : Value) :
    ((((w2.setCell ⟨g, k * 4, none⟩ v0).setCell ⟨g, k * 4 + 1, none⟩ v1).setCell ⟨g, k * 4 + 2, none⟩ v2).setCell ⟨g, k * 4 + 3, none⟩ v3).ownsRow g e 4 (.slice (some ⟨g, 0, none⟩) n cap) n ((((cs.set (k * 4) v0).set (k * 4 + 1) v1).set (k * 4 + 2) v2).set (k * 4 + 3) v3) :=
  ((((h.stored _ _).1.stored _ _).1.stored _ _).1.stored _ _).1

theorem below_store4 {w w2 : World} {g : Nat} (h : Below w.heap.size w w2) (hg : w.heap.size ≤ g) (a b c d : Nat) (v0 v1 v2 v3 : Value) :
    Below w.heap.size w ((((w2.setCell ⟨g, a, none⟩ v0).setCell ⟨g, b, none⟩ v1).setCell ⟨g, c, none⟩ v2).setCell ⟨g, d, none⟩ v3) :=
  (((h.setCell (p := ⟨g, a, none⟩) hg _).setCell (p := ⟨g, b, none⟩) hg _).setCell (p := ⟨g, c, none⟩) hg _).setCell (p := ⟨g, d, none⟩) hg _

theorem own_has {w2 : World} {g e n cap : Nat} {cs : List Value} (h : w2.ownsRow g e 4 (.slice (some ⟨g, 0, none⟩) n cap) n cs) (j : Nat) (hj : j < n * 4) : ∃ v, w2.cell? ⟨g, j, none⟩ = some v := by
  rw [h.cellAt j hj]
  exact ⟨_, List.getElem?_eq_getElem (by have := h.1; omega)⟩

theorem own_lt {w2 : World} {g e n cap : Nat} {cs : List Value} (h : w2.ownsRow g e 4 (.slice (some ⟨g, 0, none⟩) n cap) n cs) : g < w2.heap.size := by
  rcases h.2 with ⟨h', _⟩ | ⟨g', cap', cur, h', hb, hg, _⟩
  · simp at h'
  · simp only [Value.slice.injEq, Option.some.injEq, Addr.mk.injEq, and_true, true_and] at h'
    obtain ⟨rfl, rfl⟩ := h'
    rcases Nat.lt_or_ge g w2.heap.size with h1 | h1
    · exact h1
    · simp [Array.getElem?_eq_none h1] at hg

/-- an instruction's cells -/
def insF (xs : List Ins) (j i : Nat) : Value :=
  match xs[j]? with
  | none => .nilFunc
  | some x => if i = 0 then .int .i64 x.op else if i = 1 then .int .i64 x.a else if i = 2 then .int .i64 x.b else .string ⟨x.name.toArray⟩

theorem insF_0 {xs : List Ins} {k : Nat} (h : k < xs.length) : insF xs k 0 = .int .i64 xs[k].op := by simp [insF, List.getElem?_eq_getElem h]
theorem insF_1 {xs : List Ins} {k : Nat} (h : k < xs.length) : insF xs k 1 = .int .i64 xs[k].a := by simp [insF, List.getElem?_eq_getElem h]
theorem insF_2 {xs : List Ins} {k : Nat} (h : k < xs.length) : insF xs k 2 = .int .i64 xs[k].b := by simp [insF, List.getElem?_eq_getElem h]
theorem insF_3 {xs : List Ins} {k : Nat} (h : k < xs.length) : insF xs k 3 = .string ⟨xs[k].name.toArray⟩ := by simp [insF, List.getElem?_eq_getElem h]
theorem insSl_of_done {w : World} {g e n cap : Nat} {cs : List Value} {xs : List Ins} (h : w.ownsRow g e 4 (.slice (some ⟨g, 0, none⟩) n cap) n cs) (hn : n = xs.length) (hd : Done cs (insF xs) n) : InsSl w (some ⟨g, 0, none⟩) n xs := by
  refine ⟨hn, fun _ => ⟨g, 0, rfl, own_lt h, fun k hk => ?_⟩⟩
  have key : ∀ i, i < 4 → w.cell? ⟨g, 0 + k * 4 + i, none⟩ = some (insF xs k i) := fun i hi => by
    rw [Nat.zero_add, h.cellAt _ (by omega), hd k (by omega) i hi]
  have hx : xs[k]? = some xs[k] := List.getElem?_eq_getElem hk
  refine ⟨?_, ?_, ?_, ?_⟩
  · have := key 0 (by omega); simpa [insF, hx] using this
  · have := key 1 (by omega); simpa [insF, hx] using this
  · have := key 2 (by omega); simpa [insF, hx] using this
  · have := key 3 (by omega); simpa [insF, hx] using this

end Go.Proofs.YtlknhjibadbeeaaDoor
