/- Clauses in memory. -/
import Derived.Test.YtlknhjibadbeeaaDoorM2
namespace Go.Proofs.YtlknhjibadbeeaaDoor
open Go.RowKit

/-- clauses in a row of cells, five each -/
def ClRow (S : Nat → Prop) (w : World) (cs : List Cl) (b o : Nat) : Prop := ∀ k (h : k < cs.length),
  w.cell? ⟨b, o + k * 5, none⟩ = some (.int .i64 cs[k].head.kind) ∧ w.cell? ⟨b, o + k * 5 + 1, none⟩ = some (.int .i64 cs[k].head.n) ∧ w.cell? ⟨b, o + k * 5 + 2, none⟩ = some (.string ⟨cs[k].head.name.toArray⟩) ∧
  (∃ a n c, w.cell? ⟨b, o + k * 5 + 3, none⟩ = some (.slice a n c) ∧ TmSl S w cs[k].head.kids a n) ∧ (∃ a n c, w.cell? ⟨b, o + k * 5 + 4, none⟩ = some (.slice a n c) ∧ TmSl S w cs[k].body a n)

/-- a slice that reads as these clauses -/
def ClSl (S : Nat → Prop) (w : World) (cs : List Cl) (a : Option Addr) (n : Nat) : Prop :=
  n = cs.length ∧ (0 < n → ∃ b o, a = some ⟨b, o, none⟩ ∧ b < w.heap.size ∧ S b ∧ ClRow S w cs b o)

theorem ClRow.mono {S S' : Nat → Prop} {w w' : World} {cs : List Cl} {b o : Nat} (h : ClRow S w cs b o) (hs : w.heap.size ≤ w'.heap.size) (hS : ∀ b, S b → S' b) (hw : ∀ b, S b → b < w.heap.size → w'.heap[b]? = w.heap[b]?) (he : w'.heap[b]? = w.heap[b]?) : ClRow S' w' cs b o := by
  intro k hk
  obtain ⟨h0, h1, h2, ⟨a, n, c, h3, hs3⟩, ⟨a', n', c', h4, hs4⟩⟩ := h k hk
  exact ⟨(World.cell?_of_block (w := w) (a := ⟨b, _, none⟩) he).trans h0, (World.cell?_of_block (w := w) (a := ⟨b, _, none⟩) he).trans h1, (World.cell?_of_block (w := w) (a := ⟨b, _, none⟩) he).trans h2,
    ⟨a, n, c, (World.cell?_of_block (w := w) (a := ⟨b, _, none⟩) he).trans h3, hs3.mono hs hS hw⟩, ⟨a', n', c', (World.cell?_of_block (w := w) (a := ⟨b, _, none⟩) he).trans h4, hs4.mono hs hS hw⟩⟩
theorem ClSl.mono {S S' : Nat → Prop} {w w' : World} {cs : List Cl} {a : Option Addr} {n : Nat} (h : ClSl S w cs a n) (hs : w.heap.size ≤ w'.heap.size) (hS : ∀ b, S b → S' b) (hw : ∀ b, S b → b < w.heap.size → w'.heap[b]? = w.heap[b]?) : ClSl S' w' cs a n := by
  refine ⟨h.1, fun hn => ?_⟩
  obtain ⟨b, o, ha, hlt, hSb, hr⟩ := h.2 hn
  exact ⟨b, o, ha, Nat.lt_of_lt_of_le hlt hs, hS b hSb, hr.mono hs hS hw (hw b hSb hlt)⟩
theorem ClRow.below {S : Nat → Prop} {w w' : World} (hb : Below w.heap.size w w') {cs : List Cl} {b o : Nat} (hlt : b < w.heap.size) (h : ClRow S w cs b o) : ClRow S w' cs b o := h.mono hb.size (fun _ h => h) (fun b _ hlt => hb.block b hlt) (hb.block b hlt)
theorem ClSl.below {S : Nat → Prop} {w w' : World} {cs : List Cl} {a : Option Addr} {n : Nat} (h : ClSl S w cs a n) (hb : Below w.heap.size w w') : ClSl S w' cs a n := h.mono hb.size (fun _ h => h) (fun b _ hlt => hb.block b hlt)

/-- the first k rows of five cells hold these values -/
def Done5 (cs : List Value) (F : Nat → Nat → Value) (k : Nat) : Prop := ∀ j, j < k → ∀ i, i < 5 → cs[j * 5 + i]? = some (F j i)

theorem done5_set {cs : List Value} {F : Nat → Nat → Value} {k n : Nat} {v0 v1 v2 v3 v4 : Value} (hlen : cs.length = n * 5) (hk : k < n) (hd : Done5 cs F k)
    (h0 : v0 = F k 0) (h1 : v1 = F k 1) (h2 : v2 = F k 2) (h3 : v3 = F k 3) (h4 : v4 = F k 4) :
    Done5 (((((cs.set (k * 5) v0).set (k * 5 + 1) v1).set (k * 5 + 2) v2).set (k * 5 + 3) v3).set (k * 5 + 4) v4) F (k + 1) := by
  subst h0 h1 h2 h3 h4
  intro j hj i hi
  by_cases hjk : j = k
  · subst hjk
    match i, hi with
    | 0, _ => simp [List.getElem?_set, hlen]; omega
    | 1, _ => simp [List.getElem?_set, hlen]; omega
    | 2, _ => simp [List.getElem?_set, hlen]; omega
    | 3, _ => simp [List.getElem?_set, hlen]; omega
    | 4, _ => simp [List.getElem?_set, hlen]; omega
  · have := hd j (by omega) i hi
    rw [List.getElem?_set_ne (by omega), List.getElem?_set_ne (by omega), List.getElem?_set_ne (by omega), List.getElem?_set_ne (by omega), List.getElem?_set_ne (by omega)]
    exact this

theorem own_store5 {w2 : World} {g e n cap : Nat} {cs : List Value} (h : w2.ownsRow g e 5 (.slice (some ⟨g, 0, none⟩) n cap) n cs) (k : Nat) (v0 v1 v2 v3 v4 : Value) :
    (((((w2.setCell ⟨g, k * 5, none⟩ v0).setCell ⟨g, k * 5 + 1, none⟩ v1).setCell ⟨g, k * 5 + 2, none⟩ v2).setCell ⟨g, k * 5 + 3, none⟩ v3).setCell ⟨g, k * 5 + 4, none⟩ v4).ownsRow g e 5 (.slice (some ⟨g, 0, none⟩) n cap) n (((((cs.set (k * 5) v0).set (k * 5 + 1) v1).set (k * 5 + 2) v2).set (k * 5 + 3) v3).set (k * 5 + 4) v4) :=
  (((((h.stored _ _).1.stored _ _).1.stored _ _).1.stored _ _).1.stored _ _).1

theorem below_store5 {w w2 : World} {g : Nat} (h : Below w.heap.size w w2) (hg : w.heap.size ≤ g) (a b c d e : Nat) (v0 v1 v2 v3 v4 : Value) :
    Below w.heap.size w (((((w2.setCell ⟨g, a, none⟩ v0).setCell ⟨g, b, none⟩ v1).setCell ⟨g, c, none⟩ v2).setCell ⟨g, d, none⟩ v3).setCell ⟨g, e, none⟩ v4) :=
  ((((h.setCell (p := ⟨g, a, none⟩) hg _).setCell (p := ⟨g, b, none⟩) hg _).setCell (p := ⟨g, c, none⟩) hg _).setCell (p := ⟨g, d, none⟩) hg _).setCell (p := ⟨g, e, none⟩) hg _

theorem own_has5 {w2 : World} {g e n cap : Nat} {cs : List Value} (h : w2.ownsRow g e 5 (.slice (some ⟨g, 0, none⟩) n cap) n cs) (j : Nat) (hj : j < n * 5) : ∃ v, w2.cell? ⟨g, j, none⟩ = some v := by
  rw [h.cellAt j hj]
  exact ⟨_, List.getElem?_eq_getElem (by have := h.1; omega)⟩

theorem own_lt5 {w2 : World} {g e z n cap : Nat} {cs : List Value} (h : w2.ownsRow g e z (.slice (some ⟨g, 0, none⟩) n cap) n cs) : g < w2.heap.size := by
  rcases h.2 with ⟨h', _⟩ | ⟨g', cap', cur, h', hb, hg, _⟩
  · simp at h'
  · simp only [Value.slice.injEq, Option.some.injEq, Addr.mk.injEq, and_true, true_and] at h'
    obtain ⟨rfl, rfl⟩ := h'
    rcases Nat.lt_or_ge g w2.heap.size with h1 | h1
    · exact h1
    · simp [Array.getElem?_eq_none h1] at hg

theorem store5_block {w2 : World} {g : Nat} (a b c d e : Nat) (v0 v1 v2 v3 v4 : Value) (k : Nat) (hk : k ≠ g) :
    (((((w2.setCell ⟨g, a, none⟩ v0).setCell ⟨g, b, none⟩ v1).setCell ⟨g, c, none⟩ v2).setCell ⟨g, d, none⟩ v3).setCell ⟨g, e, none⟩ v4).heap[k]? = w2.heap[k]? := by
  rw [Below.heap_setCell _ _ _ _ hk, Below.heap_setCell _ _ _ _ hk, Below.heap_setCell _ _ _ _ hk, Below.heap_setCell _ _ _ _ hk, Below.heap_setCell _ _ _ _ hk]
theorem store5_size {w2 : World} {g : Nat} (a b c d e : Nat) (v0 v1 v2 v3 v4 : Value) :
    (((((w2.setCell ⟨g, a, none⟩ v0).setCell ⟨g, b, none⟩ v1).setCell ⟨g, c, none⟩ v2).setCell ⟨g, d, none⟩ v3).setCell ⟨g, e, none⟩ v4).heap.size = w2.heap.size := by simp [World.setCell]

/-- a clause's cells, the values of its slices aside -/
def clF (ts : List Cl) (vs us : List Value) (j i : Nat) : Value :=
  match ts[j]? with
  | none => .nilFunc
  | some t => if i = 0 then .int .i64 t.head.kind else if i = 1 then .int .i64 t.head.n else if i = 2 then .string ⟨t.head.name.toArray⟩ else if i = 3 then vs.getD j .nilFunc else us.getD j .nilFunc
theorem clF_0 {ts : List Cl} {vs us : List Value} {k : Nat} (h : k < ts.length) : clF ts vs us k 0 = .int .i64 ts[k].head.kind := by simp [clF, List.getElem?_eq_getElem h]
theorem clF_1 {ts : List Cl} {vs us : List Value} {k : Nat} (h : k < ts.length) : clF ts vs us k 1 = .int .i64 ts[k].head.n := by simp [clF, List.getElem?_eq_getElem h]
theorem clF_2 {ts : List Cl} {vs us : List Value} {k : Nat} (h : k < ts.length) : clF ts vs us k 2 = .string ⟨ts[k].head.name.toArray⟩ := by simp [clF, List.getElem?_eq_getElem h]
theorem clF_3 {ts : List Cl} {vs us : List Value} {k : Nat} (h : k < ts.length) : clF ts vs us k 3 = vs.getD k .nilFunc := by simp [clF, List.getElem?_eq_getElem h]
theorem clF_4 {ts : List Cl} {vs us : List Value} {k : Nat} (h : k < ts.length) : clF ts vs us k 4 = us.getD k .nilFunc := by simp [clF, List.getElem?_eq_getElem h]

theorem done5_snoc {cs : List Value} {ts : List Cl} {vs us : List Value} {v u : Value} {k : Nat} (hv : vs.length = k) (hu : us.length = k) (h : Done5 cs (clF ts vs us) k) : Done5 cs (clF ts (vs ++ [v]) (us ++ [u])) k := by
  intro j hj i hi
  rw [h j hj i hi]
  unfold clF
  have e : (vs ++ [v]).getD j .nilFunc = vs.getD j .nilFunc := by
    simp only [List.getD_eq_getElem?_getD]
    rw [List.getElem?_append_left (by omega)]
  have e' : (us ++ [u]).getD j .nilFunc = us.getD j .nilFunc := by
    simp only [List.getD_eq_getElem?_getD]
    rw [List.getElem?_append_left (by omega)]
  rw [e, e']

/-- slices of terms, one for each clause -/
def SlsAt (S : Nat → Prop) (w : World) (f : Cl → List Tm) (ts : List Cl) (vs : List Value) : Prop := ∀ (j : Nat) (t : Cl) (v : Value), ts[j]? = some t → vs[j]? = some v → ∃ a n c, v = .slice a n c ∧ TmSl S w (f t) a n
theorem SlsAt.mono {S S' : Nat → Prop} {w w' : World} {f : Cl → List Tm} {ts : List Cl} {vs : List Value} (h : SlsAt S w f ts vs) (hs : w.heap.size ≤ w'.heap.size) (hS : ∀ b, S b → S' b) (hw : ∀ b, S b → b < w.heap.size → w'.heap[b]? = w.heap[b]?) : SlsAt S' w' f ts vs := by
  intro j t v ht hv
  obtain ⟨a, n, c, rfl, hsl⟩ := h j t v ht hv
  exact ⟨a, n, c, rfl, hsl.mono hs hS hw⟩
theorem SlsAt.snoc {S : Nat → Prop} {w : World} {f : Cl → List Tm} {ts : List Cl} {vs : List Value} {a : Option Addr} {n c : Nat} (h : SlsAt S w f ts vs) (hk : ∀ t, ts[vs.length]? = some t → TmSl S w (f t) a n) : SlsAt S w f ts (vs ++ [.slice a n c]) := by
  intro j t u ht hu
  by_cases hj : j < vs.length
  · rw [List.getElem?_append_left hj] at hu; exact h j t u ht hu
  · rw [List.getElem?_append_right (by omega)] at hu
    have : j = vs.length := by
      rcases Nat.lt_or_ge vs.length j with h1 | h1
      · simp [show j - vs.length ≠ 0 by omega] at hu
      · omega
    subst this
    simp at hu
    subst hu
    exact ⟨_, _, _, rfl, hk t ht⟩

theorem clSl_of_done {S : Nat → Prop} {w : World} {g e n cap : Nat} {cs : List Value} {ts : List Cl} {vs us : List Value} (h : w.ownsRow g e 5 (.slice (some ⟨g, 0, none⟩) n cap) n cs) (hn : n = ts.length) (hv : vs.length = n) (hu : us.length = n)
    (hd : Done5 cs (clF ts vs us) n) (hk : SlsAt S w (fun c => c.head.kids) ts vs) (hk' : SlsAt S w (fun c => c.body) ts us) (hS : S g) : ClSl S w ts (some ⟨g, 0, none⟩) n := by
  refine ⟨hn, fun _ => ⟨g, 0, rfl, own_lt5 h, hS, fun k hkl => ?_⟩⟩
  have key : ∀ i, i < 5 → w.cell? ⟨g, 0 + k * 5 + i, none⟩ = some (clF ts vs us k i) := fun i hi => by
    rw [Nat.zero_add, h.cellAt _ (by omega), hd k (by omega) i hi]
  have hx : ts[k]? = some ts[k] := List.getElem?_eq_getElem hkl
  have hvk : k < vs.length := by omega
  have huk : k < us.length := by omega
  obtain ⟨a, m, c, hsl, hts⟩ := hk k _ _ hx (List.getElem?_eq_getElem hvk)
  obtain ⟨a', m', c', hsl', hts'⟩ := hk' k _ _ hx (List.getElem?_eq_getElem huk)
  have h0 := key 0 (by omega); have h1 := key 1 (by omega); have h2 := key 2 (by omega); have h3 := key 3 (by omega); have h4 := key 4 (by omega)
  rw [clF_0 hkl] at h0; rw [clF_1 hkl] at h1; rw [clF_2 hkl] at h2
  rw [clF_3 hkl, List.getD_eq_getElem?_getD, List.getElem?_eq_getElem hvk, Option.getD_some, hsl] at h3
  rw [clF_4 hkl, List.getD_eq_getElem?_getD, List.getElem?_eq_getElem huk, Option.getD_some, hsl'] at h4
  exact ⟨h0, h1, h2, ⟨a, m, c, h3, hts⟩, ⟨a', m', c', h4, hts'⟩⟩

end Go.Proofs.YtlknhjibadbeeaaDoor
