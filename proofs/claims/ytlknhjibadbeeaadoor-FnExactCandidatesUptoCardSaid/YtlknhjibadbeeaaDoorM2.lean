/- Terms in memory. -/
import Derived.Test.YtlknhjibadbeeaaDoorM1
import Derived.Test.YtlknhjibadbeeaaDoorPl2
namespace Go.Proofs.YtlknhjibadbeeaaDoor
open Go.RowKit

mutual
/-- the value of the arguments of a term -/
def KidAt (S : Nat → Prop) (w : World) : Tm → Value → Prop
  | .mk _ _ _ ks, v => ∃ a c, v = .slice a ks.length c ∧ (0 < ks.length → ∃ b o, a = some ⟨b, o, none⟩ ∧ b < w.heap.size ∧ S b ∧ RowAt S w ks b o)
/-- terms in a row of cells, four each -/
def RowAt (S : Nat → Prop) (w : World) : List Tm → Nat → Nat → Prop
  | [], _, _ => True
  | t :: ts, b, o => (w.cell? ⟨b, o, none⟩ = some (.int .i64 t.kind) ∧ w.cell? ⟨b, o + 1, none⟩ = some (.int .i64 t.n) ∧ w.cell? ⟨b, o + 2, none⟩ = some (.string ⟨t.name.toArray⟩) ∧
      ∃ v, w.cell? ⟨b, o + 3, none⟩ = some v ∧ KidAt S w t v) ∧ RowAt S w ts b (o + 4)
end

/-- a slice that reads as these terms -/
def TmSl (S : Nat → Prop) (w : World) (ts : List Tm) (a : Option Addr) (n : Nat) : Prop :=
  n = ts.length ∧ (0 < n → ∃ b o, a = some ⟨b, o, none⟩ ∧ b < w.heap.size ∧ S b ∧ RowAt S w ts b o)

theorem kidAt_iff (S : Nat → Prop) (w : World) (t : Tm) (v : Value) : KidAt S w t v ↔ ∃ a n c, v = .slice a n c ∧ TmSl S w t.kids a n := by
  cases t with
  | mk k n nm ks =>
    simp only [KidAt, Tm.kids, TmSl]
    constructor
    · rintro ⟨a, c, rfl, h⟩; exact ⟨a, _, c, rfl, rfl, h⟩
    · rintro ⟨a, n, c, rfl, rfl, h⟩; exact ⟨a, c, rfl, h⟩

mutual
theorem kidAt_mono {S S' : Nat → Prop} {w w' : World} (hs : w.heap.size ≤ w'.heap.size) (hS : ∀ b, S b → S' b) (hw : ∀ b, S b → b < w.heap.size → w'.heap[b]? = w.heap[b]?) : ∀ (t : Tm) (v : Value), KidAt S w t v → KidAt S' w' t v
  | .mk _ _ _ ks, v, h => by
    simp only [KidAt] at h ⊢
    obtain ⟨a, c, rfl, h⟩ := h
    refine ⟨a, c, rfl, fun hp => ?_⟩
    obtain ⟨b, o, ha, hlt, hSb, hr⟩ := h hp
    exact ⟨b, o, ha, Nat.lt_of_lt_of_le hlt hs, hS b hSb, rowAt_mono hs hS hw ks b o (hw b hSb hlt) hr⟩
theorem rowAt_mono {S S' : Nat → Prop} {w w' : World} (hs : w.heap.size ≤ w'.heap.size) (hS : ∀ b, S b → S' b) (hw : ∀ b, S b → b < w.heap.size → w'.heap[b]? = w.heap[b]?) : ∀ (ts : List Tm) (b o : Nat), w'.heap[b]? = w.heap[b]? → RowAt S w ts b o → RowAt S' w' ts b o
  | [], _, _, _, _ => by simp only [RowAt]
  | t :: ts, b, o, he, h => by
    simp only [RowAt] at h ⊢
    obtain ⟨⟨h0, h1, h2, v, h3, hv⟩, hr⟩ := h
    exact ⟨⟨(World.cell?_of_block (w := w) (a := ⟨b, _, none⟩) he).trans h0, (World.cell?_of_block (w := w) (a := ⟨b, _, none⟩) he).trans h1, (World.cell?_of_block (w := w) (a := ⟨b, _, none⟩) he).trans h2, v, (World.cell?_of_block (w := w) (a := ⟨b, _, none⟩) he).trans h3, kidAt_mono hs hS hw t v hv⟩, rowAt_mono hs hS hw ts b (o + 4) he hr⟩
end

theorem TmSl.mono {S S' : Nat → Prop} {w w' : World} {ts : List Tm} {a : Option Addr} {n : Nat} (h : TmSl S w ts a n) (hs : w.heap.size ≤ w'.heap.size) (hS : ∀ b, S b → S' b) (hw : ∀ b, S b → b < w.heap.size → w'.heap[b]? = w.heap[b]?) : TmSl S' w' ts a n := by
  refine ⟨h.1, fun hn => ?_⟩
  obtain ⟨b, o, ha, hlt, hSb, hr⟩ := h.2 hn
  exact ⟨b, o, ha, Nat.lt_of_lt_of_le hlt hs, hS b hSb, rowAt_mono hs hS hw _ _ _ (hw b hSb hlt) hr⟩

theorem kidAt_below {S : Nat → Prop} {w w' : World} (hb : Below w.heap.size w w') {t : Tm} {v : Value} (h : KidAt S w t v) : KidAt S w' t v := kidAt_mono hb.size (fun _ h => h) (fun b _ hlt => hb.block b hlt) t v h
theorem rowAt_below {S : Nat → Prop} {w w' : World} (hb : Below w.heap.size w w') {ts : List Tm} {b o : Nat} (hlt : b < w.heap.size) (h : RowAt S w ts b o) : RowAt S w' ts b o := rowAt_mono hb.size (fun _ h => h) (fun b _ hlt => hb.block b hlt) ts b o (hb.block b hlt) h
theorem TmSl.below {S : Nat → Prop} {w w' : World} {ts : List Tm} {a : Option Addr} {n : Nat} (h : TmSl S w ts a n) (hb : Below w.heap.size w w') : TmSl S w' ts a n := h.mono hb.size (fun _ h => h) (fun b _ hlt => hb.block b hlt)
theorem TmSl.any {S : Nat → Prop} {w : World} {ts : List Tm} {a : Option Addr} {n : Nat} (h : TmSl S w ts a n) : TmSl (fun _ => True) w ts a n := h.mono (Nat.le_refl _) (fun _ _ => trivial) (fun _ _ _ => rfl)

/-- one term of a row -/
theorem rowAt_get {S : Nat → Prop} {w : World} : ∀ {ts : List Tm} {b o : Nat}, RowAt S w ts b o → ∀ (k : Nat) (h : k < ts.length),
    w.cell? ⟨b, o + k * 4, none⟩ = some (.int .i64 ts[k].kind) ∧ w.cell? ⟨b, o + k * 4 + 1, none⟩ = some (.int .i64 ts[k].n) ∧ w.cell? ⟨b, o + k * 4 + 2, none⟩ = some (.string ⟨ts[k].name.toArray⟩) ∧
      ∃ a n c, w.cell? ⟨b, o + k * 4 + 3, none⟩ = some (.slice a n c) ∧ TmSl S w ts[k].kids a n
  | t :: ts, b, o, h, k, hk => by
    simp only [RowAt] at h
    obtain ⟨⟨h0, h1, h2, v, h3, hv⟩, hr⟩ := h
    cases k with
    | zero =>
      obtain ⟨a, n, c, rfl, hs⟩ := (kidAt_iff S w t v).1 hv
      exact ⟨by simpa using h0, by simpa using h1, by simpa using h2, a, n, c, by simpa using h3, hs⟩
    | succ k =>
      have := rowAt_get hr k (by simpa using hk)
      have e : o + 4 + k * 4 = o + (k + 1) * 4 := by omega
      rw [e] at this
      simpa using this

/-- .. and back -/
theorem rowAt_mk {S : Nat → Prop} {w : World} : ∀ {ts : List Tm} {b o : Nat}, (∀ (k : Nat) (h : k < ts.length),
    w.cell? ⟨b, o + k * 4, none⟩ = some (.int .i64 ts[k].kind) ∧ w.cell? ⟨b, o + k * 4 + 1, none⟩ = some (.int .i64 ts[k].n) ∧ w.cell? ⟨b, o + k * 4 + 2, none⟩ = some (.string ⟨ts[k].name.toArray⟩) ∧
      ∃ a n c, w.cell? ⟨b, o + k * 4 + 3, none⟩ = some (.slice a n c) ∧ TmSl S w ts[k].kids a n) → RowAt S w ts b o
  | [], _, _, _ => by simp only [RowAt]
  | t :: ts, b, o, h => by
    simp only [RowAt]
    obtain ⟨h0, h1, h2, a, n, c, h3, hs⟩ := h 0 (by simp)
    refine ⟨⟨by simpa using h0, by simpa using h1, by simpa using h2, _, by simpa using h3, (kidAt_iff S w t _).2 ⟨a, n, c, rfl, by simpa using hs⟩⟩, rowAt_mk fun k hk => ?_⟩
    have := h (k + 1) (by simpa using hk)
    have e : o + 4 + k * 4 = o + (k + 1) * 4 := by omega
    rw [e]
    simpa using this

/-- a term's cells, the value of its arguments aside -/
def tmF (ts : List Tm) (vs : List Value) (j i : Nat) : Value :=
  match ts[j]? with
  | none => .nilFunc
  | some t => if i = 0 then .int .i64 t.kind else if i = 1 then .int .i64 t.n else if i = 2 then .string ⟨t.name.toArray⟩ else vs.getD j .nilFunc
theorem tmF_0 {ts : List Tm} {vs : List Value} {k : Nat} (h : k < ts.length) : tmF ts vs k 0 = .int .i64 ts[k].kind := by simp [tmF, List.getElem?_eq_getElem h]
theorem tmF_1 {ts : List Tm} {vs : List Value} {k : Nat} (h : k < ts.length) : tmF ts vs k 1 = .int .i64 ts[k].n := by simp [tmF, List.getElem?_eq_getElem h]
theorem tmF_2 {ts : List Tm} {vs : List Value} {k : Nat} (h : k < ts.length) : tmF ts vs k 2 = .string ⟨ts[k].name.toArray⟩ := by simp [tmF, List.getElem?_eq_getElem h]
theorem tmF_3 {ts : List Tm} {vs : List Value} {k : Nat} (h : k < ts.length) : tmF ts vs k 3 = vs.getD k .nilFunc := by simp [tmF, List.getElem?_eq_getElem h]

def KidsAt (S : Nat → Prop) (w : World) (ts : List Tm) (vs : List Value) : Prop := ∀ (j : Nat) (t : Tm) (v : Value), ts[j]? = some t → vs[j]? = some v → KidAt S w t v

theorem KidsAt.mono {S : Nat → Prop} {w w' : World} {ts : List Tm} {vs : List Value} (h : KidsAt S w ts vs) (hs : w.heap.size ≤ w'.heap.size) (hw : ∀ b, S b → b < w.heap.size → w'.heap[b]? = w.heap[b]?) : KidsAt S w' ts vs :=
  fun j t v ht hv => kidAt_mono hs (fun _ h => h) hw t v (h j t v ht hv)

theorem KidsAt.snoc {S : Nat → Prop} {w : World} {ts : List Tm} {vs : List Value} {v : Value} (h : KidsAt S w ts vs) (hk : ∀ t, ts[vs.length]? = some t → KidAt S w t v) : KidsAt S w ts (vs ++ [v]) := by
  intro j t u ht hu
  by_cases hj : j < vs.length
  · rw [List.getElem?_append_left hj] at hu; exact h j t u ht hu
  · rw [List.getElem?_append_right (by omega)] at hu
    have : j = vs.length := by
      rcases Nat.lt_or_ge vs.length j with h1 | h1
      · simp [show j - vs.length ≠ 0 by omega] at hu
      · omega
    subst this
    simp at hu
    subst hu
    exact hk t ht

theorem done_snoc {cs : List Value} {ts : List Tm} {vs : List Value} {v : Value} {k : Nat} (hv : vs.length = k) (h : Done cs (tmF ts vs) k) : Done cs (tmF ts (vs ++ [v])) k := by
  intro j hj i hi
  rw [h j hj i hi]
  unfold tmF
  have e : (vs ++ [v]).getD j .nilFunc = vs.getD j .nilFunc := by
    simp only [List.getD_eq_getElem?_getD]
    rw [List.getElem?_append_left (by omega)]
  rw [e]

theorem tmSl_of_done {S : Nat → Prop} {w : World} {g e n cap : Nat} {cs : List Value} {ts : List Tm} {vs : List Value} (h : w.ownsRow g e 4 (.slice (some ⟨g, 0, none⟩) n cap) n cs) (hn : n = ts.length) (hv : vs.length = n)
    (hd : Done cs (tmF ts vs) n) (hk : KidsAt S w ts vs) (hS : S g) : TmSl S w ts (some ⟨g, 0, none⟩) n := by
  refine ⟨hn, fun _ => ⟨g, 0, rfl, own_lt h, hS, rowAt_mk fun k hk' => ?_⟩⟩
  have key : ∀ i, i < 4 → w.cell? ⟨g, 0 + k * 4 + i, none⟩ = some (tmF ts vs k i) := fun i hi => by
    rw [Nat.zero_add, h.cellAt _ (by omega), hd k (by omega) i hi]
  have hx : ts[k]? = some ts[k] := List.getElem?_eq_getElem hk'
  have hvk : k < vs.length := by omega
  obtain ⟨a, m, c, hsl, hts⟩ := (kidAt_iff S w _ _).1 (hk k _ _ hx (List.getElem?_eq_getElem hvk))
  have h0 := key 0 (by omega); have h1 := key 1 (by omega); have h2 := key 2 (by omega); have h3 := key 3 (by omega)
  rw [tmF_0 hk'] at h0; rw [tmF_1 hk'] at h1; rw [tmF_2 hk'] at h2; rw [tmF_3 hk', List.getD_eq_getElem?_getD, List.getElem?_eq_getElem hvk, Option.getD_some, hsl] at h3
  exact ⟨h0, h1, h2, a, m, c, h3, hts⟩

theorem store4_block {w2 : World} {g : Nat} (a b c d : Nat) (v0 v1 v2 v3 : Value) (k : Nat) (hk : k ≠ g) :
    ((((w2.setCell ⟨g, a, none⟩ v0).setCell ⟨g, b, none⟩ v1).setCell ⟨g, c, none⟩ v2).setCell ⟨g, d, none⟩ v3).heap[k]? = w2.heap[k]? := by
  rw [Below.heap_setCell _ _ _ _ hk, Below.heap_setCell _ _ _ _ hk, Below.heap_setCell _ _ _ _ hk, Below.heap_setCell _ _ _ _ hk]
theorem store4_size {w2 : World} {g : Nat} (a b c d : Nat) (v0 v1 v2 v3 : Value) :
    ((((w2.setCell ⟨g, a, none⟩ v0).setCell ⟨g, b, none⟩ v1).setCell ⟨g, c, none⟩ v2).setCell ⟨g, d, none⟩ v3).heap.size = w2.heap.size := by simp [World.setCell]

end Go.Proofs.YtlknhjibadbeeaaDoor
