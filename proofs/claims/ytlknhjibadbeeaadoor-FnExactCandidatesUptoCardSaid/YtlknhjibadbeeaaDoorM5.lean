/- Terms in memory that may be written: the shape alone. -/
import Derived.Test.YtlknhjibadbeeaaDoorM3
namespace Go.Proofs.YtlknhjibadbeeaaDoor
open Go.RowKit

/-- a block's first cells are there, and none is frozen -/
def NF (w : World) (g len : Nat) : Prop := g < w.heap.size ∧ (∀ k, k < len → ∃ u, w.cell? ⟨g, k, none⟩ = some u) ∧ ∀ k, w.frozen? ⟨g, k, none⟩ = false

mutual
/-- the value of a term's arguments: blocks from lo on -/
def MkKid (lo hi : Nat) (w : World) : Tm → Value → Prop
  | .mk _ _ _ ks, v => ∃ g c, v = .slice (some ⟨g, 0, none⟩) ks.length c ∧ lo ≤ g ∧ g < hi ∧ NF w g (ks.length * 4) ∧ MkRow lo hi w ks g 0
def MkRow (lo hi : Nat) (w : World) : List Tm → Nat → Nat → Prop
  | [], _, _ => True
  | t :: ts, b, o => (∃ v, w.cell? ⟨b, o * 4 + 3, none⟩ = some v ∧ MkKid lo hi w t v) ∧ MkRow lo hi w ts b (o + 1)
end
/-- a slice of terms: blocks from lo on -/
def MkSl (lo hi : Nat) (w : World) (ks : List Tm) (a : Option Addr) (n : Nat) : Prop := n = ks.length ∧ ∃ g, a = some ⟨g, 0, none⟩ ∧ lo ≤ g ∧ g < hi ∧ NF w g (ks.length * 4) ∧ MkRow lo hi w ks g 0

theorem mkKid_iff (lo hi : Nat) (w : World) (t : Tm) (v : Value) : MkKid lo hi w t v ↔ ∃ a n c, v = .slice a n c ∧ MkSl lo hi w t.kids a n := by
  cases t with
  | mk k n nm ks =>
    simp only [MkKid, Tm.kids, MkSl]
    constructor
    · rintro ⟨g, c, rfl, h1, h0, h2, h3⟩; exact ⟨_, _, c, rfl, rfl, g, rfl, h1, h0, h2, h3⟩
    · rintro ⟨a, n, c, rfl, rfl, g, rfl, h1, h0, h2, h3⟩; exact ⟨g, c, rfl, h1, h0, h2, h3⟩

/-- what is kept from lo on: cells stay cells, every fourth as it is, nothing is frozen newly -/
structure Keep (lo : Nat) (w w' : World) : Prop where
  size : w.heap.size ≤ w'.heap.size
  cell : ∀ b, lo ≤ b → b < w.heap.size → ∀ k v, w.cell? ⟨b, k, none⟩ = some v → ∃ v', w'.cell? ⟨b, k, none⟩ = some v' ∧ (k % 4 = 3 → v' = v)
  frozen : ∀ b, lo ≤ b → b < w.heap.size → ∀ k, w'.frozen? ⟨b, k, none⟩ = w.frozen? ⟨b, k, none⟩

theorem Keep.refl (lo : Nat) (w : World) : Keep lo w w := ⟨Nat.le_refl _, fun _ _ _ _ v h => ⟨v, h, fun _ => rfl⟩, fun _ _ _ _ => rfl⟩
theorem Keep.trans {lo : Nat} {a b c : World} (h : Keep lo a b) (h2 : Keep lo b c) : Keep lo a c := by
  refine ⟨Nat.le_trans h.size h2.size, fun g hg hlt k v hv => ?_, fun g hg hlt k => (h2.frozen g hg (Nat.lt_of_lt_of_le hlt h.size) k).trans (h.frozen g hg hlt k)⟩
  obtain ⟨v1, h1, e1⟩ := h.cell g hg hlt k v hv
  obtain ⟨v2, h3, e2⟩ := h2.cell g hg (Nat.lt_of_lt_of_le hlt h.size) k v1 h1
  exact ⟨v2, h3, fun hk => (e2 hk).trans (e1 hk)⟩
theorem Keep.mono {lo lo' : Nat} {w w' : World} (h : Keep lo w w') (hl : lo ≤ lo') : Keep lo' w w' := ⟨h.size, fun b hb => h.cell b (Nat.le_trans hl hb), fun b hb => h.frozen b (Nat.le_trans hl hb)⟩
theorem Keep.of_blocks {lo : Nat} {w w' : World} (hs : w.heap.size ≤ w'.heap.size) (hb : ∀ b, lo ≤ b → b < w.heap.size → w'.heap[b]? = w.heap[b]?) : Keep lo w w' :=
  ⟨hs, fun b hl hlt k v hv => ⟨v, (World.cell?_of_block (w := w) (a := ⟨b, k, none⟩) (hb b hl hlt)).trans hv, fun _ => rfl⟩, fun b hl hlt _ => World.frozen?_of_block (hb b hl hlt)⟩
theorem Keep.of_below {lo : Nat} {w w' : World} (hb : Below w.heap.size w w') : Keep lo w w' := Keep.of_blocks hb.size fun b _ hlt => hb.block b hlt

theorem NF.keep {lo : Nat} {w w' : World} {g len : Nat} (h : NF w g len) (hK : Keep lo w w') (hg : lo ≤ g) : NF w' g len := by
  refine ⟨Nat.lt_of_lt_of_le h.1 hK.size, fun k hk => ?_, fun k => (hK.frozen g hg h.1 k).trans (h.2.2 k)⟩
  obtain ⟨u, hu⟩ := h.2.1 k hk
  obtain ⟨v', hv', -⟩ := hK.cell g hg h.1 k u hu
  exact ⟨v', hv'⟩

mutual
theorem mkKid_keep {lo lo' hi hi' : Nat} {w w' : World} (hK : Keep lo w w') (hl : lo' ≤ lo) (hh : hi ≤ hi') : ∀ (t : Tm) (v : Value), MkKid lo hi w t v → MkKid lo' hi' w' t v
  | .mk _ _ _ ks, v, h => by
    simp only [MkKid] at h ⊢
    obtain ⟨g, c, rfl, h1, h0, h2, h3⟩ := h
    exact ⟨g, c, rfl, Nat.le_trans hl h1, Nat.lt_of_lt_of_le h0 hh, h2.keep hK h1, mkRow_keep hK hl hh ks g 0 h1 h2.1 h3⟩
theorem mkRow_keep {lo lo' hi hi' : Nat} {w w' : World} (hK : Keep lo w w') (hl : lo' ≤ lo) (hh : hi ≤ hi') : ∀ (ts : List Tm) (b o : Nat), lo ≤ b → b < w.heap.size → MkRow lo hi w ts b o → MkRow lo' hi' w' ts b o
  | [], _, _, _, _, _ => by simp only [MkRow]
  | t :: ts, b, o, hb, hlt, h => by
    simp only [MkRow] at h ⊢
    obtain ⟨⟨v, h3, hv⟩, hr⟩ := h
    obtain ⟨v', h4, e⟩ := hK.cell b hb hlt _ v h3
    rw [e (by omega)] at h4
    exact ⟨⟨v, h4, mkKid_keep hK hl hh t v hv⟩, mkRow_keep hK hl hh ts b (o + 1) hb hlt hr⟩
end
theorem MkSl.keep {lo lo' hi hi' : Nat} {w w' : World} {ks : List Tm} {a : Option Addr} {n : Nat} (h : MkSl lo hi w ks a n) (hK : Keep lo w w') (hl : lo' ≤ lo) (hh : hi ≤ hi') : MkSl lo' hi' w' ks a n := by
  obtain ⟨hn, g, ha, h1, h0, h2, h3⟩ := h
  exact ⟨hn, g, ha, Nat.le_trans hl h1, Nat.lt_of_lt_of_le h0 hh, h2.keep hK h1, mkRow_keep hK hl hh ks g 0 h1 h2.1 h3⟩

theorem mkRow_get {lo hi : Nat} {w : World} : ∀ {ts : List Tm} {b o : Nat}, MkRow lo hi w ts b o → ∀ (k : Nat) (h : k < ts.length), ∃ a n c, w.cell? ⟨b, (o + k) * 4 + 3, none⟩ = some (.slice a n c) ∧ MkSl lo hi w ts[k].kids a n
  | t :: ts, b, o, h, k, hk => by
    simp only [MkRow] at h
    obtain ⟨⟨v, h3, hv⟩, hr⟩ := h
    cases k with
    | zero =>
      obtain ⟨a, n, c, rfl, hs⟩ := (mkKid_iff lo hi w t v).1 hv
      exact ⟨a, n, c, by simpa using h3, hs⟩
    | succ k =>
      have := mkRow_get hr k (by simpa using hk)
      rw [show o + 1 + k = o + (k + 1) by omega] at this
      simpa using this
theorem mkRow_mk {lo hi : Nat} {w : World} : ∀ {ts : List Tm} {b o : Nat}, (∀ (k : Nat) (h : k < ts.length), ∃ v, w.cell? ⟨b, (o + k) * 4 + 3, none⟩ = some v ∧ MkKid lo hi w ts[k] v) → MkRow lo hi w ts b o
  | [], _, _, _ => by simp only [MkRow]
  | t :: ts, b, o, h => by
    simp only [MkRow]
    have h0 := h 0 (by simp)
    rw [Nat.add_zero] at h0
    refine ⟨h0, mkRow_mk fun k hk => ?_⟩
    have := h (k + 1) (by simpa using hk)
    rw [show o + (k + 1) = o + 1 + k by omega] at this
    simpa using this

def MkKids (lo hi : Nat) (w : World) (ts : List Tm) (vs : List Value) : Prop := ∀ (j : Nat) (t : Tm) (v : Value), ts[j]? = some t → vs[j]? = some v → MkKid lo hi w t v
theorem MkKids.keep {lo hi hi' : Nat} {w w' : World} {ts : List Tm} {vs : List Value} (h : MkKids lo hi w ts vs) (hK : Keep lo w w') (hh : hi ≤ hi') : MkKids lo hi' w' ts vs :=
  fun j t v ht hv => mkKid_keep hK (Nat.le_refl _) hh t v (h j t v ht hv)
theorem MkKids.snoc {lo hi : Nat} {w : World} {ts : List Tm} {vs : List Value} {v : Value} (h : MkKids lo hi w ts vs) (hk : ∀ t, ts[vs.length]? = some t → MkKid lo hi w t v) : MkKids lo hi w ts (vs ++ [v]) := by
  intro j t u ht hu
  by_cases hj : j < vs.length
  · rw [List.getElem?_append_left hj] at hu; exact h j t u ht hu
  · rw [List.getElem?_append_right (by omega)] at hu
    have : j = vs.length := by
      rcases Nat.lt_or_ge vs.length j with h1 | h1
      · simp [show j - vs.length ≠ 0 by omega] at hu
      · omega
    subst this
    simp at hu
    subst hu
    exact hk t ht

theorem nf_of_own {w : World} {g e z n cap : Nat} {cs : List Value} (h : w.ownsRow g e z (.slice (some ⟨g, 0, none⟩) n cap) n cs) : NF w g (n * z) := by
  refine ⟨own_lt5 h, fun k hk => ?_, fun k => h.frozenAt k⟩
  rw [h.cellAt k hk]
  exact ⟨_, List.getElem?_eq_getElem (by have := h.1; omega)⟩

theorem mkSl_of_done {lo hi : Nat} {w : World} {g e n cap : Nat} {cs : List Value} {ts : List Tm} {vs : List Value} (h : w.ownsRow g e 4 (.slice (some ⟨g, 0, none⟩) n cap) n cs) (hn : n = ts.length) (hv : vs.length = n)
    (hd : Done cs (tmF ts vs) n) (hk : MkKids lo hi w ts vs) (hlo : lo ≤ g) (hhi : g < hi) : MkSl lo hi w ts (some ⟨g, 0, none⟩) n := by
  refine ⟨hn, g, rfl, hlo, hhi, by rw [← hn]; exact nf_of_own h, mkRow_mk fun k hkl => ?_⟩
  have hvk : k < vs.length := by omega
  refine ⟨vs[k], ?_, hk k _ _ (List.getElem?_eq_getElem hkl) (List.getElem?_eq_getElem hvk)⟩
  rw [Nat.zero_add, h.cellAt _ (by omega), hd k (by omega) 3 (by omega), tmF_3 hkl, List.getD_eq_getElem?_getD, List.getElem?_eq_getElem hvk, Option.getD_some]

/-- clauses: their row lies in block B, their terms behind it -/
def MkCl (B hi : Nat) (w : World) (cs : List Cl) (a : Option Addr) (n : Nat) : Prop :=
  n = cs.length ∧ a = some ⟨B, 0, none⟩ ∧ B < hi ∧ NF w B (cs.length * 5) ∧ ∀ k (h : k < cs.length), (∃ a n c, w.cell? ⟨B, k * 5 + 3, none⟩ = some (.slice a n c) ∧ MkSl (B + 1) hi w cs[k].head.kids a n) ∧ ∃ a n c, w.cell? ⟨B, k * 5 + 4, none⟩ = some (.slice a n c) ∧ MkSl (B + 1) hi w cs[k].body a n

def MkSls (lo hi : Nat) (w : World) (f : Cl → List Tm) (ts : List Cl) (vs : List Value) : Prop := ∀ (j : Nat) (t : Cl) (v : Value), ts[j]? = some t → vs[j]? = some v → ∃ a n c, v = .slice a n c ∧ MkSl lo hi w (f t) a n
theorem MkSls.keep {lo hi hi' : Nat} {w w' : World} {f : Cl → List Tm} {ts : List Cl} {vs : List Value} (h : MkSls lo hi w f ts vs) (hK : Keep lo w w') (hh : hi ≤ hi') : MkSls lo hi' w' f ts vs := by
  intro j t v ht hv
  obtain ⟨a, n, c, rfl, hsl⟩ := h j t v ht hv
  exact ⟨a, n, c, rfl, hsl.keep hK (Nat.le_refl _) hh⟩
theorem MkSls.snoc {lo hi : Nat} {w : World} {f : Cl → List Tm} {ts : List Cl} {vs : List Value} {a : Option Addr} {n c : Nat} (h : MkSls lo hi w f ts vs) (hk : ∀ t, ts[vs.length]? = some t → MkSl lo hi w (f t) a n) : MkSls lo hi w f ts (vs ++ [.slice a n c]) := by
  intro j t u ht hu
  by_cases hj : j < vs.length
  · rw [List.getElem?_append_left hj] at hu; exact h j t u ht hu
  · rw [List.getElem?_append_right (by omega)] at hu
    have : j = vs.length := by
      rcases Nat.lt_or_ge vs.length j with h1 | h1
      · simp [show j - vs.length ≠ 0 by omega] at hu
      · omega
    subst this
    simp at hu
    subst hu
    exact ⟨_, _, _, rfl, hk t ht⟩
theorem mkCl_of_done {hi : Nat} {w : World} {g e n cap : Nat} {cs : List Value} {ts : List Cl} {vs us : List Value} (h : w.ownsRow g e 5 (.slice (some ⟨g, 0, none⟩) n cap) n cs) (hn : n = ts.length) (hv : vs.length = n) (hu : us.length = n)
    (hd : Done5 cs (clF ts vs us) n) (hk : MkSls (g + 1) hi w (fun c => c.head.kids) ts vs) (hk' : MkSls (g + 1) hi w (fun c => c.body) ts us) (hhi : g < hi) : MkCl g hi w ts (some ⟨g, 0, none⟩) n := by
  refine ⟨hn, rfl, hhi, by rw [← hn]; exact nf_of_own h, fun k hkl => ?_⟩
  have key : ∀ i, i < 5 → w.cell? ⟨g, k * 5 + i, none⟩ = some (clF ts vs us k i) := fun i hi => by
    rw [h.cellAt _ (by omega), hd k (by omega) i hi]
  have hx : ts[k]? = some ts[k] := List.getElem?_eq_getElem hkl
  have hvk : k < vs.length := by omega
  have huk : k < us.length := by omega
  obtain ⟨a, m, c, hsl, hts⟩ := hk k _ _ hx (List.getElem?_eq_getElem hvk)
  obtain ⟨a', m', c', hsl', hts'⟩ := hk' k _ _ hx (List.getElem?_eq_getElem huk)
  have h3 := key 3 (by omega); have h4 := key 4 (by omega)
  rw [clF_3 hkl, List.getD_eq_getElem?_getD, List.getElem?_eq_getElem hvk, Option.getD_some, hsl] at h3
  rw [clF_4 hkl, List.getD_eq_getElem?_getD, List.getElem?_eq_getElem huk, Option.getD_some, hsl'] at h4
  exact ⟨⟨a, m, c, h3, hts⟩, ⟨a', m', c', h4, hts'⟩⟩
theorem MkCl.keep {B hi : Nat} {w w' : World} {cs : List Cl} {a : Option Addr} {n : Nat} (h : MkCl B hi w cs a n) (hb : Below w.heap.size w w') : MkCl B hi w' cs a n := by
  obtain ⟨hn, ha, hhi, hNF, hr⟩ := h
  refine ⟨hn, ha, hhi, hNF.keep (Keep.of_below hb (lo := B)) (Nat.le_refl _), fun k hk => ?_⟩
  obtain ⟨⟨a1, n1, c1, h1, hs1⟩, ⟨a2, n2, c2, h2, hs2⟩⟩ := hr k hk
  exact ⟨⟨a1, n1, c1, (hb.cell (p := ⟨B, _, none⟩) hNF.1).trans h1, hs1.keep (Keep.of_below hb) (Nat.le_refl _) (Nat.le_refl _)⟩, ⟨a2, n2, c2, (hb.cell (p := ⟨B, _, none⟩) hNF.1).trans h2, hs2.keep (Keep.of_below hb) (Nat.le_refl _) (Nat.le_refl _)⟩⟩
end Go.Proofs.YtlknhjibadbeeaaDoor
