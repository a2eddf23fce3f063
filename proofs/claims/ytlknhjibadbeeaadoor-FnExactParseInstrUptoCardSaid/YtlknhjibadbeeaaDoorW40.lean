/- strings.Split and strconv.Atoi at whatever text, as the program uses them. -/
import Derived.Test.YtlknhjibadbeeaaDoorW8
import Derived.Test.YtlknhjibadbeeaaDoorShelf2
import Derived.Test.YtlknhjibadbeeaaDoorPl5
import Derived.Lib.AtoiErrMem
namespace Go.Proofs.YtlknhjibadbeeaaDoor
open Go.RowKit Go.Deep

attribute [local go_sem] ba_get ba_append

/-- a slice that reads as these texts -/
def StrSl (w : World) (ws : List By) (a : Option Addr) (n : Nat) : Prop :=
  n = ws.length ∧ (0 < n → ∃ b o, a = some ⟨b, o, none⟩ ∧ b < w.heap.size ∧ ∀ k (h : k < ws.length), w.cell? ⟨b, o + k, none⟩ = some (.string ⟨ws[k].toArray⟩))
theorem StrSl.below {w w' : World} {ws : List By} {a : Option Addr} {n : Nat} (h : StrSl w ws a n) (hb : Below w.heap.size w w') : StrSl w' ws a n := by
  refine ⟨h.1, fun hn => ?_⟩
  obtain ⟨b, o, ha, hlt, hr⟩ := h.2 hn
  exact ⟨b, o, ha, Nat.lt_of_lt_of_le hlt hb.size, fun k hk => (hb.cell (p := ⟨b, o + k, none⟩) hlt).trans (hr k hk)⟩

/-- the library's variables that the walks read lie in place -/
def Er (w : World) : Prop := (∃ ev, w.cell? ⟨0, 0, none⟩ = some ev ∧ (ev = .nilIface ∨ ∃ te pe, ev = .iface te pe)) ∧ (∃ ev, w.cell? ⟨1, 0, none⟩ = some ev ∧ (ev = .nilIface ∨ ∃ te pe, ev = .iface te pe)) ∧ (∃ m, w.cell? ⟨2, 0, none⟩ = some (.int .i64 m))
theorem cell_lt {w : World} {p : Addr} {v : Value} (h : w.cell? p = some v) : p.block < w.heap.size := World.block_lt_of_cell? _ _ h
theorem Er.below {w w' : World} (h : Er w) (hb : Below w.heap.size w w') : Er w' := by
  obtain ⟨⟨e1, h1, g1⟩, ⟨e2, h2, g2⟩, ⟨m, h3⟩⟩ := h
  exact ⟨⟨e1, (hb.cell (p := ⟨_, 0, none⟩) (cell_lt h1)).trans h1, g1⟩, ⟨e2, (hb.cell (p := ⟨_, 0, none⟩) (cell_lt h2)).trans h2, g2⟩, ⟨m, (hb.cell (p := ⟨_, 0, none⟩) (cell_lt h3)).trans h3⟩⟩

theorem atoi_any (s : By) (w : World) (he : Er w) (hs : s.length ≤ 1048576) :
    Calls Tryd.prog 55 #[.string ⟨s.toArray⟩] w fun e w' => (∃ v i, e = .returned (.tuple #[.int .i64 v, i]) ∧ (∀ a, Lib.atoiAll s = .ok a → v = a)) ∧ Below w.heap.size w w' := by
  obtain ⟨⟨e1, h1, g1⟩, ⟨e2, h2, g2⟩, -⟩ := he
  have hsz : (⟨s.toArray⟩ : ByteArray).size ≤ 281474976710656 := by show s.toArray.size ≤ _; simp; omega
  cases hr : Lib.atoiAll s with
  | ok v =>
    refine (Any.strconv_Atoi_ok Tryd.laysC172 ⟨s.toArray⟩ (by omega) v hr w).mono ?_
    rintro e w' ⟨rfl, rfl | ⟨t, rfl⟩⟩
    · exact ⟨⟨v, _, rfl, fun a h => by cases h; rfl⟩, Below.refl _ _⟩
    · exact ⟨⟨v, _, rfl, fun a h => by cases h; rfl⟩, Lib.bytesWorld_below _ _ _⟩
  | range =>
    refine (Any.strconv_Atoi_range Tryd.laysC172 ⟨s.toArray⟩ hsz hr e2 w h2 g2).mono ?_
    rintro e w' ⟨N, rfl, -, -, hb⟩
    exact ⟨⟨_, _, rfl, fun a h => by cases h⟩, hb⟩
  | _ =>
    refine (Any.strconv_Atoi_syntax Tryd.laysC172 ⟨s.toArray⟩ hsz hr e1 w h1 g1).mono ?_
    rintro e w' ⟨N, rfl, -, -, hb⟩
    exact ⟨⟨_, _, rfl, fun a h => by cases h⟩, hb⟩

theorem index_space : ∀ (u r : By), (32 : UInt8) ∉ u → Lib.index (u ++ 32 :: r) [32] = u.length
  | [], r, _ => by simp [Lib.index]
  | c :: u, r, h => by
    simp only [List.mem_cons, not_or] at h
    have ih := index_space u r h.2
    have hc : ((32 : UInt8) == c) = false := by simpa using h.1
    rw [List.cons_append, Lib.index]
    simp only [List.isPrefixOf, hc, Bool.false_and, ih]
    simp
theorem split_at (l : By) (h : (32 : UInt8) ∈ l) : ∃ u r, l = u ++ 32 :: r ∧ (32 : UInt8) ∉ u := by
  induction l with
  | nil => cases h
  | cons c l ih =>
    by_cases hc : c = 32
    · exact ⟨[], l, by rw [hc]; rfl, by simp⟩
    · have h' : (32 : UInt8) ∈ l := by
        rcases List.mem_cons.1 h with e | e
        · exact absurd e.symm hc
        · exact e
      obtain ⟨u, r, rfl, hu⟩ := ih h'
      exact ⟨c :: u, r, rfl, by simp only [List.mem_cons, not_or]; exact ⟨fun e => hc e.symm, hu⟩⟩
theorem splitK_spl : ∀ (k : Nat) (l : By), l.count 32 = k → Lib.splitK [32] 0 k l = spl l
  | 0, l, h => by
    rw [Lib.splitK, spl_last l (List.count_eq_zero.1 h)]
  | k + 1, l, h => by
    obtain ⟨u, r, rfl, hu⟩ := split_at l (List.count_pos_iff.1 (by omega))
    have hu0 : u.count 32 = 0 := List.count_eq_zero.2 hu
    have hr : r.count 32 = k := by simp [List.count_append, hu0] at h; omega
    rw [Lib.splitK, index_space u r hu, if_neg (by simp), spl_word u r hu]
    have e1 : ((u.length : Int).toNat + 0) = u.length := by simp
    have e2 : ((u.length : Int).toNat + ([32] : By).length) = u.length + 1 := by simp
    rw [e1, e2, List.take_left, show (u ++ 32 :: r).drop (u.length + 1) = r by rw [← List.drop_drop]; simp, splitK_spl k r hr]

theorem cells_at (w : World) (vs : Array Value) (ty k : Nat) (v : Value) (h : vs[k]? = some v) : (w.alloc (.cells vs ty)).cell? ⟨w.heap.size, k, none⟩ = some v := by
  simp [h]

theorem split_any (s : By) (w : World) (he : Er w) (hs : s.length ≤ 1048576) :
    Calls Tryd.prog 52 #[.string ⟨s.toArray⟩, .string ⟨#[32]⟩] w fun e w' => (∃ n, e = .returned (.slice (some ⟨w.heap.size, 0, none⟩) n n) ∧ StrSl w' (spl s) (some ⟨w.heap.size, 0, none⟩) n) ∧ Below w.heap.size w w' := by
  obtain ⟨-, -, ⟨m, h3⟩⟩ := he
  refine (Tryd.strings_Split ⟨s.toArray⟩ ⟨#[32]⟩ m w (by show s.toArray.size < _; simp; omega) h3 (by decide)).mono ?_
  rintro e w' ⟨rfl, rfl⟩
  have hd := Lib.splitB_data ⟨#[32]⟩ 0 (Lib.countB ⟨s.toArray⟩ ⟨#[32]⟩) ⟨s.toArray⟩
  have hc : Lib.countB ⟨s.toArray⟩ ⟨#[32]⟩ = s.count 32 := by
    show Lib.count s.toArray.toList [32] = _
    rw [Lib.count_one]
  have hsp : (Lib.splitB ⟨#[32]⟩ 0 (Lib.countB ⟨s.toArray⟩ ⟨#[32]⟩) ⟨s.toArray⟩).map (·.data.toList) = spl s := by
    rw [hd, hc]
    exact splitK_spl _ s rfl
  refine ⟨⟨_, rfl, ?_, fun _ => ⟨w.heap.size, 0, rfl, by simp, fun k hk => ?_⟩⟩, bal0 _ _⟩
  · rw [← hsp, List.length_map]
    exact (Lib.splitB_all ⟨#[32]⟩ (by decide) 0 _ ⟨s.toArray⟩ rfl).symm
  · have hk2 : k < (Lib.splitB ⟨#[32]⟩ 0 (Lib.countB ⟨s.toArray⟩ ⟨#[32]⟩) ⟨s.toArray⟩).length := by rw [← hsp, List.length_map] at hk; exact hk
    have hv : spl s = (Lib.splitB ⟨#[32]⟩ 0 (Lib.countB ⟨s.toArray⟩ ⟨#[32]⟩) ⟨s.toArray⟩).map (·.data.toList) := hsp.symm
    have hx : (spl s)[k] = ((Lib.splitB ⟨#[32]⟩ 0 (Lib.countB ⟨s.toArray⟩ ⟨#[32]⟩) ⟨s.toArray⟩)[k]).data.toList := by simp only [hv, List.getElem_map]
    rw [Nat.zero_add, hx]
    generalize hL : Lib.splitB ⟨#[32]⟩ 0 (Lib.countB ⟨s.toArray⟩ ⟨#[32]⟩) ⟨s.toArray⟩ = L at hk2
    rw [cells_at w ((L.map Value.string).toArray) 9 k (.string L[k]) (by simp [List.getElem?_eq_getElem hk2])]
end Go.Proofs.YtlknhjibadbeeaaDoor
