/- Walks over terms: szTerm, toTerm, eqTerm. -/
import Derived.Test.YtlknhjibadbeeaaDoorW1
import Derived.Test.YtlknhjibadbeeaaDoorM2
import Derived.Deep.RegionWith
import Derived.ChangeAlike
namespace Go.Proofs.YtlknhjibadbeeaaDoor
open Go.RowKit

attribute [local go_sem] ba_get ba_append

def AnyB : Nat → Prop := fun _ => True

/-- szTerm, for terms of at most N nodes -/
def SzTerm (N : Nat) : Prop := ∀ (S : Nat → Prop) (k n : Int) (nm : By) (ks : List Tm) (w : World) (a : Option Addr) (m c : Nat) (left : Int), nodes (.mk k n nm ks) ≤ N → N ≤ 1048576 → namesLe (.mk k n nm ks) 1048576 = true → TmSl S w ks a m → 0 ≤ left → left ≤ 1048576 →
  Calls Tryd.prog 12 #[.agg #[.int .i64 k, .int .i64 n, .string ⟨nm.toArray⟩, .slice a m c], .int .i64 left] w fun e w' => (∃ r : Int, e = .returned (.int .i64 r) ∧ -1 ≤ r ∧ r ≤ left) ∧ Below w.heap.size w w'
def SzTermS (N : Nat) : Prop := ∀ (S : Nat → Prop) (ks : List Tm) (w : World) (a : Option Addr) (m c : Nat) (left : Int), nodesL ks ≤ N → N ≤ 1048576 → namesLeL ks 1048576 = true → TmSl S w ks a m → 0 ≤ left → left ≤ 1048576 →
  Calls Tryd.prog 35 #[.slice a m c, .int .i64 left] w fun e w' => (∃ r : Int, e = .returned (.int .i64 r) ∧ -1 ≤ r ∧ r ≤ left) ∧ Below w.heap.size w w'

set_option maxRecDepth 100000 in
set_option maxHeartbeats 400000 in
theorem szTermS_of (N : Nat) (ih : SzTerm N) : SzTermS N := by
  intro S ks w a m c left hN hN2 hnm h h1 h2
  have IH := Lib.hid ih; clear ih
  have hlen := nodesL_len ks
  have hm : m ≤ 1048576 := by have := h.1; omega
  have H := Lib.hid h; clear h
  have HN := Lib.hid hnm; clear hnm
  go_enter Tryd.func35, Tryd.ntmps35
  go_wp2_with fail
  · go_ret
    exact ⟨⟨_, rfl, by omega, by omega⟩, Below.refl _ _⟩
  go_loopw [1, 5] (fun i j wr => ∃ k : Nat, k ≤ m ∧ j = .int .i64 k ∧ ∃ l : Int, 0 ≤ l ∧ l ≤ left ∧ i = .int .i64 l ∧ Below w.heap.size w wr) (fun _ i _ => m - (intOf i).toNat)
  case atStart => exact ⟨0, Nat.zero_le _, rfl, _, by omega, by omega, rfl, Below.refl _ _⟩
  case round =>
    obtain ⟨k, hk, rfl, l, hl1, hl2, rfl, hb⟩ := hrel
    by_cases hlt : k < m
    · have hlx : k < ks.length := by rw [← H.out.1]; exact hlt
      obtain ⟨b, o, rfl, hb0, -, hr⟩ := H.out.2 (by omega)
      obtain ⟨c0, c1, c2, a', n', c', c3, hs⟩ := rowAt_get (rowAt_below hb hb0 hr) k hlx
      have HS := Lib.hid hs
      clear hr hs
      have hmem := nodes_mem (List.getElem_mem hlx)
      go_wp2_with fail
      refine (IH.out S ks[k].kind ks[k].n ks[k].name ks[k].kids _ _ _ _ _ (by cases hq : ks[k]; rw [hq] at hmem; simp only [Tm.kind, Tm.n, Tm.name, Tm.kids]; omega) hN2 (by cases hq : ks[k]; have := namesLeL_mem HN.out (List.getElem_mem hlx); rw [hq] at this; exact this) HS.out hl1 (by omega)).mono ?_
      rintro e w1 ⟨⟨r, rfl, hr1, hr2⟩, hb1⟩
      by_cases hneg : r < 0
      · go_wp2_with fail
        go_ret
        exact ⟨⟨_, rfl, by omega, by omega⟩, bnext hb hb1⟩
      · go_wp2_with fail
        go_roundw
        case rel => exact ⟨k + 1, by omega, by go_num, _, by omega, by omega, rfl, bnext hb hb1⟩
        case measure => simp [intOf]; omega
    · go_wp2_with fail
      go_ret
      exact ⟨⟨_, rfl, by omega, by omega⟩, hb⟩

set_option maxRecDepth 100000 in
theorem szTerm_of (N : Nat) (ih : SzTermS N) : SzTerm (N + 1) := by
  intro S k n nm ks w a m c left hN hN2 hnm h h1 h2
  have IH := Lib.hid ih; clear ih
  simp only [nodes] at hN
  simp only [namesLe, Bool.and_eq_true, decide_eq_true_eq] at hnm
  obtain ⟨hn1, hn2⟩ := hnm
  have H := Lib.hid h; clear h
  have HN := Lib.hid hn2; clear hn2
  by_cases hneg : left - nm.length < 0
  · go_enter Tryd.func12, Tryd.ntmps12
    go_wp2_with fail
    go_ret
    exact ⟨⟨_, rfl, by omega, by omega⟩, bal0 _ _⟩
  · go_enter Tryd.func12, Tryd.ntmps12
    go_wp2_with fail
    refine (IH.out S ks _ _ _ _ _ (by omega) (by omega) HN.out (H.out.below (bal0 _ _)) (by omega) (by omega)).mono ?_
    rintro e w1 ⟨⟨r, rfl, hr1, hr2⟩, hb1⟩
    by_cases hneg : r < 0
    · go_wp2_with fail
      go_ret
      exact ⟨⟨_, rfl, by omega, by omega⟩, bnext (bal0 _ _) hb1⟩
    · go_wp2_with fail
      go_ret
      exact ⟨⟨_, rfl, by omega, by omega⟩, bnext (bal0 _ _) hb1⟩

theorem szTerm_all : ∀ N, SzTerm N ∧ SzTermS N
  | 0 => by
    have h : SzTerm 0 := by intro S k n nm ks w a m c left hN; simp [nodes] at hN
    exact ⟨h, szTermS_of 0 h⟩
  | N + 1 => by
    have h := szTerm_of N (szTerm_all N).2
    exact ⟨h, szTermS_of _ h⟩

/-- toTerm, for terms of at most N nodes: a copy in new memory -/
def ToTerm (N : Nat) : Prop := ∀ (S : Nat → Prop) (k n : Int) (nm : By) (ks : List Tm) (w : World) (a : Option Addr) (m c : Nat), nodes (.mk k n nm ks) ≤ N → N ≤ 1048576 → TmSl S w ks a m →
  Calls Tryd.prog 15 #[.agg #[.int .i64 k, .int .i64 n, .string ⟨nm.toArray⟩, .slice a m c]] w fun e w' => (∃ a' m' c', e = .returned (.agg #[.int .i64 k, .int .i64 n, .string ⟨nm.toArray⟩, .slice a' m' c']) ∧ TmSl (fun b => w.heap.size ≤ b) w' ks a' m') ∧ Below w.heap.size w w'
def ToTermS (N : Nat) : Prop := ∀ (S : Nat → Prop) (ks : List Tm) (w : World) (a : Option Addr) (m c : Nat), nodesL ks ≤ N → N ≤ 1048576 → TmSl S w ks a m →
  Calls Tryd.prog 41 #[.slice a m c] w fun e w' => (∃ b, e = .returned (.slice (some ⟨b, 0, none⟩) m m) ∧ TmSl (fun b => w.heap.size ≤ b) w' ks (some ⟨b, 0, none⟩) m) ∧ Below w.heap.size w w'

theorem infoTerm : (Tryd.prog.info? 41).map (fun i => (i.zero, i.size, i.bytes)) = some (some (.agg #[.int .i64 0, .int .i64 0, .string ⟨#[]⟩, .slice none 0 0]), 4, 56) := by kernel_rfl

set_option maxRecDepth 100000 in
set_option maxHeartbeats 400000 in
theorem toTermS_of (N : Nat) (ih : ToTerm N) : ToTermS N := by
  intro S ks w a m c hN hN2 h
  obtain ⟨i0, hi, hz0, hz1, hz2⟩ := info_parts infoTerm
  have IH := Lib.hid ih; clear ih
  have hlen := nodesL_len ks
  have hm : m ≤ 1048576 := by have := h.1; omega
  have H := Lib.hid h; clear h
  go_enter Tryd.func41, Tryd.ntmps41
  go_wp2_with (refine wpList_make_full _ rfl _ _ 39 rfl w.heap.size 41 i0 _ 4 Tryd.underlying39 hi hz0 hz1 _ _ _ _ m rfl rfl rfl rfl ?c2 ?c3 ?c4 ?_)
  case c2 => rw [hz2]; omega
  case c3 => unfold maxLen; omega
  case c4 => exact Nat.le_refl _
  intro w1 hown hgrow
  have HB1 := Lib.hid (show Below w.heap.size w w1 from (Below.refl _ _).grown hgrow (Nat.le_refl _) (fun k hk => by cases hk))
  have HO1 := Lib.hid hown; clear hown hgrow
  go_wp2_with fail
  go_loopw [4] (fun j wr => ∃ k : Nat, k ≤ m ∧ j = .int .i64 k ∧ Below w.heap.size w wr ∧ Hid (∃ cs vs, wr.ownsRow w.heap.size 41 4 (.slice (some ⟨w.heap.size, 0, none⟩) m m) m cs ∧ Done cs (tmF ks vs) k ∧ vs.length = k ∧ KidsAt (fun b => w.heap.size < b) wr ks vs)) (fun i _ => m - (intOf i).toNat)
  case atStart => exact ⟨0, Nat.zero_le _, rfl, HB1.out, Lib.hid ⟨_, [], HO1.out, done_zero _ _, rfl, fun j t v _ hv => by simp at hv⟩⟩
  case round =>
    obtain ⟨k, hk, rfl, hb, HD⟩ := hrel
    by_cases hlt : k < m
    · have hlx : k < ks.length := by rw [← H.out.1]; exact hlt
      obtain ⟨b, o, rfl, hb0, -, hr⟩ := H.out.2 (by omega)
      obtain ⟨c0, c1, c2, a', n', c', c3, hs⟩ := rowAt_get (rowAt_below hb hb0 hr) k hlx
      have HS := Lib.hid hs
      clear hr hs
      have hmem := nodes_mem (List.getElem_mem hlx)
      go_wp2_with fail
      refine (IH.out S ks[k].kind ks[k].n ks[k].name ks[k].kids _ _ _ _ (by cases hq : ks[k]; rw [hq] at hmem; simp only [Tm.kind, Tm.n, Tm.name, Tm.kids]; omega) hN2 HS.out).mono ?_
      rintro e w2 ⟨⟨a2, m2, c2', rfl, hts⟩, hb2⟩
      obtain ⟨cs, vs, hown, hd, hvl, hka⟩ := HD.out
      have hg : w.heap.size < wr.heap.size := own_lt hown
      have hown2 := own_next hown hb2
      obtain ⟨u0, hu0⟩ := own_has hown2 (k * 4) (by omega)
      obtain ⟨u1, hu1⟩ := own_has hown2 (k * 4 + 1) (by omega)
      obtain ⟨u2, hu2⟩ := own_has hown2 (k * 4 + 2) (by omega)
      obtain ⟨u3, hu3⟩ := own_has hown2 (k * 4 + 3) (by omega)
      have hf0 := hown2.frozenAt (k * 4)
      have hf1 := hown2.frozenAt (k * 4 + 1)
      have hf2 := hown2.frozenAt (k * 4 + 2)
      have hf3 := hown2.frozenAt (k * 4 + 3)
      have HO2 := Lib.hid hown2
      have HK := Lib.hid (show KidsAt (fun b => w.heap.size < b) w2 ks (vs ++ [.slice a2 m2 c2']) from (hka.mono hb2.size (fun b _ hl => hb2.block b hl)).snoc (fun t ht => by
        rw [hvl, List.getElem?_eq_getElem hlx] at ht
        cases ht
        exact (kidAt_iff _ _ _ _).2 ⟨a2, m2, c2', rfl, hts.mono (Nat.le_refl _) (fun b hb => by omega) (fun _ _ _ => rfl)⟩))
      have HD2 := Lib.hid (done_snoc (v := .slice a2 m2 c2') hvl hd)
      have hv3 : Value.slice a2 m2 c2' = tmF ks (vs ++ [.slice a2 m2 c2']) k 3 := by rw [tmF_3 hlx, ← hvl]; simp
      have HV3 := Lib.hid hv3
      have HVL := Lib.hid hvl
      clear hown hown2 hka hd hts hv3 hvl
      go_wp2_with fail
      go_roundw
      case rel => exact ⟨k + 1, by omega, by go_num, below_store4 (bnext hb hb2) (Nat.le_refl _) _ _ _ _ _ _ _ _, Lib.hid ⟨_, vs ++ [.slice a2 m2 c2'], own_store4 HO2.out k _ _ _ _, done_set HO2.out.1 hlt HD2.out (tmF_0 hlx).symm (tmF_1 hlx).symm (tmF_2 hlx).symm HV3.out, by simp [HVL.out], HK.out.mono (by rw [store4_size]; exact Nat.le_refl _) (fun b hb _ => store4_block _ _ _ _ _ _ _ _ b (by omega))⟩⟩
      case measure => simp [intOf]; omega
    · obtain ⟨cs, vs, hown, hd, hvl, hka⟩ := HD.out
      obtain rfl : k = m := by omega
      have HO2 := Lib.hid hown
      have HK := Lib.hid hka
      have HD2 := Lib.hid hd
      have HVL := Lib.hid hvl
      clear hown hka hd hvl
      go_wp2_with fail
      go_ret
      exact ⟨⟨_, rfl, tmSl_of_done HO2.out H.out.1 HVL.out HD2.out (fun j t v ht hv => kidAt_mono (Nat.le_refl _) (fun b hb => Nat.le_of_lt hb) (fun _ _ _ => rfl) t v (HK.out j t v ht hv)) (Nat.le_refl _)⟩, hb⟩

set_option maxRecDepth 100000 in
theorem toTerm_of (N : Nat) (ih : ToTermS N) : ToTerm (N + 1) := by
  intro S k n nm ks w a m c hN hN2 h
  have IH := Lib.hid ih; clear ih
  simp only [nodes] at hN
  have H := Lib.hid h; clear h
  go_enter Tryd.func15, Tryd.ntmps15
  go_wp2_with fail
  have hB0 := Lib.hid (bal (bal (bal0 w (.cells #[.int .i64 k, .int .i64 n, .string ⟨nm.toArray⟩, .slice a m c] 32)) (.cells #[.int .i64 0, .int .i64 0, .string ⟨#[]⟩, .slice none 0 0] 41)) (.cells #[.int .i64 k, .int .i64 n, .string ⟨nm.toArray⟩, .slice none 0 0] 41))
  refine (IH.out S ks _ _ _ _ (by omega) (by omega) (H.out.below hB0.out)).mono ?_
  rintro e w1 ⟨⟨b1, rfl, hts⟩, hb1⟩
  obtain ⟨hc1, hf1⟩ := bcell hb1
  have hz1 := bsz w.heap.size hb1 (by simp; omega)
  have hz2 := bsz (w.heap.size + 1) hb1 (by simp)
  have hz3 := bsz (w.heap.size + 1 + 1) hb1 (by simp)
  have HT := Lib.hid hts; clear hts
  have HB1 := Lib.hid (bnext hB0.out hb1)
  go_wp2_with fail
  refine bodyPost_ret (v := .agg #[.int .i64 k, .int .i64 n, .string ⟨nm.toArray⟩, .slice (some ⟨b1, 0, none⟩) m m]) (by simp [results, Tryd.results15, go_sem, hc1]) rfl ⟨⟨_, _, _, rfl, ?_⟩, ?_⟩
  · refine HT.out.mono (by simp [World.setCell]) (fun b hb => by simp at hb; omega) (fun b hb _ => ?_)
    simp at hb
    rw [Below.heap_setCell, Below.heap_setCell, Below.heap_setCell, Below.heap_setCell, Below.heap_setCell] <;> (simp; omega)
  · refine (((((HB1.out.setCell ?_ _).setCell ?_ _).setCell ?_ _).setCell ?_ _).setCell ?_ _) <;> (simp; try omega)

theorem toTerm_all : ∀ N, ToTerm N ∧ ToTermS N
  | 0 => by
    have h : ToTerm 0 := by intro S k n nm ks w a m c hN; simp [nodes] at hN
    exact ⟨h, toTermS_of 0 h⟩
  | N + 1 => by
    have h := toTerm_of N (toTerm_all N).2
    exact ⟨h, toTermS_of _ h⟩

/-- eqTerm at one term twice, for terms of at most N nodes -/
def EqTerm (N : Nat) : Prop := ∀ (S S' : Nat → Prop) (k n : Int) (nm : By) (ks : List Tm) (w : World) (a a' : Option Addr) (m m' c c' : Nat), nodes (.mk k n nm ks) ≤ N → N ≤ 1048576 → TmSl S w ks a m → TmSl S' w ks a' m' →
  Calls Tryd.prog 19 #[.agg #[.int .i64 k, .int .i64 n, .string ⟨nm.toArray⟩, .slice a m c], .agg #[.int .i64 k, .int .i64 n, .string ⟨nm.toArray⟩, .slice a' m' c']] w fun e w' => e = .returned (.bool true) ∧ Below w.heap.size w w'
def EqTermS (N : Nat) : Prop := ∀ (S S' : Nat → Prop) (ks : List Tm) (w : World) (a a' : Option Addr) (m m' c c' : Nat), nodesL ks ≤ N → N ≤ 1048576 → TmSl S w ks a m → TmSl S' w ks a' m' →
  Calls Tryd.prog 45 #[.slice a m c, .slice a' m' c'] w fun e w' => e = .returned (.bool true) ∧ Below w.heap.size w w'

set_option maxRecDepth 100000 in
set_option maxHeartbeats 400000 in
theorem eqTermS_of (N : Nat) (ih : EqTerm N) : EqTermS N := by
  intro S S' ks w a a' m m' c c' hN hN2 h h'
  obtain rfl : m = m' := h.1.trans h'.1.symm
  have IH := Lib.hid ih; clear ih
  have hlen := nodesL_len ks
  have hm : m ≤ 1048576 := by have := h.1; omega
  have H := Lib.hid h; clear h
  have H' := Lib.hid h'; clear h'
  go_enter Tryd.func45, Tryd.ntmps45
  go_wp2_with fail
  go_loopw [5] (fun j wr => ∃ k : Nat, k ≤ m ∧ j = .int .i64 k ∧ Below w.heap.size w wr) (fun i _ => m - (intOf i).toNat)
  case atStart => exact ⟨0, Nat.zero_le _, rfl, Below.refl _ _⟩
  case round =>
    obtain ⟨k, hk, rfl, hb⟩ := hrel
    by_cases hlt : k < m
    · have hlx : k < ks.length := by rw [← H.out.1]; exact hlt
      obtain ⟨b, o, rfl, hb0, -, hr⟩ := H.out.2 (by omega)
      obtain ⟨b2, o2, rfl, hb02, -, hr2⟩ := H'.out.2 (by omega)
      obtain ⟨c0, c1, c2, a1, n1, c1', c3, hs⟩ := rowAt_get (rowAt_below hb hb0 hr) k hlx
      obtain ⟨d0, d1, d2, a2, n2, c2', d3, hs2⟩ := rowAt_get (rowAt_below hb hb02 hr2) k hlx
      have HS := Lib.hid hs
      have HS2 := Lib.hid hs2
      clear hr hs hr2 hs2
      have hmem := nodes_mem (List.getElem_mem hlx)
      have hmem' : nodes (.mk ks[k].kind ks[k].n ks[k].name ks[k].kids) ≤ N := by cases hq : ks[k]; rw [hq] at hmem; simp only [Tm.kind, Tm.n, Tm.name, Tm.kids]; omega
      clear hmem
      go_wp2_with fail
      go_region_with (go_at_call 19; first | refine (IH.out S S' _ _ _ ks[k].kids _ _ _ _ _ _ _ hmem' hN2 HS.out HS2.out).mono ?_ | refine (IH.out S S' _ _ _ ks[k].kids _ _ _ _ _ _ _ hmem' hN2 (HS.out.below (Below.refl _ wr).drew) (HS2.out.below (Below.refl _ wr).drew)).mono ?_; rintro e w2 ⟨rfl, hb2⟩)
      all_goals go_wp2_with fail
      all_goals
        go_roundw
        case rel => exact ⟨k + 1, by omega, by go_num, by first | exact bnext hb hb2 | exact bnext hb.drew hb2⟩
        case measure => simp [intOf]; omega
    · go_wp2_with fail
      go_ret
      exact ⟨rfl, hb⟩

set_option maxRecDepth 100000 in
theorem eqTerm_of (N : Nat) (ih : EqTermS N) : EqTerm (N + 1) := by
  intro S S' k n nm ks w a a' m m' c c' hN hN2 h h'
  have IH := Lib.hid ih; clear ih
  simp only [nodes] at hN
  have H := Lib.hid h; clear h
  have H' := Lib.hid h'; clear h'
  go_enter Tryd.func19, Tryd.ntmps19
  go_wp2_with fail
  refine (IH.out S S' ks _ _ _ _ _ _ _ (by omega) (by omega) (H.out.below (bal (bal0 _ _) _)) (H'.out.below (bal (bal0 _ _) _))).mono ?_
  rintro e w1 ⟨rfl, hb1⟩
  go_wp2_with fail
  go_ret
  exact ⟨rfl, bnext (bal (bal0 _ _) _) hb1⟩

theorem eqTerm_all : ∀ N, EqTerm N ∧ EqTermS N
  | 0 => by
    have h : EqTerm 0 := by intro S S' k n nm ks w a a' m m' c c' hN; simp [nodes] at hN
    exact ⟨h, eqTermS_of 0 h⟩
  | N + 1 => by
    have h := eqTerm_of N (eqTerm_all N).2
    exact ⟨h, eqTermS_of _ h⟩

end Go.Proofs.YtlknhjibadbeeaaDoor
