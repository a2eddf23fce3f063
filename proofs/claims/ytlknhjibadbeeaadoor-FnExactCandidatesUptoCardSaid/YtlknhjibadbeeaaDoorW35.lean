/- Walks of the laws' markText, markTermS, markTerm and markClauseS. -/
import Derived.Test.YtlknhjibadbeeaaDoorW36
import Derived.Test.YtlknhjibadbeeaaDoorW13
import Derived.Deep.RegionWith
namespace Go.Proofs.YtlknhjibadbeeaaDoor
open Go.RowKit Go.Deep

attribute [local go_sem] ba_get ba_append

/-- what marking turns: cells from block lo on, every fourth excepted -/
structure Mrk (lo hi : Nat) (w w' : World) : Prop where
  os : w'.os = w.os
  tape : w'.tape = w.tape
  output : w'.output = w.output
  keep : Keep lo w w'
  block : ∀ b, b < lo ∨ hi ≤ b → b < w.heap.size → w'.heap[b]? = w.heap[b]?

theorem Mrk.refl (lo hi : Nat) (w : World) : Mrk lo hi w w := ⟨rfl, rfl, rfl, Keep.refl _ _, fun _ _ _ => rfl⟩
theorem Mrk.trans {lo hi : Nat} {a b c : World} (h : Mrk lo hi a b) (h2 : Mrk lo hi b c) : Mrk lo hi a c :=
  ⟨h2.os.trans h.os, h2.tape.trans h.tape, h2.output.trans h.output, h.keep.trans h2.keep, fun q hq hlt => (h2.block q hq (Nat.lt_of_lt_of_le hlt h.keep.size)).trans (h.block q hq hlt)⟩
theorem Mrk.below {lo hi : Nat} {a b c : World} (h : Mrk lo hi a b) (hb : Below b.heap.size b c) : Mrk lo hi a c :=
  h.trans ⟨hb.os, hb.tape, hb.output, Keep.of_below hb, fun q _ hlt => hb.block q hlt⟩
theorem Mrk.set {lo hi : Nat} {a b : World} (h : Mrk lo hi a b) {g k : Nat} {u : Value} (hg : lo ≤ g) (hgh : g < hi) (hu : b.cell? ⟨g, k, none⟩ = some u) (hk : k % 4 ≠ 3) (v : Value) : Mrk lo hi a (b.setCell ⟨g, k, none⟩ v) := by
  have hB : Below g b (b.setCell ⟨g, k, none⟩ v) := (Below.refl g b).setCell (p := ⟨g, k, none⟩) (Nat.le_refl _) v
  refine h.trans ⟨hB.os, hB.tape, hB.output, ⟨hB.size, fun q hq hlt j x hx => ?_, fun q hq hlt j => World.frozen?_setCell ..⟩, fun q hq _ => Below.heap_setCell _ _ _ _ (fun e => by have : q = g := e; omega)⟩
  by_cases he : (⟨g, k, none⟩ : Addr) = ⟨q, j, none⟩
  · have e2 : k = j := congrArg Addr.off he
    rw [← he]
    exact ⟨v, World.cell?_setCell_same' b ⟨g, k, none⟩ v (by rw [hu]; rfl), fun h3 => absurd h3 (by omega)⟩
  · rw [World.cell?_setCell_other _ _ _ _ he]
    exact ⟨x, hx, fun _ => rfl⟩

set_option maxRecDepth 100000 in
set_option maxHeartbeats 400000 in
theorem markText_any (k0 : Int) (w : World) (h0 : 1 ≤ k0) (h1 : k0 ≤ 1000000000) :
    Calls Tryd.prog 46 #[.int .i64 k0] w fun e w' => (∃ s : By, e = .returned (.string ⟨s.toArray⟩)) ∧ Below w.heap.size w w' := by
  have kb := fun (w : World) (c : Int) => run_byte_str (P := Tryd.prog) 62 9 5 Tryd.underlying62 Tryd.underlying5 Tryd.underlying9 w c
  go_enter Tryd.func46, Tryd.ntmps46
  go_wp2_with fail
  go_loopw [0, 3] (fun i s wr => ∃ n : Int, 0 ≤ n ∧ n ≤ 1000000000 ∧ i = .int .i64 n ∧ ∃ out : By, s = .string ⟨out.toArray⟩ ∧ (out.length : Int) + n ≤ 1000000000 ∧ Below w.heap.size w wr) (fun i _ _ => (intOf i).toNat)
  case atStart => exact ⟨k0, by omega, h1, rfl, [], rfl, by simpa using h1, Below.refl _ _⟩
  case round =>
    obtain ⟨n, hn, hn2, rfl, out, rfl, hl, hb⟩ := hrel
    by_cases hlt : 0 < n
    · go_wp2_with fail
      go_roundw
      case rel => exact ⟨n / 10, by omega, by omega, rfl, _, rfl, by simp; omega, hb.alloc hb.size _⟩
      case measure => simp [intOf]; omega
    · go_wp2_with fail
      go_ret
      exact ⟨⟨_, rfl⟩, hb⟩

/-- markTermS, for lists of fewer than N nodes -/
def MarkS (N : Nat) : Prop := ∀ (lo hi : Nat) (ks : List Tm) (w : World) (a : Option Addr) (m c : Nat) (k0 : Int), nodesL ks < N → N ≤ 1048577 → MkSl lo hi w ks a m → 1 ≤ k0 → k0 + 3 * nodesL ks ≤ 1000000000 →
  Calls Tryd.prog 47 #[.slice a m c, .int .i64 k0] w fun e w' => (∃ k1 : Int, e = .returned (.int .i64 k1) ∧ k0 ≤ k1 ∧ k1 ≤ k0 + 3 * nodesL ks) ∧ Mrk lo hi w w'

set_option maxRecDepth 100000 in
set_option maxHeartbeats 1000000 in
theorem markS_of (N : Nat) (ih : MarkS N) : MarkS (N + 1) := by
  intro lo hi ks w a m c k0 hN hN2 h h0 h1
  have IH := Lib.hid ih; clear ih
  have hlen := nodesL_len ks
  obtain ⟨hmk, g, rfl, hlo, hhi, hnf, hrow⟩ := h
  have HM := Lib.hid hmk
  have hm : m ≤ 1048576 := by omega
  have HS := Lib.hid (show MkSl lo hi w ks (some ⟨g, 0, none⟩) m from ⟨hmk, g, rfl, hlo, hhi, hnf, hrow⟩)
  have hgw := hnf.1
  clear hmk hnf hrow
  go_enter Tryd.func47, Tryd.ntmps47
  go_wp2_with fail
  go_loopw [1, 5] (fun kk j wr => ∃ (i : Nat) (q : Int), i ≤ m ∧ j = .int .i64 i ∧ kk = .int .i64 q ∧ k0 ≤ q ∧ q ≤ k0 + 3 * nodesL (ks.take i) ∧ Hid (Mrk lo hi w wr)) (fun _ j _ => m - (intOf j).toNat)
  case atStart => exact ⟨0, k0, Nat.zero_le _, rfl, rfl, by omega, by simp [nodesL], Lib.hid (Mrk.refl _ _ _)⟩
  case round =>
    obtain ⟨i, q, him, rfl, rfl, hq0, hq1, HK⟩ := hrel
    have hle := nodesL_take_le ks i
    by_cases hlt : i < m
    · have hlx : i < ks.length := by rw [← HM.out]; exact hlt
      have hnt := nodesL_take ks i hlx
      have hle2 := nodesL_take_le ks (i + 1)
      have hmem := nodes_mem (List.getElem_mem hlx)
      have hnk : nodes ks[i] = nodesL ks[i].kids + 1 := by cases hq : ks[i]; rfl
      have hgr : g < wr.heap.size := Nat.lt_of_lt_of_le hgw HK.out.keep.size
      obtain ⟨-, g', hg', -, -, hnf, hrow⟩ := HS.out.keep HK.out.keep (Nat.le_refl _) (Nat.le_refl _)
      simp only [Option.some.injEq, Addr.mk.injEq, and_true] at hg'
      subst hg'
      obtain ⟨u0, hu0⟩ := hnf.2.1 (i * 4) (by omega)
      obtain ⟨u1, hu1⟩ := hnf.2.1 (i * 4 + 1) (by omega)
      obtain ⟨u2, hu2⟩ := hnf.2.1 (i * 4 + 2) (by omega)
      obtain ⟨a', n', c', hu3, hks⟩ := mkRow_get hrow i hlx
      rw [Nat.zero_add] at hu3
      have hfz := hnf.2.2
      have hf0 := hfz (i * 4)
      have hf1 := hfz (i * 4 + 1)
      have HKs := Lib.hid hks
      have HF := Lib.hid hfz
      clear hnf hrow hks hfz
      have HN := Lib.hid (And.intro hnt (And.intro hle2 (And.intro hmem hnk)))
      clear hnt hle2 hmem hnk
      have hq9 : q + 3 ≤ 1000000000 := by obtain ⟨h5, h6, h7, h8⟩ := HN.out; omega
      go_wp2_with fail
      refine (markText_any _ _ (by omega) (by omega)).mono ?_
      rintro e w2 ⟨⟨s, rfl⟩, hb2⟩
      have hM1 : Mrk lo hi wr ((wr.setCell ⟨g, i * 4, none⟩ (.int .i64 q)).setCell ⟨g, i * 4 + 1, none⟩ (.int .i64 (q + 1))) :=
        ((Mrk.refl lo hi wr).set hlo hhi hu0 (by omega) _).set hlo hhi (show _ = some u1 by rw [World.cell?_setCell_other _ _ _ _ (fun e => by have : i * 4 = i * 4 + 1 := congrArg Addr.off e; omega)]; exact hu1) (by omega) _
      have hM2 := hM1.below hb2
      obtain ⟨x2, hx2, -⟩ := hM2.keep.cell g hlo hgr _ _ hu2
      obtain ⟨x3, hx3, e3⟩ := hM2.keep.cell g hlo hgr _ _ hu3
      rw [e3 (by omega)] at hx3
      clear e3
      have hf2 := (hM2.keep.frozen g hlo hgr (i * 4 + 2)).trans (HF.out _)
      have hx3' : (w2.setCell ⟨g, i * 4 + 2, none⟩ (.string ⟨s.toArray⟩)).cell? ⟨g, i * 4 + 3, none⟩ = some (.slice a' n' c') := by
        rw [World.cell?_setCell_other _ _ _ _ (fun e => by have : i * 4 + 2 = i * 4 + 3 := congrArg Addr.off e; omega)]; exact hx3
      have HM3 := Lib.hid (hM2.set hlo hhi hx2 (show (i * 4 + 2) % 4 ≠ 3 by omega) (.string ⟨s.toArray⟩))
      clear hM1 hM2 hb2
      go_wp2_with fail
      have hq9 : q + 1 + 1 + 1 + 3 * nodesL ks[i].kids ≤ 1000000000 := by obtain ⟨h5, h6, h7, h8⟩ := HN.out; omega
      refine (IH.out lo hi ks[i].kids _ a' n' c' (q + 1 + 1 + 1) (by obtain ⟨h5, h6, h7, h8⟩ := HN.out; omega) (by omega) (HKs.out.keep HM3.out.keep (Nat.le_refl _) (Nat.le_refl _)) (by omega) hq9).mono ?_
      rintro e w4 ⟨⟨k1, rfl, hk1, hk2⟩, hM4⟩
      have HM4 := Lib.hid hM4; clear hM4
      go_wp2_with fail
      go_roundw
      case rel => exact ⟨i + 1, k1, by omega, by go_num, rfl, by omega, by obtain ⟨h5, h6, h7, h8⟩ := HN.out; omega, Lib.hid (HK.out.trans (HM3.out.trans HM4.out))⟩
      case measure => simp [intOf]; omega
    · go_wp2_with fail
      go_ret
      have hfull : ks.take i = ks := List.take_of_length_le (by have := HM.out; omega)
      rw [hfull] at hq1
      exact ⟨⟨_, rfl, hq0, hq1⟩, HK.out⟩

theorem markS_all : ∀ N, MarkS N
  | 0 => by intro lo hi ks w a m c k0 hN; omega
  | N + 1 => markS_of N (markS_all N)

theorem markTermS_any (lo hi : Nat) (ks : List Tm) (w : World) (a : Option Addr) (m c : Nat) (k0 : Int) (hN : nodesL ks ≤ 1048576) (h : MkSl lo hi w ks a m) (h0 : 1 ≤ k0) (h1 : k0 + 3 * nodesL ks ≤ 1000000000) :
    Calls Tryd.prog 47 #[.slice a m c, .int .i64 k0] w fun e w' => (∃ k1 : Int, e = .returned (.int .i64 k1) ∧ k0 ≤ k1 ∧ k1 ≤ k0 + 3 * nodesL ks) ∧ Mrk lo hi w w' :=
  markS_all 1048577 lo hi ks w a m c k0 (by omega) (by omega) h h0 h1

set_option maxRecDepth 100000 in
theorem markTerm_any (lo hi : Nat) (k n : Int) (nm : By) (ks : List Tm) (w : World) (a : Option Addr) (m c : Nat) (k0 : Int) (hN : nodesL ks ≤ 1048576) (h : MkSl lo hi w ks a m) (h0 : 1 ≤ k0) (h1 : k0 + 3 * nodesL ks ≤ 1000000000) :
    Calls Tryd.prog 21 #[.agg #[.int .i64 k, .int .i64 n, .string ⟨nm.toArray⟩, .slice a m c], .int .i64 k0] w fun e w' => (∃ k1 : Int, e = .returned (.int .i64 k1) ∧ k0 ≤ k1) ∧ Mrk lo hi w w' := by
  have H := Lib.hid h; clear h
  go_enter Tryd.func21, Tryd.ntmps21
  go_wp2_with fail
  have hM := (Mrk.refl lo hi w).below (bal0 w (.cells #[.int .i64 k, .int .i64 n, .string ⟨nm.toArray⟩, .slice a m c] 41))
  refine (markTermS_any lo hi ks _ _ _ _ _ hN (H.out.keep hM.keep (Nat.le_refl _) (Nat.le_refl _)) h0 h1).mono ?_
  rintro e w1 ⟨⟨k1, rfl, hk1, hk2⟩, hM1⟩
  have HM := Lib.hid (hM.trans hM1)
  clear hM hM1
  go_wp2_with fail
  go_ret
  exact ⟨⟨_, rfl, hk1⟩, HM.out⟩
end Go.Proofs.YtlknhjibadbeeaaDoor
