/- Walk of the laws' markClauseS. -/
import Derived.Test.YtlknhjibadbeeaaDoorW35
namespace Go.Proofs.YtlknhjibadbeeaaDoor
open Go.RowKit Go.Deep

attribute [local go_sem] ba_get ba_append

/-- the nodes of clauses -/
def clN : List Cl → Nat
  | [] => 0
  | c :: cs => nodes c.head + nodesL c.body + clN cs
theorem clN_append : ∀ a b : List Cl, clN (a ++ b) = clN a + clN b
  | [], b => by simp [clN]
  | c :: a, b => by simp only [List.cons_append, clN, clN_append a b]; omega
theorem clN_take (ks : List Cl) (i : Nat) (h : i < ks.length) : clN (ks.take (i + 1)) = clN (ks.take i) + (nodes ks[i].head + nodesL ks[i].body) := by
  rw [List.take_succ_eq_append_getElem h, clN_append]; simp [clN]
theorem clN_take_le (ks : List Cl) (i : Nat) : clN (ks.take i) ≤ clN ks := by
  have h := clN_append (ks.take i) (ks.drop i)
  rw [List.take_append_drop] at h
  omega
theorem clN_len : ∀ ks : List Cl, ks.length ≤ clN ks
  | [] => by simp [clN]
  | c :: cs => by have := nodes_pos c.head; have := clN_len cs; simp only [clN, List.length_cons]; omega
theorem nodes_kids (t : Tm) : nodes t = nodesL t.kids + 1 := by cases t; rfl

/-- what marking clauses turns: cells of block B, and what lies behind it -/
structure MrkC (B hi : Nat) (w w' : World) : Prop where
  os : w'.os = w.os
  tape : w'.tape = w.tape
  output : w'.output = w.output
  keep : Keep (B + 1) w w'
  block : ∀ b, b < B ∨ hi ≤ b → b < w.heap.size → w'.heap[b]? = w.heap[b]?
  row : ∀ k v, w.cell? ⟨B, k, none⟩ = some v → ∃ v', w'.cell? ⟨B, k, none⟩ = some v' ∧ (3 ≤ k % 5 → v' = v)
  rowf : ∀ k, w'.frozen? ⟨B, k, none⟩ = w.frozen? ⟨B, k, none⟩

theorem MrkC.refl (B hi : Nat) (w : World) : MrkC B hi w w := ⟨rfl, rfl, rfl, Keep.refl _ _, fun _ _ _ => rfl, fun _ v h => ⟨v, h, fun _ => rfl⟩, fun _ => rfl⟩
theorem MrkC.trans {B hi : Nat} {a b c : World} (h : MrkC B hi a b) (h2 : MrkC B hi b c) : MrkC B hi a c := by
  refine ⟨h2.os.trans h.os, h2.tape.trans h.tape, h2.output.trans h.output, h.keep.trans h2.keep, fun q hq hlt => (h2.block q hq (Nat.lt_of_lt_of_le hlt h.keep.size)).trans (h.block q hq hlt), fun k v hv => ?_, fun k => (h2.rowf k).trans (h.rowf k)⟩
  obtain ⟨v1, h1, e1⟩ := h.row k v hv
  obtain ⟨v2, h3, e2⟩ := h2.row k v1 h1
  exact ⟨v2, h3, fun hk => (e2 hk).trans (e1 hk)⟩
theorem MrkC.mark {B hi : Nat} {a b c : World} (h : MrkC B hi a b) (h2 : Mrk (B + 1) hi b c) (hB : B < b.heap.size) : MrkC B hi a c :=
  h.trans ⟨h2.os, h2.tape, h2.output, h2.keep, fun q hq hlt => h2.block q (by omega) hlt, fun k v hv => ⟨v, (World.cell?_of_block (w := b) (a := ⟨B, k, none⟩) (h2.block B (by omega) hB)).trans hv, fun _ => rfl⟩, fun _ => World.frozen?_of_block (h2.block B (by omega) hB)⟩
theorem MrkC.below {B hi : Nat} {a b c : World} (h : MrkC B hi a b) (hb : Below b.heap.size b c) (hB : B < b.heap.size) : MrkC B hi a c :=
  h.mark ⟨hb.os, hb.tape, hb.output, Keep.of_below hb, fun q _ hlt => hb.block q hlt⟩ hB
theorem MrkC.set {B hi : Nat} {a b : World} (h : MrkC B hi a b) {k : Nat} {u : Value} (hu : b.cell? ⟨B, k, none⟩ = some u) (hk : k % 5 < 3) (hBh : B < hi) (v : Value) : MrkC B hi a (b.setCell ⟨B, k, none⟩ v) := by
  have hB : Below B b (b.setCell ⟨B, k, none⟩ v) := (Below.refl B b).setCell (p := ⟨B, k, none⟩) (Nat.le_refl _) v
  refine h.trans ⟨hB.os, hB.tape, hB.output, Keep.of_blocks hB.size (fun q hq _ => Below.heap_setCell _ _ _ _ (fun e => by have : q = B := e; omega)), fun q hq _ => Below.heap_setCell _ _ _ _ (fun e => by have : q = B := e; omega), fun j x hx => ?_, fun j => World.frozen?_setCell ..⟩
  by_cases he : (⟨B, k, none⟩ : Addr) = ⟨B, j, none⟩
  · have e2 : k = j := congrArg Addr.off he
    rw [← he]
    exact ⟨v, World.cell?_setCell_same' b ⟨B, k, none⟩ v (by rw [hu]; rfl), fun h3 => absurd h3 (by omega)⟩
  · rw [World.cell?_setCell_other _ _ _ _ he]
    exact ⟨x, hx, fun _ => rfl⟩
theorem MkCl.mark {B hi : Nat} {w w' : World} {cs : List Cl} {a : Option Addr} {n : Nat} (h : MkCl B hi w cs a n) (hM : MrkC B hi w w') : MkCl B hi w' cs a n := by
  obtain ⟨hn, ha, hhi, hNF, hr⟩ := h
  refine ⟨hn, ha, hhi, ⟨Nat.lt_of_lt_of_le hNF.1 hM.keep.size, fun k hk => ?_, fun k => (hM.rowf k).trans (hNF.2.2 k)⟩, fun k hk => ?_⟩
  · obtain ⟨u, hu⟩ := hNF.2.1 k hk
    obtain ⟨v, hv, -⟩ := hM.row k u hu
    exact ⟨v, hv⟩
  · obtain ⟨⟨a1, n1, c1, h1, hs1⟩, ⟨a2, n2, c2, h2, hs2⟩⟩ := hr k hk
    obtain ⟨v1, g1, e1⟩ := hM.row _ _ h1
    obtain ⟨v2, g2, e2⟩ := hM.row _ _ h2
    rw [e1 (by omega)] at g1
    rw [e2 (by omega)] at g2
    exact ⟨⟨a1, n1, c1, g1, hs1.keep hM.keep (Nat.le_refl _) (Nat.le_refl _)⟩, ⟨a2, n2, c2, g2, hs2.keep hM.keep (Nat.le_refl _) (Nat.le_refl _)⟩⟩

set_option maxRecDepth 100000 in
set_option maxHeartbeats 2000000 in
theorem markClauseS_any (B hi : Nat) (ks : List Cl) (w : World) (a : Option Addr) (m c : Nat) (k0 : Int) (hN : clN ks ≤ 1048576) (h : MkCl B hi w ks a m) (h0 : 1 ≤ k0) (h1 : k0 + 3 * clN ks ≤ 1000000000) :
    Calls Tryd.prog 20 #[.slice a m c, .int .i64 k0] w fun e w' => (∃ k1 : Int, e = .returned (.int .i64 k1) ∧ k0 ≤ k1 ∧ k1 ≤ k0 + 3 * clN ks) ∧ MrkC B hi w w' := by
  have hlen := clN_len ks
  obtain ⟨hmk, rfl, hhi, hnf, hrow⟩ := h
  have HM := Lib.hid hmk
  have hm : m ≤ 1048576 := by omega
  have HS := Lib.hid (show MkCl B hi w ks (some ⟨B, 0, none⟩) m from ⟨hmk, rfl, hhi, hnf, hrow⟩)
  have hgw := hnf.1
  clear hmk hnf hrow
  go_enter Tryd.func20, Tryd.ntmps20
  go_wp2_with fail
  go_loopw [1, 5] (fun kk j wr => ∃ (i : Nat) (q : Int), i ≤ m ∧ j = .int .i64 i ∧ kk = .int .i64 q ∧ k0 ≤ q ∧ q ≤ k0 + 3 * clN (ks.take i) ∧ Hid (MrkC B hi w wr)) (fun _ j _ => m - (intOf j).toNat)
  case atStart => exact ⟨0, k0, Nat.zero_le _, rfl, rfl, by omega, by simp [clN], Lib.hid (MrkC.refl _ _ _)⟩
  case round =>
    obtain ⟨i, q, him, rfl, rfl, hq0, hq1, HK⟩ := hrel
    have hle := clN_take_le ks i
    by_cases hlt : i < m
    · have hlx : i < ks.length := by rw [← HM.out]; exact hlt
      have hnt := clN_take ks i hlx
      have hle2 := clN_take_le ks (i + 1)
      have hnk := nodes_kids ks[i].head
      have hgr : B < wr.heap.size := Nat.lt_of_lt_of_le hgw HK.out.keep.size
      obtain ⟨-, -, -, hnf, hrow⟩ := HS.out.mark HK.out
      obtain ⟨u0, hu0⟩ := hnf.2.1 (i * 5) (by omega)
      obtain ⟨u1, hu1⟩ := hnf.2.1 (i * 5 + 1) (by omega)
      obtain ⟨u2, hu2⟩ := hnf.2.1 (i * 5 + 2) (by omega)
      obtain ⟨⟨a3, n3, c3, hu3, hks3⟩, ⟨a4, n4, c4, hu4, hks4⟩⟩ := hrow i hlx
      have hfz := hnf.2.2
      have hf0 := hfz (i * 5)
      have hf1 := hfz (i * 5 + 1)
      have HKs3 := Lib.hid hks3
      have HKs4 := Lib.hid hks4
      have HF := Lib.hid hfz
      clear hnf hrow hks3 hks4 hfz
      have HN := Lib.hid (And.intro hnt (And.intro hle2 hnk))
      clear hnt hle2 hnk
      have hq9 : q + 3 ≤ 1000000000 := by obtain ⟨h5, h6, h7⟩ := HN.out; omega
      go_wp2_with fail
      refine (markText_any _ _ (by omega) (by omega)).mono ?_
      rintro e w2 ⟨⟨s, rfl⟩, hb2⟩
      have hM1 : MrkC B hi wr ((wr.setCell ⟨B, i * 5, none⟩ (.int .i64 q)).setCell ⟨B, i * 5 + 1, none⟩ (.int .i64 (q + 1))) :=
        ((MrkC.refl B hi wr).set hu0 (by omega) hhi _).set (show _ = some u1 by rw [World.cell?_setCell_other _ _ _ _ (fun e => by have : i * 5 = i * 5 + 1 := congrArg Addr.off e; omega)]; exact hu1) (by omega) hhi _
      have hM2 := hM1.below hb2 (Nat.lt_of_lt_of_le hgr hM1.keep.size)
      have hg2 : B < w2.heap.size := Nat.lt_of_lt_of_le hgr hM2.keep.size
      obtain ⟨x2, hx2, -⟩ := hM2.row _ _ hu2
      obtain ⟨x3, hx3, e3⟩ := hM2.row _ _ hu3
      obtain ⟨x4, hx4, e4⟩ := hM2.row _ _ hu4
      rw [e3 (by omega)] at hx3
      rw [e4 (by omega)] at hx4
      clear e3 e4
      have hf2 := (hM2.rowf (i * 5 + 2)).trans (HF.out _)
      have hM3 := hM2.set hx2 (show (i * 5 + 2) % 5 < 3 by omega) hhi (.string ⟨s.toArray⟩)
      have hx3' : (w2.setCell ⟨B, i * 5 + 2, none⟩ (.string ⟨s.toArray⟩)).cell? ⟨B, i * 5 + 3, none⟩ = some (.slice a3 n3 c3) := by
        rw [World.cell?_setCell_other _ _ _ _ (fun e => by have : i * 5 + 2 = i * 5 + 3 := congrArg Addr.off e; omega)]; exact hx3
      have HX4 := Lib.hid (show (w2.setCell ⟨B, i * 5 + 2, none⟩ (.string ⟨s.toArray⟩)).cell? ⟨B, i * 5 + 4, none⟩ = some (.slice a4 n4 c4) by
        rw [World.cell?_setCell_other _ _ _ _ (fun e => by have : i * 5 + 2 = i * 5 + 4 := congrArg Addr.off e; omega)]; exact hx4)
      have HM3 := Lib.hid hM3
      clear hM1 hM2 hb2 hM3 hx4
      go_wp2_with fail
      refine (markTermS_any (B + 1) hi ks[i].head.kids _ a3 n3 c3 (q + 1 + 1 + 1) (by obtain ⟨h5, h6, h7⟩ := HN.out; omega) (HKs3.out.keep HM3.out.keep (Nat.le_refl _) (Nat.le_refl _)) (by omega) (by obtain ⟨h5, h6, h7⟩ := HN.out; omega)).mono ?_
      rintro e w4 ⟨⟨k1, rfl, hk1, hk2⟩, hM4⟩
      have hM5 := HM3.out.mark hM4 (Nat.lt_of_lt_of_le hgr HM3.out.keep.size)
      have hx5 : w4.cell? ⟨B, i * 5 + 4, none⟩ = some (.slice a4 n4 c4) :=
        (World.cell?_of_block (a := ⟨B, i * 5 + 4, none⟩) (hM4.block B (.inl (by omega)) (Nat.lt_of_lt_of_le hgr HM3.out.keep.size))).trans HX4.out
      have HM5 := Lib.hid hM5
      clear hM4 hM5
      go_wp2_with fail
      refine (markTermS_any (B + 1) hi ks[i].body _ a4 n4 c4 k1 (by obtain ⟨h5, h6, h7⟩ := HN.out; omega) (HKs4.out.keep HM5.out.keep (Nat.le_refl _) (Nat.le_refl _)) (by omega) (by obtain ⟨h5, h6, h7⟩ := HN.out; omega)).mono ?_
      rintro e w6 ⟨⟨k2, rfl, hk3, hk4⟩, hM6⟩
      have HM7 := Lib.hid (HM5.out.mark hM6 (Nat.lt_of_lt_of_le hgr HM5.out.keep.size))
      clear hM6
      go_wp2_with fail
      go_roundw
      case rel => exact ⟨i + 1, k2, by omega, by go_num, rfl, by omega, by obtain ⟨h5, h6, h7⟩ := HN.out; omega, Lib.hid (HK.out.trans HM7.out)⟩
      case measure => simp [intOf]; omega
    · go_wp2_with fail
      go_ret
      have hfull : ks.take i = ks := List.take_of_length_le (by have := HM.out; omega)
      rw [hfull] at hq1
      exact ⟨⟨_, rfl, hq0, hq1⟩, HK.out⟩
end Go.Proofs.YtlknhjibadbeeaaDoor
