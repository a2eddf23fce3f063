/- Walks of the reference's functions that say what is valid. -/
import Derived.Test.YtlknhjibadbeeaaDoorW9
import Derived.Test.YtlknhjibadbeeaaDoorW11
import Derived.Test.YtlknhjibadbeeaaDoorM3
namespace Go.Proofs.YtlknhjibadbeeaaDoor
open Go.RowKit

attribute [local go_sem] ba_get ba_append

theorem ownOk_var (n : Int) (nm : By) (len : Nat) : ownOk 1 n nm len = (decide (0 ≤ n) && decide (n ≤ 25) && nm.isEmpty && decide ((len : Int) = 0)) := by
  unfold ownOk; rw [if_pos rfl]; cases nm <;> simp
theorem ownOk_int (n : Int) (nm : By) (len : Nat) : ownOk 2 n nm len = (decide (-999 ≤ n) && decide (n ≤ 999) && nm.isEmpty && decide ((len : Int) = 0)) := by
  unfold ownOk; rw [if_neg (by decide), if_pos rfl]; cases nm <;> simp
theorem ownOk_struct (n : Int) (nm : By) (len : Nat) : ownOk 3 n nm len = (decide (n = 0) && nameOk nm && decide ((len : Int) ≤ 4)) := by
  unfold ownOk; rw [if_neg (by decide), if_neg (by decide), if_pos rfl, Bool.eq_iff_iff]; simp; omega
theorem ownOk_no (k n : Int) (nm : By) (len : Nat) (h1 : k ≠ 1) (h2 : k ≠ 2) (h3 : k ≠ 3) : ownOk k n nm len = false := by
  unfold ownOk; rw [if_neg h1, if_neg h2, if_neg h3]

set_option maxRecDepth 100000 in
set_option maxHeartbeats 1000000 in
theorem l1Own_any (k n : Int) (nm : By) (w : World) (a : Option Addr) (m c : Nat) (hl : nm.length ≤ 1048576) (_hm : m ≤ 1048576) :
    Calls Tryd.prog 95 #[.agg #[.int .i64 k, .int .i64 n, .string ⟨nm.toArray⟩, .slice a m c]] w fun e w' => e = .returned (.bool (ownOk k n nm m)) ∧ Below w.heap.size w w' := by
  by_cases c1 : k = 1
  · subst c1
    have HE := Lib.hid (ownOk_var n nm m)
    go_enter Tryd.func95, Tryd.ntmps95
    go_wp2_with fail
    all_goals go_ret
    all_goals exact ⟨ret_bool (by rw [HE.out]; clear HE; first | (simp [*]; done) | (simp_all; done) | (rw [Bool.eq_iff_iff]; simp [*]; try omega)), bal0 _ _⟩
  by_cases c2 : k = 2
  · subst c2
    have HE := Lib.hid (ownOk_int n nm m)
    go_enter Tryd.func95, Tryd.ntmps95
    go_wp2_with fail
    all_goals go_ret
    all_goals exact ⟨ret_bool (by rw [HE.out]; clear HE; first | (simp [*]; done) | (simp_all; done) | (rw [Bool.eq_iff_iff]; simp [*]; try omega)), bal0 _ _⟩
  by_cases c3 : k = 3
  · subst c3
    have HE := Lib.hid (ownOk_struct n nm m)
    by_cases hn : n = 0
    · have hn' : (n == 0) = true := by simpa using hn
      have HN := Lib.hid hn; clear hn
      go_enter Tryd.func95, Tryd.ntmps95
      go_wp2_with fail
      refine (specNameValid_any _ _ (by omega)).mono ?_
      rintro e w1 ⟨rfl, hb1⟩
      obtain ⟨hc1, hf1⟩ := bcell hb1
      have hz1 := bsz w.heap.size hb1 (by simp)
      cases hq : nameOk nm
      · have HQ := Lib.hid hq; clear hq
        go_wp2_with fail
        go_ret
        exact ⟨ret_bool (by rw [HE.out, HQ.out]; simp), bnext (bal0 _ _) hb1⟩
      · have HQ := Lib.hid hq; clear hq
        go_wp2_with fail
        go_ret
        exact ⟨ret_bool (by rw [HE.out, HQ.out, HN.out]; simp), bnext (bal0 _ _) hb1⟩
    · have hn' : (n == 0) = false := by simpa using hn
      have HN := Lib.hid hn; clear hn
      go_enter Tryd.func95, Tryd.ntmps95
      go_wp2_with fail
      go_ret
      exact ⟨ret_bool (by rw [HE.out]; simp [HN.out]), bal0 _ _⟩
  have HE := Lib.hid (ownOk_no k n nm m c1 c2 c3)
  have d1 : (k == 1) = false := by simpa using c1
  have d2 : (k == 2) = false := by simpa using c2
  have d3 : (k == 3) = false := by simpa using c3
  clear c1 c2 c3
  go_enter Tryd.func95, Tryd.ntmps95
  go_wp2_with fail
  go_ret
  exact ⟨ret_bool HE.out.symm, bal0 _ _⟩

theorem shape_eq (k n : Int) (nm : By) (ks : List Tm) (d : Nat) : shape (.mk k n nm ks) d = (decide (1 ≤ d) && ownOk k n nm ks.length && ks.all fun t => shape t (d - 1)) := by
  simp only [shape, shapes_all]

/-- l1Shape, for terms of at most N nodes -/
def Shp (N : Nat) : Prop := ∀ (S : Nat → Prop) (k n : Int) (nm : By) (ks : List Tm) (w : World) (a : Option Addr) (m c : Nat) (d : Int), nodes (.mk k n nm ks) ≤ N → N ≤ 1048576 → namesLe (.mk k n nm ks) 1048576 = true → TmSl S w ks a m → -10000000 ≤ d → d ≤ 10000000 →
  Calls Tryd.prog 63 #[.agg #[.int .i64 k, .int .i64 n, .string ⟨nm.toArray⟩, .slice a m c], .int .i64 d] w fun e w' => e = .returned (.bool (shape (.mk k n nm ks) d.toNat)) ∧ Below w.heap.size w w'

set_option maxRecDepth 100000 in
set_option maxHeartbeats 1000000 in
theorem l1Shape_of (N : Nat) (ih : Shp N) : Shp (N + 1) := by
  intro S k n nm ks w a m c d hN hN2 hnm h hd1 hd2
  have IH := Lib.hid ih; clear ih
  simp only [nodes] at hN
  simp only [namesLe, Bool.and_eq_true, decide_eq_true_eq] at hnm
  obtain ⟨hn1, hn2⟩ := hnm
  have hlen := nodesL_len ks
  have hm : m ≤ 1048576 := by have := h.1; omega
  have HE := Lib.hid (shape_eq k n nm ks d.toNat)
  have HML := Lib.hid h.1
  have H := Lib.hid h; clear h
  have HN := Lib.hid hn2; clear hn2
  by_cases hd : d < 1
  · go_enter Tryd.func63, Tryd.ntmps63
    go_wp2_with fail
    go_ret
    exact ⟨ret_bool (by rw [HE.out]; simp; intro h; omega), bal0 _ _⟩
  cases hq : ownOk k n nm m
  · have HQ := Lib.hid hq; clear hq
    go_enter Tryd.func63, Tryd.ntmps63
    go_wp2_with fail
    refine (l1Own_any _ _ _ _ _ _ _ hn1 hm).mono ?_
    rintro e w1 ⟨rfl, hb1⟩
    rw [HQ.out]
    go_wp2_with fail
    go_ret
    exact ⟨ret_bool (by rw [HE.out, ← HML.out, HQ.out]; simp), bnext (bal0 _ _) hb1⟩
  have HQ := Lib.hid hq; clear hq
  go_enter Tryd.func63, Tryd.ntmps63
  go_wp2_with fail
  refine (l1Own_any _ _ _ _ _ _ _ hn1 hm).mono ?_
  rintro e w1 ⟨rfl, hb1⟩
  rw [HQ.out]
  have HB1 := Lib.hid (bnext (bal0 _ _) hb1)
  obtain ⟨hc1, hf1⟩ := bcell hb1
  have hz1 := bsz w.heap.size hb1 (by simp)
  have hk3 : w1.cell? ⟨w.heap.size, 3, none⟩ = some (.slice a m c) := by rw [hc1 _ _ (by simp)]; simp
  have H1 := Lib.hid (H.out.below HB1.out)
  clear hc1 hf1 hb1
  go_wp2_with fail
  go_loopw [5] (fun j wr => ∃ k : Nat, k ≤ m ∧ j = .int .i64 k ∧ Below w1.heap.size w1 wr ∧ Hid ((ks.take k).all (fun t => shape t (d.toNat - 1)) = true)) (fun i _ => m - (intOf i).toNat)
  case atStart => exact ⟨0, Nat.zero_le _, rfl, Below.refl _ _, Lib.hid (by simp)⟩
  case round =>
    obtain ⟨i, hi, rfl, hb, HA⟩ := hrel
    have hq3 : wr.cell? ⟨w.heap.size, 3, none⟩ = some (.slice a m c) := (hb.cell (p := ⟨w.heap.size, 3, none⟩) hz1).trans hk3
    by_cases hlt : i < m
    · have hlx : i < ks.length := by rw [← H1.out.1]; exact hlt
      obtain ⟨b, o, rfl, hb0, -, hr⟩ := H1.out.2 (by omega)
      obtain ⟨c0, c1, c2, a', n', c', c3, hs⟩ := rowAt_get (rowAt_below hb hb0 hr) i hlx
      have HS := Lib.hid hs
      clear hr hs
      have hmem := nodes_mem (List.getElem_mem hlx)
      have hmem' : nodes (.mk ks[i].kind ks[i].n ks[i].name ks[i].kids) ≤ N := by rw [show Tm.mk ks[i].kind ks[i].n ks[i].name ks[i].kids = ks[i] by cases ks[i]; rfl]; omega
      have HNK := Lib.hid (show namesLe (.mk ks[i].kind ks[i].n ks[i].name ks[i].kids) 1048576 = true by rw [show Tm.mk ks[i].kind ks[i].n ks[i].name ks[i].kids = ks[i] by cases ks[i]; rfl]; exact namesLeL_mem HN.out (List.getElem_mem hlx))
      clear hmem
      go_wp2_with fail
      refine (IH.out S _ _ _ ks[i].kids _ _ _ _ _ hmem' (by omega) HNK.out HS.out (by omega) (by omega)).mono ?_
      rintro e w2 ⟨rfl, hb2⟩
      rw [show Tm.mk ks[i].kind ks[i].n ks[i].name ks[i].kids = ks[i] by cases ks[i]; rfl, show (d - 1).toNat = d.toNat - 1 by omega]
      cases hsh : shape ks[i] (d.toNat - 1)
      · have HF := Lib.hid (all_noS (fun t => shape t (d.toNat - 1)) ks i hlx hsh)
        clear hsh
        go_wp2_with fail
        go_ret
        exact ⟨ret_bool (by rw [HE.out, HF.out]; simp), HB1.out.trans ((bnext hb hb2).mono HB1.out.size)⟩
      · have HF := Lib.hid (all_takeS (fun t => shape t (d.toNat - 1)) ks i hlx HA.out hsh)
        clear hsh
        go_wp2_with fail
        go_roundw
        case rel => exact ⟨i + 1, by omega, by go_num, bnext hb hb2, HF⟩
        case measure => simp [intOf]; omega
    · have HF := Lib.hid (all_fullS (fun t => shape t (d.toNat - 1)) ks i (by rw [← H1.out.1]; omega) HA.out)
      go_wp2_with fail
      go_ret
      exact ⟨ret_bool (by rw [HE.out, HF.out, ← HML.out, HQ.out]; simp; omega), HB1.out.trans (hb.mono HB1.out.size)⟩

theorem l1Shape_all : ∀ N, Shp N
  | 0 => by intro S k n nm ks w a m c d hN; simp [nodes] at hN
  | N + 1 => l1Shape_of N (l1Shape_all N)
end Go.Proofs.YtlknhjibadbeeaaDoor
