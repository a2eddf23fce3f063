/- Walks of the reference's functions that say what is valid, second part. -/
import Derived.Test.YtlknhjibadbeeaaDoorW12
namespace Go.Proofs.YtlknhjibadbeeaaDoor
open Go.RowKit

attribute [local go_sem] ba_get ba_append

theorem nodesL_take (ks : List Tm) (i : Nat) (h : i < ks.length) : nodesL (ks.take (i + 1)) = nodesL (ks.take i) + nodes ks[i] := by
  rw [List.take_succ_eq_append_getElem h, nodesL_append]; simp [nodesL]
theorem nodesL_take_le (ks : List Tm) (i : Nat) : nodesL (ks.take i) ≤ nodesL ks := by
  have h := nodesL_append (ks.take i) (ks.drop i)
  rw [List.take_append_drop] at h
  omega

/-- l1Count, for terms of at most N nodes -/
def Cnt (N : Nat) : Prop := ∀ (S : Nat → Prop) (k n : Int) (nm : By) (ks : List Tm) (w : World) (a : Option Addr) (m c : Nat) (most : Int), nodes (.mk k n nm ks) ≤ N → N ≤ 1048576 → TmSl S w ks a m → -10000000 ≤ most → most ≤ 10000000 →
  Calls Tryd.prog 64 #[.agg #[.int .i64 k, .int .i64 n, .string ⟨nm.toArray⟩, .slice a m c], .int .i64 most] w fun e w' => (∃ r : Int, e = .returned (.int .i64 r) ∧ 1 ≤ r ∧ r ≤ nodes (.mk k n nm ks) ∧ (r ≤ most → r = nodes (.mk k n nm ks)) ∧ ((nodes (.mk k n nm ks) : Int) ≤ most → r = nodes (.mk k n nm ks))) ∧ Below w.heap.size w w'

set_option maxRecDepth 100000 in
set_option maxHeartbeats 1000000 in
theorem l1Count_of (N : Nat) (ih : Cnt N) : Cnt (N + 1) := by
  intro S k n nm ks w a m c most hN hN2 h hd1 hd2
  have IH := Lib.hid ih; clear ih
  simp only [nodes] at hN ⊢
  have hlen := nodesL_len ks
  have hm : m ≤ 1048576 := by have := h.1; omega
  have HML := Lib.hid h.1
  have H := Lib.hid h; clear h
  go_enter Tryd.func64, Tryd.ntmps64
  go_wp2_with fail
  have hk3 : (w.alloc (.cells #[.int .i64 k, .int .i64 n, .string ⟨nm.toArray⟩, .slice a m c] 41)).cell? ⟨w.heap.size, 3, none⟩ = some (.slice a m c) := by simp
  obtain ⟨W, hW⟩ : ∃ W, W = w.alloc (.cells #[.int .i64 k, .int .i64 n, .string ⟨nm.toArray⟩, .slice a m c] 41) := ⟨_, rfl⟩
  have HB1 := Lib.hid (show Below w.heap.size w W by rw [hW]; exact bal0 _ _)
  have H1 := Lib.hid (H.out.below HB1.out)
  have hz1 : w.heap.size < W.heap.size := by rw [hW]; simp
  rw [← hW] at hk3 ⊢
  clear hW
  go_loopw [5, 6] (fun s j wr => ∃ i : Nat, i ≤ m ∧ j = .int .i64 i ∧ Below W.heap.size W wr ∧ ∃ n : Int, s = .int .i64 n ∧ 1 ≤ n ∧ n ≤ 1 + nodesL (ks.take i) ∧ (n ≤ most → n = 1 + nodesL (ks.take i)) ∧ ((1 + nodesL (ks.take i) : Int) ≤ most → n = 1 + nodesL (ks.take i))) (fun _ i _ => m - (intOf i).toNat)
  case atStart => exact ⟨0, Nat.zero_le _, rfl, Below.refl _ _, 1, rfl, by omega, by simp [nodesL], by simp [nodesL], by simp [nodesL]⟩
  case round =>
    obtain ⟨i, hi, rfl, hb, n, rfl, hn1, hn2, hn3, hn4⟩ := hrel
    have hq3 : wr.cell? ⟨w.heap.size, 3, none⟩ = some (.slice a m c) := (hb.cell (p := ⟨w.heap.size, 3, none⟩) hz1).trans hk3
    have hle := nodesL_take_le ks i
    have HQ := Lib.hid (And.intro hn3 hn4)
    clear hn3 hn4
    by_cases hlt : i < m
    · have hlx : i < ks.length := by rw [← H1.out.1]; exact hlt
      by_cases hmost : n ≤ most
      · obtain ⟨b, o, rfl, hb0, -, hr⟩ := H1.out.2 (by omega)
        obtain ⟨c0, c1, c2, a', n', c', c3, hs⟩ := rowAt_get (rowAt_below hb hb0 hr) i hlx
        have HS := Lib.hid hs
        clear hr hs
        have hmem := nodes_mem (List.getElem_mem hlx)
        have hmem' : nodes (.mk ks[i].kind ks[i].n ks[i].name ks[i].kids) ≤ N := by rw [show Tm.mk ks[i].kind ks[i].n ks[i].name ks[i].kids = ks[i] by cases ks[i]; rfl]; omega
        have ht := nodesL_take ks i hlx
        have HT := Lib.hid ht; clear ht
        go_wp2_with fail
        refine (IH.out S _ _ _ ks[i].kids _ _ _ _ _ hmem' (by omega) HS.out (by omega) (by omega)).mono ?_
        rw [show Tm.mk ks[i].kind ks[i].n ks[i].name ks[i].kids = ks[i] by cases ks[i]; rfl]
        rintro e w2 ⟨⟨r, rfl, hr1, hr2, hr3, hr4⟩, hb2⟩
        have HR := Lib.hid (And.intro hr3 hr4)
        clear hr3 hr4
        go_wp2_with fail
        go_roundw
        case rel =>
          obtain ⟨q3, q4⟩ := HQ.out
          obtain ⟨r3, r4⟩ := HR.out
          have ht := HT.out
          exact ⟨i + 1, by omega, by go_num, bnext hb hb2, _, rfl, by omega, by omega, by omega, by omega⟩
        case measure => simp [intOf]; omega
      · go_wp2_with fail
        go_ret
        obtain ⟨q3, q4⟩ := HQ.out
        exact ⟨⟨_, rfl, by omega, by omega, by omega, by omega⟩, HB1.out.trans (hb.mono HB1.out.size)⟩
    · go_wp2_with fail
      go_ret
      obtain ⟨q3, q4⟩ := HQ.out
      have hfull : ks.take i = ks := List.take_of_length_le (by rw [← H1.out.1]; omega)
      rw [hfull] at q3 q4
      exact ⟨⟨_, rfl, by omega, by omega, by omega, by omega⟩, HB1.out.trans (hb.mono HB1.out.size)⟩

theorem l1Count_all : ∀ N, Cnt N
  | 0 => by intro S k n nm ks w a m c d hN; simp [nodes] at hN
  | N + 1 => l1Count_of N (l1Count_all N)

set_option maxRecDepth 100000 in
theorem specTermValid_any (S : Nat → Prop) (k n : Int) (nm : By) (ks : List Tm) (w : World) (a : Option Addr) (m c : Nat) (hN : nodes (.mk k n nm ks) ≤ 1048576) (hnm : namesLe (.mk k n nm ks) 1048576 = true) (h : TmSl S w ks a m) :
    Calls Tryd.prog 37 #[.agg #[.int .i64 k, .int .i64 n, .string ⟨nm.toArray⟩, .slice a m c]] w fun e w' => e = .returned (.bool (termOk (.mk k n nm ks))) ∧ Below w.heap.size w w' := by
  have HN := Lib.hid (And.intro hN hnm); clear hN hnm
  have H := Lib.hid h; clear h
  have HE := Lib.hid (show termOk (.mk k n nm ks) = (shape (.mk k n nm ks) 30 && decide (nodes (.mk k n nm ks) ≤ 120)) from rfl)
  go_enter Tryd.func37, Tryd.ntmps37
  go_wp2_with fail
  refine (l1Shape_all 1048576 S _ _ _ ks _ _ _ _ _ HN.out.1 (by omega) HN.out.2 (H.out.below (bal0 _ _)) (by omega) (by omega)).mono ?_
  rintro e w1 ⟨rfl, hb1⟩
  rw [show (30 : Int).toNat = 30 from rfl]
  obtain ⟨hc1, hf1⟩ := bcell hb1
  have hz1 := bsz w.heap.size hb1 (by simp)
  have HB1 := Lib.hid (bnext (bal0 _ _) hb1)
  cases hq : shape (.mk k n nm ks) 30
  · have HQ := Lib.hid hq; clear hq
    go_wp2_with fail
    go_ret
    exact ⟨ret_bool (by rw [HE.out, HQ.out]; rfl), HB1.out⟩
  · have HQ := Lib.hid hq; clear hq
    go_wp2_with fail
    refine (l1Count_all 1048576 S _ _ _ ks _ _ _ _ _ HN.out.1 (by omega) (H.out.below HB1.out) (by omega) (by omega)).mono ?_
    rintro e w2 ⟨⟨r, rfl, hr1, hr2, hr3, hr4⟩, hb2⟩
    have HR := Lib.hid (And.intro hr3 hr4)
    clear hr3 hr4
    go_wp2_with fail
    go_ret
    exact ⟨ret_bool (by rw [HE.out, HQ.out, Bool.eq_iff_iff]; obtain ⟨r3, r4⟩ := HR.out; simp; omega), bnext HB1.out hb2⟩
end Go.Proofs.YtlknhjibadbeeaaDoor
