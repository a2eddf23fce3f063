/- The walk of the law FnExactCandidates. -/
import Derived.Test.YtlknhjibadbeeaaDoorW38
namespace Go.Proofs.YtlknhjibadbeeaaDoor
open Go.RowKit Go.Deep

attribute [local go_sem] ba_get ba_append

set_option maxRecDepth 100000 in
set_option maxHeartbeats 4000000 in
theorem lawCandidates_any (S S' : Nat → Prop) (p : List Cl) (k n : Int) (nm : By) (ks : List Tm) (w : World) (a a' : Option Addr) (m c m' c' : Nat) (ht : Tb w) (h : ClSl S w p a m) (h' : TmSl S' w ks a' m')
    (hs : ∀ x ∈ p, ClSmall x) (hcl : clN p ≤ 1048576) (hN : nodes (.mk k n nm ks) ≤ 1048576) (hnm : namesLe (.mk k n nm ks) 1048576 = true) (hint : ∀ x ∈ ks, -9223372036854775808 ≤ x.n ∧ x.n ≤ 9223372036854775807) :
    Calls Tryd.prog 4 #[.slice a m c, .agg #[.int .i64 k, .int .i64 n, .string ⟨nm.toArray⟩, .slice a' m' c']] w fun e w' => e = .returned (.bool true) ∧ Below w.heap.size w w' := by
  have hm : m ≤ 1048576 := by have := h.1; have := clN_len p; omega
  have hlen := nodesL_len ks
  have hnk : nodes (.mk k n nm ks) = nodesL ks + 1 := rfl
  have hm2 : m' ≤ 1048576 := by have := h'.1; omega
  have hco : (candOut p (.mk k n nm ks)).length ≤ 1048576 := by
    rw [candOut_eq]
    have h1 := forOut_len p (.mk k n nm ks)
    have h2 := h.1
    exact Nat.le_trans (List.length_filter_le _ _) (by omega)
  have HC := Lib.hid (And.intro hcl (And.intro hN (And.intro hnm (And.intro hnk hco))))
  have HI := Lib.hid hint
  have H := Lib.hid h; clear h
  have H' := Lib.hid h'; clear h'
  have HT := Lib.hid ht; clear ht
  have HS := Lib.hid hs; clear hs
  clear hcl hN hnm hnk hint hlen hco
  go_enter Tryd.func4, Tryd.ntmps4
  go_wp2_with fail
  obtain ⟨W, hW⟩ : ∃ W, W = w.alloc (.cells #[.int .i64 k, .int .i64 n, .string ⟨nm.toArray⟩, .slice a' m' c'] 32) := ⟨_, rfl⟩
  have HB0 := Lib.hid (show Below w.heap.size w W by rw [hW]; exact bal0 _ _)
  have q0 : W.cell? ⟨w.heap.size, 0, none⟩ = some (.int .i64 k) := by rw [hW]; simp
  have q1 : W.cell? ⟨w.heap.size, 1, none⟩ = some (.int .i64 n) := by rw [hW]; simp
  have q2 : W.cell? ⟨w.heap.size, 2, none⟩ = some (.string ⟨nm.toArray⟩) := by rw [hW]; simp
  have q3 : W.cell? ⟨w.heap.size, 3, none⟩ = some (.slice a' m' c') := by rw [hW]; simp
  have z0 : w.heap.size < W.heap.size := by rw [hW]; simp
  rw [← hW]
  clear hW
  have HQ := Lib.hid (And.intro q0 (And.intro q1 (And.intro q2 q3)))
  clear q0 q1 q2 q3
  -- the box of the goal, wherever the walk has come to
  have HBox := Lib.hid (show ∀ V, Below W.heap.size W V → (V.cell? ⟨w.heap.size, 0, none⟩ = some (.int .i64 k) ∧ V.cell? ⟨w.heap.size, 1, none⟩ = some (.int .i64 n) ∧ V.cell? ⟨w.heap.size, 2, none⟩ = some (.string ⟨nm.toArray⟩) ∧ V.cell? ⟨w.heap.size, 3, none⟩ = some (.slice a' m' c')) from
    fun V hV => ⟨(hV.cell (p := ⟨w.heap.size, 0, none⟩) z0).trans HQ.out.1, (hV.cell (p := ⟨w.heap.size, 1, none⟩) z0).trans HQ.out.2.1, (hV.cell (p := ⟨w.heap.size, 2, none⟩) z0).trans HQ.out.2.2.1, (hV.cell (p := ⟨w.heap.size, 3, none⟩) z0).trans HQ.out.2.2.2⟩)
  -- the contracts, wherever the walk has come to
  have CToC := Lib.hid (show ∀ V, Below W.heap.size W V → _ from fun V hV => toClauseSM_any S p V a m c HS.out (H.out.below (bnext HB0.out hV)) hm)
  have CToT := Lib.hid (show ∀ V, Below W.heap.size W V → _ from fun V hV => (toTermM_all 1048576).1 S' k n nm ks V a' m' c' HC.out.2.1 (by omega) (H'.out.below (bnext HB0.out hV)))
  refine (szClauseS_any S p _ _ _ _ _ HS.out (H.out.below HB0.out) hm (by omega) (by omega)).mono ?_
  rintro e w1 ⟨⟨r, rfl, hr1, hr2⟩, hb1⟩
  by_cases hr : r < 0
  · have HB1 := Lib.hid (bnext HB0.out hb1)
    go_wp2_with fail
    go_ret
    exact ⟨rfl, HB1.out⟩
  have HB1 := Lib.hid hb1
  obtain ⟨b0, b1, b2, b3⟩ := HBox.out w1 HB1.out
  clear hb1
  go_wp2_with fail
  refine ((szTerm_all 1048576).1 S' k n nm ks _ _ _ _ _ HC.out.2.1 (by omega) HC.out.2.2.1 (H'.out.below (bnext HB0.out HB1.out)) (by omega) (by omega)).mono ?_
  rintro e w2 ⟨⟨r2, rfl, hr3, hr4⟩, hb2⟩
  by_cases hrr : r2 < 0
  · have HB2 := Lib.hid (bnext HB0.out (bnext HB1.out hb2))
    go_wp2_with fail
    go_ret
    exact ⟨rfl, HB2.out⟩
  have HB2 := Lib.hid (bnext HB1.out hb2)
  clear hb2 b0 b1 b2 b3 HB1
  obtain ⟨b0, b1, b2, b3⟩ := HBox.out w2 HB2.out
  have z2 := HB2.out.size
  go_wp2_with fail
  go_cut [6] from 14 (fun s6 wx => ∃ a5 n5 c5, s6 = .slice a5 n5 c5 ∧ IntSl (fun b => w2.heap.size ≤ b) wx (candOut p (.mk k n nm ks)) a5 n5 ∧ Below w2.heap.size w2 wx)
  case first =>
    have HW := HB2
    have HBa := Lib.hid (Below.refl w2.heap.size w2)
    go_region_with (first
      | (go_at_call 14; refine (CToC.out _ (bnext HW.out (by first | exact (Below.refl _ _) | exact (Below.refl _ _).drew | exact (Below.refl _ _).drew.drew | exact (Below.refl _ _).drew.drew.drew | exact (Below.refl _ _).drew.drew.drew.drew | exact HBa.out | exact HBa.out.drew | exact HBa.out.drew.drew | exact HBa.out.drew.drew.drew | exact HBa.out.drew.drew.drew.drew))).mono ?_; rintro e wa ⟨⟨rfl, hcs, -⟩, hba⟩; have HCa := Lib.hid hcs; have HTn := Lib.hid (HTa.out.below (by first | exact hba | exact bnext (Below.refl _ _).drew hba | exact bnext (Below.refl _ _).drew.drew hba | exact bnext (Below.refl _ _).drew.drew.drew hba | exact bnext (Below.refl _ _).drew.drew.drew.drew hba)); clear HTa; have HTa := HTn; clear HTn; have HBn := Lib.hid (show Below w2.heap.size w2 wa from bnext (by first | exact (Below.refl _ _) | exact (Below.refl _ _).drew | exact (Below.refl _ _).drew.drew | exact (Below.refl _ _).drew.drew.drew | exact (Below.refl _ _).drew.drew.drew.drew | exact HBa.out | exact HBa.out.drew | exact HBa.out.drew.drew | exact HBa.out.drew.drew.drew | exact HBa.out.drew.drew.drew.drew) hba); clear HBa; have HBa := HBn; clear HBn; obtain ⟨b0, b1, b2, b3⟩ := HBox.out _ (bnext HW.out HBa.out); clear hcs hba)
      | (go_at_call 14; refine (CToC.out _ (bnext HW.out (by first | exact (Below.refl _ _) | exact (Below.refl _ _).drew | exact (Below.refl _ _).drew.drew | exact (Below.refl _ _).drew.drew.drew | exact (Below.refl _ _).drew.drew.drew.drew | exact HBa.out | exact HBa.out.drew | exact HBa.out.drew.drew | exact HBa.out.drew.drew.drew | exact HBa.out.drew.drew.drew.drew))).mono ?_; rintro e wa ⟨⟨rfl, hcs, -⟩, hba⟩; have HCa := Lib.hid hcs; have HBn := Lib.hid (show Below w2.heap.size w2 wa from bnext (by first | exact (Below.refl _ _) | exact (Below.refl _ _).drew | exact (Below.refl _ _).drew.drew | exact (Below.refl _ _).drew.drew.drew | exact (Below.refl _ _).drew.drew.drew.drew | exact HBa.out | exact HBa.out.drew | exact HBa.out.drew.drew | exact HBa.out.drew.drew.drew | exact HBa.out.drew.drew.drew.drew) hba); clear HBa; have HBa := HBn; clear HBn; obtain ⟨b0, b1, b2, b3⟩ := HBox.out _ (bnext HW.out HBa.out); clear hcs hba)
      | (go_at_call 15; refine (CToT.out _ (bnext HW.out (by first | exact (Below.refl _ _) | exact (Below.refl _ _).drew | exact (Below.refl _ _).drew.drew | exact (Below.refl _ _).drew.drew.drew | exact (Below.refl _ _).drew.drew.drew.drew | exact HBa.out | exact HBa.out.drew | exact HBa.out.drew.drew | exact HBa.out.drew.drew.drew | exact HBa.out.drew.drew.drew.drew))).mono ?_; rintro e wb ⟨⟨a7, m7, c7, rfl, hts, -⟩, hbb⟩; have HTa := Lib.hid hts; have HCn := Lib.hid (HCa.out.below (by first | exact hbb | exact bnext (Below.refl _ _).drew hbb | exact bnext (Below.refl _ _).drew.drew hbb | exact bnext (Below.refl _ _).drew.drew.drew hbb | exact bnext (Below.refl _ _).drew.drew.drew.drew hbb)); clear HCa; have HCa := HCn; clear HCn; have HBn := Lib.hid (show Below w2.heap.size w2 wb from bnext (by first | exact (Below.refl _ _) | exact (Below.refl _ _).drew | exact (Below.refl _ _).drew.drew | exact (Below.refl _ _).drew.drew.drew | exact (Below.refl _ _).drew.drew.drew.drew | exact HBa.out | exact HBa.out.drew | exact HBa.out.drew.drew | exact HBa.out.drew.drew.drew | exact HBa.out.drew.drew.drew.drew) hbb); clear HBa; have HBa := HBn; clear HBn; obtain ⟨b0, b1, b2, b3⟩ := HBox.out _ (bnext HW.out HBa.out); clear hts hbb)
      | (go_at_call 15; refine (CToT.out _ (bnext HW.out (by first | exact (Below.refl _ _) | exact (Below.refl _ _).drew | exact (Below.refl _ _).drew.drew | exact (Below.refl _ _).drew.drew.drew | exact (Below.refl _ _).drew.drew.drew.drew | exact HBa.out | exact HBa.out.drew | exact HBa.out.drew.drew | exact HBa.out.drew.drew.drew | exact HBa.out.drew.drew.drew.drew))).mono ?_; rintro e wb ⟨⟨a7, m7, c7, rfl, hts, -⟩, hbb⟩; have HTa := Lib.hid hts; have HBn := Lib.hid (show Below w2.heap.size w2 wb from bnext (by first | exact (Below.refl _ _) | exact (Below.refl _ _).drew | exact (Below.refl _ _).drew.drew | exact (Below.refl _ _).drew.drew.drew | exact (Below.refl _ _).drew.drew.drew.drew | exact HBa.out | exact HBa.out.drew | exact HBa.out.drew.drew | exact HBa.out.drew.drew.drew | exact HBa.out.drew.drew.drew.drew) hbb); clear HBa; have HBa := HBn; clear HBn; obtain ⟨b0, b1, b2, b3⟩ := HBox.out _ (bnext HW.out HBa.out); clear hts hbb)
      | (go_at_call 13; refine (specCandidates_any _ _ p k n nm ks _ _ _ _ _ _ _ (HCa.out.below (by first | exact (Below.refl _ _) | exact (Below.refl _ _).drew | exact (Below.refl _ _).drew.drew | exact (Below.refl _ _).drew.drew.drew | exact (Below.refl _ _).drew.drew.drew.drew)) hm (HTa.out.below (by first | exact (Below.refl _ _) | exact (Below.refl _ _).drew | exact (Below.refl _ _).drew.drew | exact (Below.refl _ _).drew.drew.drew | exact (Below.refl _ _).drew.drew.drew.drew)) HS.out HC.out.2.1 HC.out.2.2.1).mono ?_; rintro e wd ⟨⟨a5, n5, c5, rfl, hI5⟩, hbd⟩; have HBd := Lib.hid (show Below w2.heap.size w2 wd from bnext (by first | exact (Below.refl _ _) | exact (Below.refl _ _).drew | exact (Below.refl _ _).drew.drew | exact (Below.refl _ _).drew.drew.drew | exact (Below.refl _ _).drew.drew.drew.drew | exact HBa.out | exact HBa.out.drew | exact HBa.out.drew.drew | exact HBa.out.drew.drew.drew | exact HBa.out.drew.drew.drew.drew) hbd); have HI5 := Lib.hid (show IntSl (fun b => w2.heap.size ≤ b) wd _ _ _ from hI5.mono (Nat.le_refl _) (fun b hb => Nat.le_trans HBa.out.size hb) (fun _ _ _ => rfl))))
    all_goals go_wp2_with fail
    all_goals go_meet
    all_goals exact ⟨_, _, _, rfl, HI5.out, HBd.out⟩

  case rest =>
    obtain ⟨a5, n5, c5, rfl, hI5, hb3⟩ := hcut
    obtain ⟨w3, rfl⟩ : ∃ x, x = wc := ⟨wc, rfl⟩
    have HI5 := Lib.hid hI5; clear hI5
    have hn5 : n5 ≤ 1048576 := by have := HI5.out.1; have := HC.out.2.2.2.2; omega
    have HB3 := Lib.hid (bnext HB2.out hb3); clear hb3 b0 b1 b2 b3
    obtain ⟨b0, b1, b2, b3⟩ := HBox.out w3 HB3.out
    have z3 := HB3.out.size
    go_wp2_with fail
    refine (CToC.out w3 HB3.out).mono ?_
    rintro e w4 ⟨⟨rfl, hcs4, hmc4⟩, hb4⟩
    have HX0 := Lib.hid hcs4; have HMX0 := Lib.hid hmc4
    have HS4 := Lib.hid hb4
    have HB4 := Lib.hid (bnext HB3.out hb4); clear hb4 hcs4 hmc4 b0 b1 b2 b3
    obtain ⟨b0, b1, b2, b3⟩ := HBox.out w4 HB4.out
    go_wp2_with fail
    refine (CToT.out w4 HB4.out).mono ?_
    rintro e w5 ⟨⟨a6, m6, c6, rfl, hts5, hmt5⟩, hb5⟩
    have HX1 := Lib.hid hts5; have HMX1 := Lib.hid hmt5
    have HS5 := Lib.hid hb5
    have HB5 := Lib.hid (bnext HB4.out hb5); clear hb5 hts5 hmt5 b0 b1 b2 b3
    go_wp2_with fail
    obtain ⟨W6, hW6⟩ : ∃ W6, W6 = w5.alloc (.cells #[.int .i64 k, .int .i64 n, .string ⟨nm.toArray⟩, .slice a6 m6 c6] 41) := ⟨_, rfl⟩
    have HS6 := Lib.hid (show Below w5.heap.size w5 W6 by rw [hW6]; exact bal0 _ _)
    have p0 : W6.cell? ⟨w5.heap.size, 0, none⟩ = some (.int .i64 k) := by rw [hW6]; simp
    have p1 : W6.cell? ⟨w5.heap.size, 1, none⟩ = some (.int .i64 n) := by rw [hW6]; simp
    have p2 : W6.cell? ⟨w5.heap.size, 2, none⟩ = some (.string ⟨nm.toArray⟩) := by rw [hW6]; simp
    have p3 : W6.cell? ⟨w5.heap.size, 3, none⟩ = some (.slice a6 m6 c6) := by rw [hW6]; simp
    have z6 : w5.heap.size < W6.heap.size := by rw [hW6]; simp
    rw [← hW6]
    clear hW6
    have HP := Lib.hid (And.intro p0 (And.intro p1 (And.intro p2 p3)))
    clear p0 p1 p2 p3
    have HBox2 := Lib.hid (show ∀ V, Below W6.heap.size W6 V → (V.cell? ⟨w5.heap.size, 0, none⟩ = some (.int .i64 k) ∧ V.cell? ⟨w5.heap.size, 1, none⟩ = some (.int .i64 n) ∧ V.cell? ⟨w5.heap.size, 2, none⟩ = some (.string ⟨nm.toArray⟩) ∧ V.cell? ⟨w5.heap.size, 3, none⟩ = some (.slice a6 m6 c6)) from
      fun V hV => ⟨(hV.cell (p := ⟨w5.heap.size, 0, none⟩) z6).trans HP.out.1, (hV.cell (p := ⟨w5.heap.size, 1, none⟩) z6).trans HP.out.2.1, (hV.cell (p := ⟨w5.heap.size, 2, none⟩) z6).trans HP.out.2.2.1, (hV.cell (p := ⟨w5.heap.size, 3, none⟩) z6).trans HP.out.2.2.2⟩)
    have HB6 := Lib.hid (bnext HB5.out HS6.out)
    have HS46 := Lib.hid (bnext HS5.out HS6.out)
    have CCand := Lib.hid (show ∀ (V : World) (S1 S2 : Nat → Prop) (x y : Option Addr) (u v s t : Nat), Below W.heap.size W V → ClSl S1 V p x u → u ≤ 1048576 → TmSl S2 V ks y s → _ from fun V S1 S2 x y u v s t hV h1 h2 h3 => implCandidates_any S1 S2 p k n nm ks V x y u v s t (HT.out.below (bnext HB0.out hV)) h1 h2 h3 HS.out HC.out.2.1 HC.out.2.2.1 HI.out)
    refine (CCand.out W6 _ _ _ _ m m m6 c6 HB6.out (HX0.out.below HS46.out) hm (HX1.out.below HS6.out)).mono ?_
    rintro e w7 ⟨⟨a7, n7, c7, rfl, hI7, hnf7⟩, hb7⟩
    obtain rfl : n7 = n5 := by rw [hI7.1, HI5.out.1]
    have HI7 := Lib.hid hI7; have HNF := Lib.hid hnf7
    have HS7 := Lib.hid hb7
    have HB7 := Lib.hid (bnext HB6.out hb7); clear hb7 hI7 hnf7
    have HB37 := Lib.hid (bnext HS4.out (bnext HS46.out HS7.out))
    go_wp2_with fail
    refine (eqIntS_any _ _ _ _ _ _ _ _ _ hn5 HI7.out (HI5.out.below HB37.out)).mono ?_
    rintro e w8 ⟨rfl, hb8⟩
    have HS8 := Lib.hid (bnext HS7.out hb8)
    have HB8 := Lib.hid (bnext HB7.out hb8)
    have HJ8 := Lib.hid hb8; clear hb8
    go_wp2_with fail
    refine (CToC.out w8 HB8.out).mono ?_
    rintro e w9 ⟨⟨rfl, hcs9, -⟩, hb9⟩
    have HX9 := Lib.hid hcs9
    have HS9 := Lib.hid (bnext HS8.out hb9)
    have HB9 := Lib.hid (bnext HB8.out hb9)
    have HJ9 := Lib.hid (bnext HJ8.out hb9); clear hb9 hcs9
    go_wp2_with fail
    refine (eqClauseS_any _ _ p _ _ _ _ _ _ HS.out (HX0.out.below (bnext HS46.out HS9.out)) HX9.out hm).mono ?_
    rintro e w10 ⟨rfl, hb10⟩
    have HS10 := Lib.hid (bnext HS9.out hb10)
    have HB10 := Lib.hid (bnext HB9.out hb10)
    have HJ10 := Lib.hid (bnext HJ9.out hb10); clear hb10
    obtain ⟨b0, b1, b2, b3⟩ := HBox.out w10 HB10.out
    obtain ⟨d0, d1, d2, d3⟩ := HBox2.out w10 HS10.out
    go_wp2_with fail
    go_cut [49] from 14 (fun s wx => s = .bool false ∧ Below w10.heap.size w10 wx)
    case first =>
      have HW := HB10
      have HBa := Lib.hid (Below.refl w10.heap.size w10)
      go_region_with (first
        | (go_at_call 15; refine (CToT.out _ (bnext HW.out (by first | exact (Below.refl _ _) | exact (Below.refl _ _).drew | exact (Below.refl _ _).drew.drew | exact (Below.refl _ _).drew.drew.drew | exact (Below.refl _ _).drew.drew.drew.drew | exact HBa.out | exact HBa.out.drew | exact HBa.out.drew.drew | exact HBa.out.drew.drew.drew | exact HBa.out.drew.drew.drew.drew))).mono ?_; rintro e wb ⟨⟨a8, m8, c8, rfl, hts, -⟩, hbb⟩; have HTa := Lib.hid hts; have HBn := Lib.hid (show Below w10.heap.size w10 wb from bnext (by first | exact (Below.refl _ _) | exact (Below.refl _ _).drew | exact (Below.refl _ _).drew.drew | exact (Below.refl _ _).drew.drew.drew | exact (Below.refl _ _).drew.drew.drew.drew | exact HBa.out | exact HBa.out.drew | exact HBa.out.drew.drew | exact HBa.out.drew.drew.drew | exact HBa.out.drew.drew.drew.drew) hbb); clear HBa; have HBa := HBn; clear HBn; obtain ⟨b0, b1, b2, b3⟩ := HBox.out _ (bnext HW.out HBa.out); obtain ⟨d0, d1, d2, d3⟩ := HBox2.out _ (bnext HS10.out HBa.out); clear hts hbb)
        | (go_at_call 19; refine ((eqTerm_all 1048576).1 _ _ k n nm ks _ _ _ _ _ _ _ HC.out.2.1 (by omega) (HX1.out.below (bnext HS6.out (bnext HS10.out (by first | exact (Below.refl _ _) | exact (Below.refl _ _).drew | exact (Below.refl _ _).drew.drew | exact (Below.refl _ _).drew.drew.drew | exact (Below.refl _ _).drew.drew.drew.drew | exact HBa.out | exact HBa.out.drew | exact HBa.out.drew.drew | exact HBa.out.drew.drew.drew | exact HBa.out.drew.drew.drew.drew)))) (HTa.out.below (by first | exact (Below.refl _ _) | exact (Below.refl _ _).drew | exact (Below.refl _ _).drew.drew | exact (Below.refl _ _).drew.drew.drew | exact (Below.refl _ _).drew.drew.drew.drew))).mono ?_; rintro e wd ⟨rfl, hbd⟩; have HBd := Lib.hid (show Below w10.heap.size w10 wd from bnext (by first | exact (Below.refl _ _) | exact (Below.refl _ _).drew | exact (Below.refl _ _).drew.drew | exact (Below.refl _ _).drew.drew.drew | exact (Below.refl _ _).drew.drew.drew.drew | exact HBa.out | exact HBa.out.drew | exact HBa.out.drew.drew | exact HBa.out.drew.drew.drew | exact HBa.out.drew.drew.drew.drew) hbd)))
      all_goals go_wp2_with fail
      all_goals go_meet
      all_goals exact ⟨rfl, HBd.out⟩
    case rest =>
      obtain ⟨rfl, hb11⟩ := hcut
      have HS11 := Lib.hid (bnext HS10.out hb11)
      have HB11 := Lib.hid (bnext HB10.out hb11)
      have HJ11 := Lib.hid (bnext HJ10.out hb11); clear hb11 b0 b1 b2 b3 d0 d1 d2 d3
      obtain ⟨w11, rfl⟩ : ∃ x, x = wc := ⟨wc, rfl⟩
      have HS4b := Lib.hid (bnext HS46.out HS11.out)
      go_wp2_with fail
      refine (markClauseS_any w3.heap.size w4.heap.size p w11 _ m m 1 HC.out.1 (HMX0.out.keep HS4b.out) (by omega) (by have := HC.out.1; omega)).mono ?_
      rintro e w12 ⟨⟨k1, rfl, hk1, hk2⟩, hM12⟩
      have HM12 := Lib.hid hM12; clear hM12
      have z11 := HS11.out.size
      have z46 := HS46.out.size
      have z56 := HS6.out.size
      have z34 := HS4.out.size
      have z45 := HS5.out.size
      have z12 := HM12.out.keep.size
      have hblk : w12.heap[w5.heap.size]? = w11.heap[w5.heap.size]? := HM12.out.block _ (.inr z45) (by omega)
      obtain ⟨d0, d1, d2, d3⟩ := HBox2.out w11 HS11.out
      have f0 := (World.cell?_of_block (w := w11) (a := ⟨w5.heap.size, 0, none⟩) hblk).trans d0
      have f1 := (World.cell?_of_block (w := w11) (a := ⟨w5.heap.size, 1, none⟩) hblk).trans d1
      have f2 := (World.cell?_of_block (w := w11) (a := ⟨w5.heap.size, 2, none⟩) hblk).trans d2
      have f3 := (World.cell?_of_block (w := w11) (a := ⟨w5.heap.size, 3, none⟩) hblk).trans d3
      clear hblk d0 d1 d2 d3
      have hkb : k1 ≤ 4000000 := by have := HC.out.1; omega
      go_wp2_with fail
      refine (markTerm_any w4.heap.size w5.heap.size k n nm ks w12 a6 m6 c6 k1 (by have h1 := HC.out.2.1; have h2 := HC.out.2.2.2.1; omega) ((HMX1.out.keep (Keep.of_below (bnext HS6.out HS11.out)) (Nat.le_refl _) (Nat.le_refl _)).keep (Keep.of_blocks z12 (fun b hb hlt => HM12.out.block b (.inr hb) hlt)) (Nat.le_refl _) (Nat.le_refl _)) (by omega) (by have h1 := HC.out.2.1; have h2 := HC.out.2.2.2.1; omega)).mono ?_
      rintro e w13 ⟨⟨k2, rfl, hk3⟩, hM13⟩
      have HM13 := Lib.hid hM13; clear hM13 f0 f1 f2 f3
      have z13 := HM13.out.keep.size
      have z7 := HJ11.out.size
      have HB311 := Lib.hid (bnext HS4.out HS4b.out)
      have HK1 := Lib.hid (show ∀ b, b < w3.heap.size → w13.heap[b]? = w3.heap[b]? from fun b hb =>
        ((HM13.out.block b (.inl (by omega)) (by omega)).trans (HM12.out.block b (.inl hb) (by omega))).trans (HB311.out.block b hb))
      have HK2 := Lib.hid (show ∀ b, W6.heap.size ≤ b → b < w7.heap.size → w13.heap[b]? = w7.heap[b]? from fun b hb hb2 =>
        ((HM13.out.block b (.inr (by omega)) (by omega)).trans (HM12.out.block b (.inr (by omega)) (by omega))).trans (HJ11.out.block b hb2))
      have HB313 := Lib.hid (show Below w3.heap.size w3 w13 from ⟨(HM13.out.os.trans HM12.out.os).trans HB311.out.os, (HM13.out.tape.trans HM12.out.tape).trans HB311.out.tape, (HM13.out.output.trans HM12.out.output).trans HB311.out.output, Nat.le_trans HB311.out.size (by omega), HK1.out⟩)
      have HI13 := Lib.hid (HI7.out.mono (S' := fun b => W6.heap.size ≤ b) (w' := w13) (by omega) (fun b hb => hb) (fun b hb hlt => HK2.out b hb hlt))
      have HNF13 := Lib.hid (show NFz w13 a7 n7 from fun b o i hab hi => by
        obtain ⟨b', o', hab', hlt, hS, -⟩ := HI7.out.2 (by omega)
        rw [hab] at hab'
        simp only [Option.some.injEq, Addr.mk.injEq, and_true] at hab'
        obtain ⟨rfl, rfl⟩ := hab'
        exact (World.frozen?_of_block (HK2.out b hS hlt)).trans (HNF.out b o i hab hi))
      have hk2n : ¬ k2 < 0 := by omega
      go_wp2_with fail
      refine (eqIntS_any _ _ _ _ _ _ _ _ _ hn5 HI13.out (HI5.out.below HB313.out)).mono ?_
      rintro e w14 ⟨rfl, hb14⟩
      have HB14 := Lib.hid hb14; clear hb14
      go_wp2_with fail
      refine (markIntS_any _ _ w14 a7 n7 c7 1 hn5 (by omega) (by omega) (HI13.out.below HB14.out) (fun b o i hab hi => by
        obtain ⟨b', o', hab', hlt, hS, -⟩ := HI13.out.2 (by omega)
        rw [hab] at hab'
        simp only [Option.some.injEq, Addr.mk.injEq, and_true] at hab'
        obtain ⟨rfl, rfl⟩ := hab'
        exact (HB14.out.frozen (p := ⟨b, o + i, none⟩) hlt).trans (HNF13.out b o i hab hi))).mono ?_
      rintro e w15 ⟨rfl, hheld, hgr⟩
      have HH := Lib.hid hheld
      have hb315 : Below w3.heap.size w3 w15 := by
        have hb := bnext HB313.out HB14.out
        by_cases h0 : n7 = 0
        · exact grown_below hb (hgr w14.heap.size (.inl h0)) hb.size
        · obtain ⟨b', o', hab', hlt, hS, -⟩ := HI13.out.2 (by omega)
          exact grown_below hb (hgr b' (.inr ⟨o', hab'⟩)) (by show w3.heap.size ≤ b'; have : W6.heap.size ≤ b' := hS; omega)
      have HB315 := Lib.hid hb315
      clear hheld hgr hb315
      go_wp2_with fail
      refine (heldIntS_any w15 a7 n7 c7 1 hn5 (by omega) (by omega) HH.out).mono ?_
      rintro e w16 ⟨rfl, hb16⟩
      have HH16 := Lib.hid (HH.out.below hb16)
      have HB316 := Lib.hid (bnext HB315.out hb16); clear hb16
      have HB16 := Lib.hid (bnext HB3.out HB316.out)
      obtain ⟨b0, b1, b2, b3⟩ := HBox.out w16 HB16.out
      go_wp2_with fail
      go_cut [13] from 14 (fun s wx => ∃ a8 c8, s = .slice a8 n7 c8 ∧ IntSl (fun b => w16.heap.size ≤ b) wx (candOut p (.mk k n nm ks)) a8 n7 ∧ Below w16.heap.size w16 wx)
      case first =>
        have HW := HB16
        have HBa := Lib.hid (Below.refl w16.heap.size w16)
        go_region_with (first
          | (go_at_call 14; refine (CToC.out _ (bnext HW.out (by first | exact (Below.refl _ _) | exact (Below.refl _ _).drew | exact (Below.refl _ _).drew.drew | exact (Below.refl _ _).drew.drew.drew | exact (Below.refl _ _).drew.drew.drew.drew | exact HBa.out | exact HBa.out.drew | exact HBa.out.drew.drew | exact HBa.out.drew.drew.drew | exact HBa.out.drew.drew.drew.drew))).mono ?_; rintro e wa ⟨⟨rfl, hcs, -⟩, hba⟩; have HCa := Lib.hid hcs; have HTn := Lib.hid (HTa.out.below (by first | exact hba | exact bnext (Below.refl _ _).drew hba | exact bnext (Below.refl _ _).drew.drew hba | exact bnext (Below.refl _ _).drew.drew.drew hba | exact bnext (Below.refl _ _).drew.drew.drew.drew hba)); clear HTa; have HTa := HTn; clear HTn; have HBn := Lib.hid (show Below w16.heap.size w16 wa from bnext (by first | exact (Below.refl _ _) | exact (Below.refl _ _).drew | exact (Below.refl _ _).drew.drew | exact (Below.refl _ _).drew.drew.drew | exact (Below.refl _ _).drew.drew.drew.drew | exact HBa.out | exact HBa.out.drew | exact HBa.out.drew.drew | exact HBa.out.drew.drew.drew | exact HBa.out.drew.drew.drew.drew) hba); clear HBa; have HBa := HBn; clear HBn; obtain ⟨b0, b1, b2, b3⟩ := HBox.out _ (bnext HW.out HBa.out); clear hcs hba)
          | (go_at_call 14; refine (CToC.out _ (bnext HW.out (by first | exact (Below.refl _ _) | exact (Below.refl _ _).drew | exact (Below.refl _ _).drew.drew | exact (Below.refl _ _).drew.drew.drew | exact (Below.refl _ _).drew.drew.drew.drew | exact HBa.out | exact HBa.out.drew | exact HBa.out.drew.drew | exact HBa.out.drew.drew.drew | exact HBa.out.drew.drew.drew.drew))).mono ?_; rintro e wa ⟨⟨rfl, hcs, -⟩, hba⟩; have HCa := Lib.hid hcs; have HBn := Lib.hid (show Below w16.heap.size w16 wa from bnext (by first | exact (Below.refl _ _) | exact (Below.refl _ _).drew | exact (Below.refl _ _).drew.drew | exact (Below.refl _ _).drew.drew.drew | exact (Below.refl _ _).drew.drew.drew.drew | exact HBa.out | exact HBa.out.drew | exact HBa.out.drew.drew | exact HBa.out.drew.drew.drew | exact HBa.out.drew.drew.drew.drew) hba); clear HBa; have HBa := HBn; clear HBn; obtain ⟨b0, b1, b2, b3⟩ := HBox.out _ (bnext HW.out HBa.out); clear hcs hba)
          | (go_at_call 15; refine (CToT.out _ (bnext HW.out (by first | exact (Below.refl _ _) | exact (Below.refl _ _).drew | exact (Below.refl _ _).drew.drew | exact (Below.refl _ _).drew.drew.drew | exact (Below.refl _ _).drew.drew.drew.drew | exact HBa.out | exact HBa.out.drew | exact HBa.out.drew.drew | exact HBa.out.drew.drew.drew | exact HBa.out.drew.drew.drew.drew))).mono ?_; rintro e wb ⟨⟨a7, m7, c7, rfl, hts, -⟩, hbb⟩; have HTa := Lib.hid hts; have HCn := Lib.hid (HCa.out.below (by first | exact hbb | exact bnext (Below.refl _ _).drew hbb | exact bnext (Below.refl _ _).drew.drew hbb | exact bnext (Below.refl _ _).drew.drew.drew hbb | exact bnext (Below.refl _ _).drew.drew.drew.drew hbb)); clear HCa; have HCa := HCn; clear HCn; have HBn := Lib.hid (show Below w16.heap.size w16 wb from bnext (by first | exact (Below.refl _ _) | exact (Below.refl _ _).drew | exact (Below.refl _ _).drew.drew | exact (Below.refl _ _).drew.drew.drew | exact (Below.refl _ _).drew.drew.drew.drew | exact HBa.out | exact HBa.out.drew | exact HBa.out.drew.drew | exact HBa.out.drew.drew.drew | exact HBa.out.drew.drew.drew.drew) hbb); clear HBa; have HBa := HBn; clear HBn; obtain ⟨b0, b1, b2, b3⟩ := HBox.out _ (bnext HW.out HBa.out); clear hts hbb)
          | (go_at_call 15; refine (CToT.out _ (bnext HW.out (by first | exact (Below.refl _ _) | exact (Below.refl _ _).drew | exact (Below.refl _ _).drew.drew | exact (Below.refl _ _).drew.drew.drew | exact (Below.refl _ _).drew.drew.drew.drew | exact HBa.out | exact HBa.out.drew | exact HBa.out.drew.drew | exact HBa.out.drew.drew.drew | exact HBa.out.drew.drew.drew.drew))).mono ?_; rintro e wb ⟨⟨a7, m7, c7, rfl, hts, -⟩, hbb⟩; have HTa := Lib.hid hts; have HBn := Lib.hid (show Below w16.heap.size w16 wb from bnext (by first | exact (Below.refl _ _) | exact (Below.refl _ _).drew | exact (Below.refl _ _).drew.drew | exact (Below.refl _ _).drew.drew.drew | exact (Below.refl _ _).drew.drew.drew.drew | exact HBa.out | exact HBa.out.drew | exact HBa.out.drew.drew | exact HBa.out.drew.drew.drew | exact HBa.out.drew.drew.drew.drew) hbb); clear HBa; have HBa := HBn; clear HBn; obtain ⟨b0, b1, b2, b3⟩ := HBox.out _ (bnext HW.out HBa.out); clear hts hbb)
          | (go_at_call 16; refine (CCand.out _ _ _ _ _ m m _ _ (bnext HW.out (by first | exact (Below.refl _ _) | exact (Below.refl _ _).drew | exact (Below.refl _ _).drew.drew | exact (Below.refl _ _).drew.drew.drew | exact (Below.refl _ _).drew.drew.drew.drew | exact HBa.out | exact HBa.out.drew | exact HBa.out.drew.drew | exact HBa.out.drew.drew.drew | exact HBa.out.drew.drew.drew.drew)) (HCa.out.below (by first | exact (Below.refl _ _) | exact (Below.refl _ _).drew | exact (Below.refl _ _).drew.drew | exact (Below.refl _ _).drew.drew.drew | exact (Below.refl _ _).drew.drew.drew.drew)) hm (HTa.out.below (by first | exact (Below.refl _ _) | exact (Below.refl _ _).drew | exact (Below.refl _ _).drew.drew | exact (Below.refl _ _).drew.drew.drew | exact (Below.refl _ _).drew.drew.drew.drew))).mono ?_; rintro e wd ⟨⟨a8, n8, c8, rfl, hI8, -⟩, hbd⟩; obtain rfl : n8 = n7 := hI8.1.trans HI5.out.1.symm; have HBd := Lib.hid (show Below w16.heap.size w16 wd from bnext (by first | exact (Below.refl _ _) | exact (Below.refl _ _).drew | exact (Below.refl _ _).drew.drew | exact (Below.refl _ _).drew.drew.drew | exact (Below.refl _ _).drew.drew.drew.drew | exact HBa.out | exact HBa.out.drew | exact HBa.out.drew.drew | exact HBa.out.drew.drew.drew | exact HBa.out.drew.drew.drew.drew) hbd); have HI8 := Lib.hid (show IntSl (fun b => w16.heap.size ≤ b) wd _ _ _ from hI8.mono (Nat.le_refl _) (fun b hb => Nat.le_trans HBa.out.size hb) (fun _ _ _ => rfl))))
        all_goals go_wp2_with fail
        all_goals go_meet
        all_goals exact ⟨_, _, rfl, HI8.out, HBd.out⟩
      case rest =>
        obtain ⟨a8, c8, rfl, hI8, hb17⟩ := hcut
        obtain ⟨w17, rfl⟩ : ∃ x, x = wc := ⟨wc, rfl⟩
        have HI8 := Lib.hid hI8
        have HH17 := Lib.hid (HH16.out.below hb17)
        have HB317 := Lib.hid (bnext HB316.out hb17); clear hI8 hb17 b0 b1 b2 b3
        go_wp2_with fail
        refine (eqIntS_any _ _ _ _ _ _ _ _ _ hn5 HI8.out (HI5.out.below HB317.out)).mono ?_
        rintro e w18 ⟨rfl, hb18⟩
        have HH18 := Lib.hid (HH17.out.below hb18)
        have HB318 := Lib.hid (bnext HB317.out hb18); clear hb18
        go_wp2_with fail
        refine (heldIntS_any w18 a7 n7 c7 1 hn5 (by omega) (by omega) HH18.out).mono ?_
        rintro e w19 ⟨rfl, hb19⟩
        have HB319 := Lib.hid (bnext HB0.out (bnext HB3.out (bnext HB318.out hb19))); clear hb19
        go_wp2_with fail
        go_ret
        exact ⟨rfl, HB319.out⟩
end Go.Proofs.YtlknhjibadbeeaaDoor
