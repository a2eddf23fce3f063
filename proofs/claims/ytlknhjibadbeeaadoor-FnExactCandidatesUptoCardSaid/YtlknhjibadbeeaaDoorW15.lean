/- Walks of the reference's ClauseValid, ProgramValid. -/
import Derived.Test.YtlknhjibadbeeaaDoorW14
import Derived.Test.YtlknhjibadbeeaaDoorW10
namespace Go.Proofs.YtlknhjibadbeeaaDoor
open Go.RowKit

attribute [local go_sem] ba_get ba_append
theorem Tm.eta' (t : Tm) : Tm.mk t.kind t.n t.name t.kids = t := by cases t; rfl
set_option maxRecDepth 100000 in
set_option maxHeartbeats 1000000 in
theorem specClauseValid_any (S : Nat → Prop) (cl : Cl) (w : World) (a a' : Option Addr) (m c m' c' : Nat) (hs : ClSmall cl) (h : TmSl S w cl.head.kids a m) (h' : TmSl S w cl.body a' m') :
    Calls Tryd.prog 62 #[.agg #[.int .i64 cl.head.kind, .int .i64 cl.head.n, .string ⟨cl.head.name.toArray⟩, .slice a m c, .slice a' m' c']] w fun e w' => e = .returned (.bool (clauseOk cl)) ∧ Below w.heap.size w w' := by
  obtain ⟨s1, s2, s3, s4⟩ := hs
  have hlen := nodesL_len cl.body
  have hlen2 := nodesL_len cl.head.kids
  have s1' : nodes (.mk cl.head.kind cl.head.n cl.head.name cl.head.kids) ≤ 1048576 := by rw [Tm.eta']; exact s1
  have s3' : namesLe (.mk cl.head.kind cl.head.n cl.head.name cl.head.kids) 1048576 = true := by rw [Tm.eta']; exact s3
  have hl : cl.head.name.length ≤ 1048576 := by simp only [namesLe, Bool.and_eq_true, decide_eq_true_eq] at s3'; exact s3'.1
  have hm1 : m ≤ 1048576 := by have := h.1; simp only [nodes] at s1'; omega
  have hm : m' ≤ 1048576 := by have := h'.1; omega
  have HE := Lib.hid (show clauseOk cl = (decide (m' ≤ 6) && cl.body.all goalOk && termOk cl.head && isPlainT cl.head) by rw [h'.1]; rfl)
  have H := Lib.hid h; clear h
  have H' := Lib.hid h'; clear h'
  have SS := Lib.hid (And.intro s1' (And.intro s3' s4))
  clear s1 s3 s4 s1' s3'
  go_enter Tryd.func62, Tryd.ntmps62
  go_wp2_with fail
  have hk3 : (w.alloc (.cells #[.int .i64 cl.head.kind, .int .i64 cl.head.n, .string ⟨cl.head.name.toArray⟩, .slice a m c, .slice a' m' c'] 77)).cell? ⟨w.heap.size, 4, none⟩ = some (.slice a' m' c') := by simp
  have hk0 : ∀ v, (#[Value.int .i64 cl.head.kind, .int .i64 cl.head.n, .string ⟨cl.head.name.toArray⟩, .slice a m c, .slice a' m' c'] : Array Value)[0]? = v → (w.alloc (.cells #[.int .i64 cl.head.kind, .int .i64 cl.head.n, .string ⟨cl.head.name.toArray⟩, .slice a m c, .slice a' m' c'] 77)).cell? ⟨w.heap.size, 0, none⟩ = v := fun v h => by rw [World.cell?_alloc_at (hn := rfl)]; exact h
  have hk1 : ∀ v, (#[Value.int .i64 cl.head.kind, .int .i64 cl.head.n, .string ⟨cl.head.name.toArray⟩, .slice a m c, .slice a' m' c'] : Array Value)[1]? = v → (w.alloc (.cells #[.int .i64 cl.head.kind, .int .i64 cl.head.n, .string ⟨cl.head.name.toArray⟩, .slice a m c, .slice a' m' c'] 77)).cell? ⟨w.heap.size, 1, none⟩ = v := fun v h => by rw [World.cell?_alloc_at (hn := rfl)]; exact h
  have hk2 : ∀ v, (#[Value.int .i64 cl.head.kind, .int .i64 cl.head.n, .string ⟨cl.head.name.toArray⟩, .slice a m c, .slice a' m' c'] : Array Value)[2]? = v → (w.alloc (.cells #[.int .i64 cl.head.kind, .int .i64 cl.head.n, .string ⟨cl.head.name.toArray⟩, .slice a m c, .slice a' m' c'] 77)).cell? ⟨w.heap.size, 2, none⟩ = v := fun v h => by rw [World.cell?_alloc_at (hn := rfl)]; exact h
  have hk4 : ∀ v, (#[Value.int .i64 cl.head.kind, .int .i64 cl.head.n, .string ⟨cl.head.name.toArray⟩, .slice a m c, .slice a' m' c'] : Array Value)[3]? = v → (w.alloc (.cells #[.int .i64 cl.head.kind, .int .i64 cl.head.n, .string ⟨cl.head.name.toArray⟩, .slice a m c, .slice a' m' c'] 77)).cell? ⟨w.heap.size, 3, none⟩ = v := fun v h => by rw [World.cell?_alloc_at (hn := rfl)]; exact h
  have q0 := hk0 _ rfl
  have q1 := hk1 _ rfl
  have q2 := hk2 _ rfl
  have q3 := hk4 _ rfl
  clear hk0 hk1 hk2 hk4
  obtain ⟨W, hW⟩ : ∃ W, W = w.alloc (.cells #[.int .i64 cl.head.kind, .int .i64 cl.head.n, .string ⟨cl.head.name.toArray⟩, .slice a m c, .slice a' m' c'] 77) := ⟨_, rfl⟩
  have HB1 := Lib.hid (show Below w.heap.size w W by rw [hW]; exact bal0 _ _)
  have H1 := Lib.hid (H'.out.below HB1.out)
  have H2 := Lib.hid (H.out.below HB1.out)
  have hz1 : w.heap.size < W.heap.size := by rw [hW]; simp
  rw [← hW] at hk3 q0 q1 q2 q3 ⊢
  clear hW
  go_loopw [3] (fun j wr => ∃ i : Nat, i ≤ m' ∧ i ≤ 7 ∧ j = .int .i64 i ∧ Below W.heap.size W wr ∧ Hid ((cl.body.take i).all goalOk = true)) (fun i _ => m' - (intOf i).toNat)
  case atStart => exact ⟨0, Nat.zero_le _, Nat.zero_le _, rfl, Below.refl _ _, Lib.hid (by simp)⟩
  case round =>
    obtain ⟨i, hi, hi7, rfl, hb, HA⟩ := hrel
    have hq3 : wr.cell? ⟨w.heap.size, 4, none⟩ = some (.slice a' m' c') := (hb.cell (p := ⟨w.heap.size, 4, none⟩) hz1).trans hk3
    by_cases hlt : i < m'
    · have hlx : i < cl.body.length := by rw [← H1.out.1]; exact hlt
      by_cases h7 : i ≤ 6
      · obtain ⟨b, o, rfl, hb0, -, hr⟩ := H1.out.2 (by omega)
        obtain ⟨c0, c1, c2, a3, n3, c3', c3, hs⟩ := rowAt_get (rowAt_below hb hb0 hr) i hlx
        have HS := Lib.hid hs
        clear hr hs
        have HN := Lib.hid (show nodes (.mk cl.body[i].kind cl.body[i].n cl.body[i].name cl.body[i].kids) ≤ 1048576 by rw [Tm.eta']; have := nodes_mem (List.getElem_mem hlx); omega)
        have HNN := Lib.hid (show namesLe (.mk cl.body[i].kind cl.body[i].n cl.body[i].name cl.body[i].kids) 1048576 = true by rw [Tm.eta']; exact namesLeL_mem SS.out.2.2 (List.getElem_mem hlx))
        go_wp2_with fail
        refine (specGoalValid_any S _ _ _ cl.body[i].kids _ _ _ _ HN.out HNN.out HS.out).mono ?_
        rintro e w2 ⟨rfl, hb2⟩
        rw [Tm.eta']
        cases hg : goalOk cl.body[i]
        · have HF := Lib.hid (all_noS goalOk cl.body i hlx hg)
          clear hg
          go_wp2_with fail
          go_ret
          exact ⟨ret_bool (by rw [HE.out, HF.out]; simp), HB1.out.trans ((bnext hb hb2).mono HB1.out.size)⟩
        · have HF := Lib.hid (all_takeS goalOk cl.body i hlx HA.out hg)
          clear hg
          go_wp2_with fail
          go_roundw
          case rel => exact ⟨i + 1, by omega, by omega, by go_num, bnext hb hb2, HF⟩
          case measure => simp [intOf]; omega
      · go_wp2_with fail
        go_ret
        exact ⟨ret_bool (by rw [HE.out]; simp; omega), HB1.out.trans (hb.mono HB1.out.size)⟩
    · have HF := Lib.hid (all_fullS goalOk cl.body i (by rw [← H1.out.1]; omega) HA.out)
      have r0 := (hb.cell (p := ⟨w.heap.size, 0, none⟩) hz1).trans q0
      have r1 := (hb.cell (p := ⟨w.heap.size, 1, none⟩) hz1).trans q1
      have r2 := (hb.cell (p := ⟨w.heap.size, 2, none⟩) hz1).trans q2
      have r3 := (hb.cell (p := ⟨w.heap.size, 3, none⟩) hz1).trans q3
      simp at r0 r1 r2 r3
      by_cases h6 : m' ≤ 6
      · go_wp2_with fail
        refine (specTermValid_any S _ _ _ cl.head.kids _ _ _ _ SS.out.1 SS.out.2.1 (H2.out.below hb)).mono ?_
        rintro e w2 ⟨rfl, hb2⟩
        have HH2 := Lib.hid (show Below W.heap.size W w2 from bnext hb hb2)
        have t0 := (HH2.out.cell (p := ⟨w.heap.size, 0, none⟩) hz1).trans q0
        have t1 := (HH2.out.cell (p := ⟨w.heap.size, 1, none⟩) hz1).trans q1
        have t2 := (HH2.out.cell (p := ⟨w.heap.size, 2, none⟩) hz1).trans q2
        have t3 := (HH2.out.cell (p := ⟨w.heap.size, 3, none⟩) hz1).trans q3
        simp at t0 t1 t2 t3
        rw [Tm.eta']
        cases hq : termOk cl.head
        · have HQ := Lib.hid hq; clear hq
          go_wp2_with fail
          go_ret
          exact ⟨ret_bool (by rw [HE.out, HQ.out]; simp), HB1.out.trans (HH2.out.mono HB1.out.size)⟩
        · have HQ := Lib.hid hq; clear hq
          go_wp2_with fail
          refine (l4Plain_any _ _ _ cl.head.kids _ _ _ _ hl H.out.1 hm1).mono ?_
          rintro e w3 ⟨rfl, hb3⟩
          rw [Tm.eta']
          go_wp2_with fail
          go_ret
          exact ⟨ret_bool (by rw [HE.out, HQ.out, HF.out]; simp; intro _; exact h6), HB1.out.trans ((bnext HH2.out hb3).mono HB1.out.size)⟩
      · go_wp2_with fail
        go_ret
        exact ⟨ret_bool (by rw [HE.out]; simp; omega), HB1.out.trans (hb.mono HB1.out.size)⟩

set_option maxRecDepth 100000 in
set_option maxHeartbeats 1000000 in
theorem specProgramValid_any (S : Nat → Prop) (ks : List Cl) (w : World) (a : Option Addr) (m c : Nat) (hs : ∀ x ∈ ks, ClSmall x) (h : ClSl S w ks a m) (hm : m ≤ 1048576) :
    Calls Tryd.prog 36 #[.slice a m c] w fun e w' => e = .returned (.bool (progOk ks)) ∧ Below w.heap.size w w' := by
  have HE := Lib.hid (show progOk ks = (decide (m ≤ 20) && ks.all clauseOk) by rw [h.1]; rfl)
  have H := Lib.hid h; clear h
  have HM := Lib.hid hs; clear hs
  go_enter Tryd.func36, Tryd.ntmps36
  go_wp2_with fail

  go_loopw [3] (fun j wr => ∃ i : Nat, i ≤ m ∧ i ≤ 21 ∧ j = .int .i64 i ∧ Below w.heap.size w wr ∧ Hid ((ks.take i).all clauseOk = true)) (fun i _ => m - (intOf i).toNat)
  case atStart => exact ⟨0, Nat.zero_le _, Nat.zero_le _, rfl, Below.refl _ _, Lib.hid (by simp)⟩
  case round =>
    obtain ⟨i, hi, hi7, rfl, hb, HA⟩ := hrel
    by_cases hlt : i < m
    · have hlx : i < ks.length := by rw [← H.out.1]; exact hlt
      by_cases h7 : i ≤ 20
      · obtain ⟨b, o, rfl, hb0, -, hr⟩ := H.out.2 (by omega)
        obtain ⟨c0, c1, c2, ⟨a3, n3, c3', c3, hs3⟩, ⟨a4, n4, c4', c4, hs4⟩⟩ := (hr.below hb hb0) i hlx
        have H3 := Lib.hid hs3
        have H4 := Lib.hid hs4
        have HMk := Lib.hid (HM.out _ (List.getElem_mem hlx))
        clear hr hs3 hs4
        go_wp2_with fail
        refine (specClauseValid_any S ks[i] _ _ _ _ _ _ _ HMk.out H3.out H4.out).mono ?_
        rintro e w2 ⟨rfl, hb2⟩
        cases hg : clauseOk ks[i]
        · have HF := Lib.hid (all_noS clauseOk ks i hlx hg)
          clear hg
          go_wp2_with fail
          go_ret
          exact ⟨ret_bool (by rw [HE.out, HF.out]; simp), bnext hb hb2⟩
        · have HF := Lib.hid (all_takeS clauseOk ks i hlx HA.out hg)
          clear hg
          go_wp2_with fail
          go_roundw
          case rel => exact ⟨i + 1, by omega, by omega, by go_num, bnext hb hb2, HF⟩
          case measure => simp [intOf]; omega
      · go_wp2_with fail
        go_ret
        exact ⟨ret_bool (by rw [HE.out, show decide (m ≤ 20) = false by simp; omega]; first | rfl | (simp; omega)), hb⟩
    · have HF := Lib.hid (all_fullS clauseOk ks i (by rw [← H.out.1]; omega) HA.out)
      go_wp2_with fail
      go_ret
      exact ⟨ret_bool (by rw [HE.out, HF.out, Bool.and_true, decide_eq_decide]; omega), hb⟩
end Go.Proofs.YtlknhjibadbeeaaDoor
