/- Walks of impl.fitting and impl.Candidates. -/
import Derived.Test.YtlknhjibadbeeaaDoorW32
namespace Go.Proofs.YtlknhjibadbeeaaDoor
open Go.RowKit Go.Deep

attribute [local go_sem] ba_get ba_append

set_option maxRecDepth 100000 in
theorem enter_fitting1 : ∀ args w, (callFunc 74 args).run Tryd.prog w = .ok (.enter 74 args) w := by
  intro args w
  simp [callFunc]
  rfl

set_option maxRecDepth 100000 in
set_option maxHeartbeats 4000000 in
theorem fitting1_any (S : Nat → Prop) (p : List Cl) (key : By) (w : World) (a : Option Addr) (m c B1 B2 i : Nat) (ht : Tb w) (h : ClSl S w p a m) (hm : m ≤ 1048576) (hp : ∀ x ∈ p, keyRange x.head.kids ∧ x.head.kids.length ≤ 1048576) (hi : i < p.length) (hkl : key.length ≤ 2097152)
    (hB2 : B2 < w.heap.size) (hb1 : w.cell? ⟨B1, 0, none⟩ = some (.slice a m c)) (hb2 : w.cell? ⟨B2, 0, none⟩ = some (.string ⟨key.toArray⟩)) :
    Calls Tryd.prog 74 #[.int .i64 i, .pointer (some ⟨B1, 0, none⟩), .pointer (some ⟨B2, 0, none⟩)] w fun e w' => e = .returned (.bool (!keyFit (keyOf p[i].head) key)) ∧ Below w.heap.size w w' := by
  have him : i < m := by rw [h.1]; exact hi
  obtain ⟨b, o, rfl, hb0, -, hr⟩ := h.2 (by omega)
  obtain ⟨c0, c1, c2, ⟨a3, n3, c3', c3, hs3⟩, ⟨a4, n4, c4', c4, hs4⟩⟩ := hr i hi
  have H3 := Lib.hid hs3
  have hn3 : n3 ≤ 1048576 := by rw [hs3.1]; exact (hp _ (List.getElem_mem hi)).2
  have HP := Lib.hid (hp _ (List.getElem_mem hi)).1
  have HT := Lib.hid ht
  have hk1 := keyOf_len p[i].head HP.out
  clear hr hs3 hs4 hp h ht
  have HHd := Lib.hid (show ∀ V, Below w.heap.size w V → _ from fun V hV => firstKey_any S p[i].head.kind p[i].head.n p[i].head.name p[i].head.kids V a3 n3 c3' (HT.out.below hV) (H3.out.below hV) hn3 (fun x hx => ⟨⟨by have := (HP.out x hx).1.1; omega, by have := (HP.out x hx).1.2; omega⟩, (HP.out x hx).2⟩))
  rw [show Tm.mk p[i].head.kind p[i].head.n p[i].head.name p[i].head.kids = p[i].head by cases p[i].head; rfl] at HHd
  go_enter Tryd.func74, Tryd.ntmps74
  go_wp2_with fail
  have HBa := Lib.hid (Below.refl w.heap.size w)
  go_region_with (first | (go_at_call 71; refine (HHd.out _ (by first | exact Below.refl _ _ | exact (Below.refl _ _).drew | exact (Below.refl _ _).drew.drew | exact HBa.out | exact HBa.out.drew | exact HBa.out.drew.drew)).mono ?_; rintro e wa ⟨rfl, hba⟩; have HBa := Lib.hid (show Below w.heap.size w wa from (by first | exact Below.refl _ _ | exact (Below.refl _ _).drew | exact (Below.refl _ _).drew.drew | exact HBa.out | exact HBa.out.drew | exact HBa.out.drew.drew : Below w.heap.size w _).trans (hba.mono (by first | exact Nat.le_refl _ | exact HBa.out.size))); have sr2 := (HBa.out.cell (p := ⟨B2, 0, none⟩) hB2).trans hb2) | (go_at_call 75; refine (implKeysFit_any _ _ _ hk1 hkl).mono ?_; rintro e wb ⟨rfl, rfl⟩))
  all_goals go_wp2_with fail
  all_goals go_ret
  all_goals exact ⟨rfl, by first | exact HBa.out | exact HBa.out.drew | exact HBa.out.drew.drew⟩

set_option maxRecDepth 100000 in
set_option maxHeartbeats 4000000 in
theorem fitting_any (S S' S2 : Nat → Prop) (p : List Cl) (L : List Nat) (k n : Int) (nm : By) (ks : List Tm) (w : World) (a a' a2 : Option Addr) (m c m' c' n2 c2 : Nat) (ht : Tb w) (h : ClSl S w p a m) (hm : m ≤ 1048576) (h' : TmSl S' w ks a' m') (hm' : m' ≤ 1048576)
    (hL : IntSl S2 w L a2 n2) (hn2 : n2 ≤ 1048576) (hLp : ∀ i ∈ L, i < p.length) (hint : ∀ x ∈ ks, (-9223372036854775808 ≤ x.n ∧ x.n ≤ 9223372036854775807) ∧ x.name.length ≤ 1048576 ∧ x.kids.length ≤ 1048576)
    (hp : L ≠ [] → (∀ x ∈ p, keyRange x.head.kids ∧ x.head.kids.length ≤ 1048576) ∧ keyRange ks) :
    Calls Tryd.prog 42 #[.slice a m c, .slice a2 n2 c2, .agg #[.int .i64 k, .int .i64 n, .string ⟨nm.toArray⟩, .slice a' m' c']] w fun e w' =>
      (∃ a3 n3 c3, e = .returned (.slice a3 n3 c3) ∧ IntSl (fun b => w.heap.size ≤ b) w' (L.filter fun i => match p[i]? with | none => false | some c => keyFit (keyOf c.head) (keyOf (.mk k n nm ks))) a3 n3 ∧ NFz w' a3 n3) ∧ Below w.heap.size w w' := by
  have HT := Lib.hid ht; clear ht
  have H := Lib.hid h; clear h
  have HK := Lib.hid h'; clear h'
  have HL := Lib.hid hL; clear hL
  have HLp := Lib.hid hLp; clear hLp
  have HI := Lib.hid hint; clear hint
  have HP := Lib.hid hp; clear hp
  go_enter Tryd.func42, Tryd.ntmps42
  go_wp2_with fail
  refine (firstKey_any S' k n nm ks _ a' m' c' (HT.out.below (bal (bal0 _ _) _)) (HK.out.below (bal (bal0 _ _) _)) hm' HI.out).mono ?_
  rintro e w1 ⟨rfl, hb1⟩
  obtain ⟨hc1, hf1⟩ := bcell hb1
  have hz1 := bsz w.heap.size hb1 (by simp; omega)
  have HB1 := Lib.hid (bnext (bal (bal0 _ _) _) hb1)
  have q0 : w1.cell? ⟨w.heap.size, 0, none⟩ = some (.slice a m c) := by rw [hc1 _ _ (by simp; omega)]; simp
  clear hc1 hf1
  go_wp2_with fail
  obtain ⟨W2, hW2⟩ : ∃ W2, W2 = w1.alloc (.cells #[.string ⟨(keyOf (.mk k n nm ks)).toArray⟩] 9) := ⟨_, rfl⟩
  have HB2 := Lib.hid (show Below w.heap.size w W2 by rw [hW2]; exact bal HB1.out _)
  have q1 : W2.cell? ⟨w.heap.size, 0, none⟩ = some (.slice a m c) := by rw [hW2, (bal0 w1 _).cell (p := ⟨w.heap.size, 0, none⟩) hz1]; exact q0
  have q2 : W2.cell? ⟨w1.heap.size, 0, none⟩ = some (.string ⟨(keyOf (.mk k n nm ks)).toArray⟩) := by rw [hW2]; simp
  have z1 : w1.heap.size < W2.heap.size := by rw [hW2]; simp
  have z2 : w.heap.size ≤ W2.heap.size := by omega
  rw [← hW2]
  clear hW2 q0 hb1
  refine (clone_any S2 L _ a2 n2 c2 hn2 (HL.out.below HB2.out)).mono ?_
  rintro e w3 ⟨a4, c4, rfl, hI4, hG4, hc4, hc5, hb3⟩
  have HG4 := Lib.hid hG4; clear hG4
  have HI4 := Lib.hid hI4; clear hI4
  have HB3 := Lib.hid hb3
  have HBw := Lib.hid (bnext HB2.out hb3)
  have q3 := (hb3.cell (p := ⟨w.heap.size, 0, none⟩) (by show w.heap.size < _; omega)).trans q1
  have q4 := (hb3.cell (p := ⟨w1.heap.size, 0, none⟩) z1).trans q2
  clear q1 q2 hb3
  go_wp2_with fail
  refine (delInt_any 74 _ enter_fitting1 (fun i => !(match p[i]? with | none => false | some c => keyFit (keyOf c.head) (keyOf (.mk k n nm ks)))) (fun b => W2.heap.size ≤ b) L w3 a4 n2 c4 hn2 hc4 hc5 HI4.out ?_).mono ?_
  · intro hpos
    obtain ⟨G, ha4, hGw, hfr⟩ := HG4.out hpos
    refine ⟨G, ha4, fun k _ => hfr k, fun V hV j hj => ?_⟩
    have hBV : Below w.heap.size w V := grown_below HBw.out hV (by omega)
    have hne : L ≠ [] := fun e => by subst e; simp at hj
    have hi := HLp.out _ (List.getElem_mem hj)
    have hsz := HB3.out.size
    have hsv := hV.size
    refine (fitting1_any S p (keyOf (.mk k n nm ks)) V a m c w.heap.size w1.heap.size L[j] (HT.out.below hBV) (H.out.below hBV) hm (HP.out hne).1 hi (keyOf_len _ (HP.out hne).2) (by omega)
      ((hV.cell_far ⟨w.heap.size, 0, none⟩ (by show w.heap.size < _; omega) (by simp; omega)).trans q3) ((hV.cell_far ⟨w1.heap.size, 0, none⟩ (by show w1.heap.size < _; omega) (by simp; omega)).trans q4)).mono ?_
    rintro e V' ⟨rfl, hb⟩
    exact ⟨by simp [List.getElem?_eq_getElem hi], hb⟩
  · rintro e w4 ⟨⟨m5, c5, rfl, hI5, hnf⟩, hgr⟩
    have HNF := Lib.hid hnf; clear hnf
    have HI5 := Lib.hid hI5; clear hI5
    have HGR := Lib.hid hgr; clear hgr
    go_wp2_with fail
    go_ret
    refine ⟨⟨_, _, _, rfl, ?_, HNF.out⟩, ?_⟩
    · have e1 : (L.filter fun i => match p[i]? with | none => false | some c => keyFit (keyOf c.head) (keyOf (.mk k n nm ks))) = L.filter fun i => !(!(match p[i]? with | none => false | some c => keyFit (keyOf c.head) (keyOf (.mk k n nm ks)))) := by
        congr 1; funext i; rw [Bool.not_not]
      rw [e1]
      exact HI5.out.mono (Nat.le_refl _) (fun b hb => Nat.le_trans z2 hb) (fun _ _ _ => rfl)
    · by_cases h0 : n2 = 0
      · exact grown_below HBw.out (HGR.out w3.heap.size (.inl h0)) HBw.out.size
      · obtain ⟨G, ha4, hGw, -⟩ := HG4.out (by omega)
        exact grown_below HBw.out (HGR.out G (.inr ⟨0, ha4⟩)) (by omega)
end Go.Proofs.YtlknhjibadbeeaaDoor
