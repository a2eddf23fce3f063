/- Walks of the reference's l7Candidates and Candidates. -/
import Derived.Test.YtlknhjibadbeeaaDoorW17
import Derived.Deep.CutRange
namespace Go.Proofs.YtlknhjibadbeeaaDoor
open Go.RowKit Go.Deep

attribute [local go_sem] ba_get ba_append

/-- what l7Candidates has found after some of the list -/
def fitOf (p : List Cl) (t : Tm) (l : List Nat) : List Nat :=
  l.filter fun i => match p[i]? with | none => false | some c => keyFit (keyOf c.head) (keyOf t)
theorem fitOf_cands (p : List Cl) (t : Tm) : fitOf p t (forIdx p t.name t.kids.length p.length) = candsOf p t := rfl
theorem fitOf_yes (p : List Cl) (t : Tm) (l : List Nat) (i : Nat) (h : i < l.length) (h1 : l[i] < p.length) (h2 : keyFit (keyOf p[l[i]].head) (keyOf t) = true) : fitOf p t (l.take (i + 1)) = fitOf p t (l.take i) ++ [l[i]] := by
  unfold fitOf
  rw [List.take_succ_eq_append_getElem h, List.filter_append]
  simp [List.getElem?_eq_getElem h1, h2]
theorem fitOf_no (p : List Cl) (t : Tm) (l : List Nat) (i : Nat) (h : i < l.length) (h1 : l[i] < p.length) (h2 : keyFit (keyOf p[l[i]].head) (keyOf t) = false) : fitOf p t (l.take (i + 1)) = fitOf p t (l.take i) := by
  unfold fitOf
  rw [List.take_succ_eq_append_getElem h, List.filter_append]
  simp [List.getElem?_eq_getElem h1, h2]
theorem fitOf_len (p : List Cl) (t : Tm) (l : List Nat) : (fitOf p t l).length ≤ l.length := List.length_filter_le _ _

theorem _root_.Go.World.grownBy.below_next {w w1 w2 : World} {row : Option Nat} (h : w.grownBy w1 row) (hb : Below w1.heap.size w1 w2) : w.grownBy w2 row :=
  ⟨hb.os.trans h.os, hb.tape.trans h.tape, hb.output.trans h.output, Nat.le_trans h.size hb.size, fun k hk hne => (hb.block k (Nat.lt_of_lt_of_le hk h.size)).trans (h.block k hk hne)⟩

/-- what the walk of a key asks of a term's arguments -/
def keyRange (ks : List Tm) : Prop := ∀ x ∈ ks, (-1000000000 ≤ x.n ∧ x.n ≤ 1000000000) ∧ x.name.length ≤ 1048576 ∧ x.kids.length ≤ 1048576

theorem decDigits_pow (k : Nat) : ∀ n : Nat, n < 10 ^ (k + 1) → (Lib.decDigits n).length ≤ k + 1 := by
  induction k with
  | zero => intro n hn; rw [Lib.decDigits, dif_pos (by omega)]; simp
  | succ k ih =>
    intro n hn
    by_cases h : n < 10
    · rw [Lib.decDigits, dif_pos h]; simp
    · rw [Lib.decDigits, dif_neg h]
      have := ih (n / 10) (by rw [Nat.pow_succ] at hn; omega)
      simp; omega
theorem itoa_short (n : Int) (h0 : -1000000000 ≤ n) (h1 : n ≤ 1000000000) : (Lib.itoa n).length ≤ 11 := by
  unfold Lib.itoa
  split
  · have := decDigits_pow 9 n.natAbs (by omega)
    simp; omega
  · have := decDigits_pow 9 n.toNat (by omega)
    omega
theorem keyOf_len (t : Tm) (h : keyRange t.kids) : (keyOf t).length ≤ 2097152 := by
  unfold keyOf
  split
  · simp
  · next x xs e =>
    obtain ⟨⟨h1, h2⟩, h3, h4⟩ := h x (by rw [e]; simp)
    split
    · simp
    · split
      · have := itoa_short x.n h1 h2; omega
      · have := itoa_short (x.kids.length : Int) (by omega) (by omega)
        simp; omega

set_option maxRecDepth 100000 in
set_option maxHeartbeats 8000000 in
theorem l7Candidates_any (S S' : Nat → Prop) (p : List Cl) (k n : Int) (nm : By) (ks : List Tm) (w : World) (a a' : Option Addr) (m c m' c' : Nat) (h : ClSl S w p a m) (hm : m ≤ 1048576) (h' : TmSl S' w ks a' m') (hm' : m' ≤ 1048576)
    (hp : ∀ x ∈ p, keyRange x.head.kids ∧ x.head.kids.length ≤ 1048576) (hk : keyRange ks) :
    Calls Tryd.prog 39 #[.slice a m c, .agg #[.int .i64 k, .int .i64 n, .string ⟨nm.toArray⟩, .slice a' m' c']] w fun e w' =>
      (∃ a2 n2 c2, e = .returned (.slice a2 n2 c2) ∧ IntSl (fun b => w.heap.size ≤ b) w' (candsOf p (.mk k n nm ks)) a2 n2) ∧ Below w.heap.size w w' := by
  obtain ⟨i0, hi, hz0, hz1', hz2⟩ := info_parts infoInt
  have H := Lib.hid h; clear h
  have HK := Lib.hid h'; clear h'
  have HP := Lib.hid hp; clear hp
  have HR := Lib.hid hk; clear hk
  go_enter Tryd.func39, Tryd.ntmps39
  go_wp2_with fail
  refine (l4For_any S S' p k n nm ks _ a a' m c m' c' (H.out.below (by first | exact bal0 _ _ | exact bal (bal0 _ _) _)) hm (HK.out.below (by first | exact bal0 _ _ | exact bal (bal0 _ _) _)) hm').mono ?_
  rintro e w1 ⟨⟨a2, n2, c2, rfl, hI⟩, hb1⟩
  obtain ⟨hc1, -⟩ := bcell hb1
  have hz1 := bsz w.heap.size hb1 (by first | omega | (simp; omega) | simp)
  have HB1 := Lib.hid (show Below w.heap.size w w1 from bnext (by first | exact bal0 _ _ | exact bal (bal0 _ _) _) hb1)
  have q0 : w1.cell? ⟨w.heap.size, 0, none⟩ = some (.int .i64 k) := by rw [hc1 _ _ (by simp; omega)]; simp
  have q1 : w1.cell? ⟨w.heap.size, 1, none⟩ = some (.int .i64 n) := by rw [hc1 _ _ (by simp; omega)]; simp
  have q2 : w1.cell? ⟨w.heap.size, 2, none⟩ = some (.string ⟨nm.toArray⟩) := by rw [hc1 _ _ (by simp; omega)]; simp
  have q3 : w1.cell? ⟨w.heap.size, 3, none⟩ = some (.slice a' m' c') := by rw [hc1 _ _ (by simp; omega)]; simp
  have HO1 : Hid (w1.ownsRow (w.heap.size + 1) 3 1 (.slice (some ⟨w.heap.size + 1, 0, none⟩) 0 0) 0 []) := by
    have hmk := World.ownsRow_made (base := w.heap.size + 1) (e := 3) (size := 1) (w.alloc (.cells #[.int .i64 k, .int .i64 n, .string ⟨nm.toArray⟩, .slice a' m' c'] 41)) #[] 0 (by simp) (by unfold maxLen; omega) rfl
    have e : (w.alloc (.cells #[.int .i64 k, .int .i64 n, .string ⟨nm.toArray⟩, .slice a' m' c'] 41)).heap.size = w.heap.size + 1 := by simp
    rw [e] at hmk
    exact Lib.hid (own_next hmk hb1)
  have HL := Lib.hid hI
  obtain ⟨L, hL⟩ : ∃ L, L = forIdx p nm ks.length p.length := ⟨_, rfl⟩
  rw [← hL] at HL
  have hlt : ∀ i (h : i < L.length), L[i] < p.length := fun i h => forIdx_lt p nm ks.length p.length (by rw [← hL]; exact List.getElem_mem h)
  have hn2 : n2 = L.length := HL.out.1
  have hlm : L.length ≤ 1048576 := by have := forIdx_len p nm ks.length p.length; rw [← hL] at this; have := H.out.1; omega
  have HC := Lib.hid (show candsOf p (.mk k n nm ks) = fitOf p (.mk k n nm ks) L by rw [hL]; rfl)
  clear hL hI hc1 hb1
  go_wp2_with fail
  go_loopw [5, 7] (fun v j wr => ∃ i : Nat, i ≤ n2 ∧ j = .int .i64 i ∧ w1.grownBy wr (some (w.heap.size + 1)) ∧ (∃ g cap, v = .slice (some ⟨g, 0, none⟩) (fitOf p (.mk k n nm ks) (L.take i)).length cap ∧ (g = w.heap.size + 1 ∨ w1.heap.size ≤ g)) ∧ Hid (wr.ownsRow (w.heap.size + 1) 3 1 v (fitOf p (.mk k n nm ks) (L.take i)).length ((fitOf p (.mk k n nm ks) (L.take i)).map fun x => Value.int .i64 (x : Nat)))) (fun _ i _ => n2 - (intOf i).toNat)
  case atStart =>
    exact ⟨0, Nat.zero_le _, rfl, World.grownBy.refl _ _, ⟨_, _, rfl, .inl rfl⟩, HO1⟩
  case round =>
    obtain ⟨i, hi', rfl, hb, ⟨gv, capv, rfl, hgv⟩, HO⟩ := hrel
    have hbs := hb.size
    have hBw : Below w.heap.size w wr := HB1.out.grown hb HB1.out.size (fun k e => by cases e; omega)
    have r0 := (hb.cell_far ⟨w.heap.size, 0, none⟩ hz1 (by simp)).trans q0
    have r1 := (hb.cell_far ⟨w.heap.size, 1, none⟩ hz1 (by simp)).trans q1
    have r2 := (hb.cell_far ⟨w.heap.size, 2, none⟩ hz1 (by simp)).trans q2
    have r3 := (hb.cell_far ⟨w.heap.size, 3, none⟩ hz1 (by simp)).trans q3
    have hfl := Nat.le_trans (fitOf_len p (.mk k n nm ks) (L.take i)) (List.length_take_le i L)
    by_cases hil : i < n2
    · have hix : i < L.length := by omega
      have hip := hlt i hix
      obtain ⟨b2, o2, rfl, hb20, hb2S, hr2⟩ := HL.out.2 (by omega)
      have c9 := (hb.cell_far ⟨b2, o2 + i, none⟩ hb20 (by simp; have := hb2S; simp at this; omega)).trans (hr2 i hix)
      obtain ⟨b, o, rfl, hb0, -, hr⟩ := H.out.2 (by have := H.out.1; omega)
      obtain ⟨c0, c1, c2, ⟨a3, n3, c3', c3, hs3⟩, ⟨a4, n4, c4', c4, hs4⟩⟩ := (hr.below hBw hb0) L[i] hip
      have H3 := Lib.hid hs3
      have hjm : L[i] < m := by rw [H.out.1]; exact hip
      have hn3 : n3 ≤ 1048576 := by rw [hs3.1]; exact (HP.out _ (List.getElem_mem hip)).2
      have HPi := Lib.hid (HP.out _ (List.getElem_mem hip)).1
      have HKr := Lib.hid (HK.out.below hBw)
      clear hr hr2 hs3 hs4
      go_wp2_with fail
      go_cut [29] from 12 to 36 (fun s29 wx => s29 = .bool (keyFit (keyOf p[L[i]].head) (keyOf (.mk k n nm ks))) ∧ Below wr.heap.size wr wx)
      case first =>
        have HHd := Lib.hid (show ∀ V, Below wr.heap.size wr V → _ from fun V hV => l7Key_any S p[L[i]].head.kind p[L[i]].head.n p[L[i]].head.name p[L[i]].head.kids V a3 n3 c3' (H3.out.below hV) hn3 HPi.out)
        have HGo := Lib.hid (show ∀ V, Below wr.heap.size wr V → _ from fun V hV => l7Key_any S' k n nm ks V a' m' c' (HKr.out.below hV) hm' HR.out)
        have hk1 := keyOf_len p[L[i]].head HPi.out
        have hk2 := keyOf_len (.mk k n nm ks) HR.out
        rw [show Tm.mk p[L[i]].head.kind p[L[i]].head.n p[L[i]].head.name p[L[i]].head.kids = p[L[i]].head by cases p[L[i]].head; rfl] at HHd
        have HBa := Lib.hid (Below.refl wr.heap.size wr)
        have hy0 : w.heap.size < wr.heap.size := Nat.lt_of_lt_of_le hz1 hbs
        have hy1 : b2 < wr.heap.size := Nat.lt_of_lt_of_le hb20 hbs
        have hy2 : b < wr.heap.size := Nat.lt_of_lt_of_le hb0 hBw.size
        go_region_with (first | (go_at_call 70; (first | with_reducible refine (HHd.out _ (by first | exact Below.refl _ _ | exact (Below.refl _ _).drew | exact (Below.refl _ _).drew.drew | exact HBa.out | exact HBa.out.drew | exact HBa.out.drew.drew)).mono ?_ | with_reducible refine (HGo.out _ (by first | exact Below.refl _ _ | exact (Below.refl _ _).drew | exact (Below.refl _ _).drew.drew | exact HBa.out | exact HBa.out.drew | exact HBa.out.drew.drew)).mono ?_); rintro e wa ⟨rfl, hba⟩; have HBa := Lib.hid (show Below wr.heap.size wr wa from (by first | exact Below.refl _ _ | exact (Below.refl _ _).drew | exact (Below.refl _ _).drew.drew | exact HBa.out | exact HBa.out.drew | exact HBa.out.drew.drew : Below wr.heap.size wr _).trans (hba.mono (by first | exact Nat.le_refl _ | exact HBa.out.size))); try have sr0 := (HBa.out.cell (p := ⟨w.heap.size, 0, none⟩) hy0).trans r0; try have sr1 := (HBa.out.cell (p := ⟨w.heap.size, 1, none⟩) hy0).trans r1; try have sr2 := (HBa.out.cell (p := ⟨w.heap.size, 2, none⟩) hy0).trans r2; try have sr3 := (HBa.out.cell (p := ⟨w.heap.size, 3, none⟩) hy0).trans r3; try have sc9 := (HBa.out.cell (p := ⟨b2, o2 + i, none⟩) hy1).trans c9; try have sc0 := (HBa.out.cell (p := ⟨b, o + L[i] * 5, none⟩) hy2).trans c0; try have sc1 := (HBa.out.cell (p := ⟨b, o + L[i] * 5 + 1, none⟩) hy2).trans c1; try have sc2 := (HBa.out.cell (p := ⟨b, o + L[i] * 5 + 2, none⟩) hy2).trans c2; try have sc3 := (HBa.out.cell (p := ⟨b, o + L[i] * 5 + 3, none⟩) hy2).trans c3) | (go_at_call 69; refine (specKeysFit_any _ _ _ hk1 hk2).mono ?_; rintro e wb ⟨rfl, rfl⟩))
        all_goals go_wp2_with fail
        all_goals go_meet
        all_goals exact ⟨rfl, by first | exact Below.refl _ _ | exact (Below.refl _ _).drew | exact (Below.refl _ _).drew.drew | exact HBa.out | exact HBa.out.drew | exact HBa.out.drew.drew⟩
      case rest =>
        obtain ⟨rfl, hbx⟩ := hcut
        have hyx0 : w.heap.size < wc.heap.size := bsz _ hbx (Nat.lt_of_lt_of_le hz1 hbs)
        have e9 := (hbx.cell (p := ⟨b2, o2 + i, none⟩) (Nat.lt_of_lt_of_le hb20 hbs)).trans c9
        cases hf : keyFit (keyOf p[L[i]].head) (keyOf (.mk k n nm ks))
        · have HF := Lib.hid (fitOf_no p (.mk k n nm ks) L i hix hip hf)
          go_wp2_with fail
          go_roundw
          case rel => exact ⟨i + 1, by omega, by go_num, hb.below_next hbx, ⟨gv, capv, by rw [HF.out], hgv⟩, Lib.hid (by rw [HF.out]; exact own_next HO.out hbx)⟩
          case measure => simp [intOf]; omega
        · have HF := Lib.hid (fitOf_yes p (.mk k n nm ks) L i hix hip hf)
          have HO2 := Lib.hid (own_next HO.out hbx)
          go_wp2_with (at_builtin; refine wpList_append_lies _ rfl _ _ 35 rfl (w.heap.size + 1) 3 i0 _ 1 8 Tryd.underlying35 hi hz0 hz1' hz2 rfl (by decide) _ _ _ rfl (show World.ownsRow _ (w.heap.size + 1) 3 1 (.slice (some ⟨gv, 0, none⟩) _ capv) _ _ from Lib.ownsRow_grow (k := 0) HO2.out #[_]) _ _ _ [.int .i64 L[i]] rfl rfl (news_one wc _ _ _ rfl) (by simp [Value.oneCell']) (by decide) (by unfold maxLen; omega) (by omega) (by first | omega | (simp; omega)) (wc.heap.size + 1) (by first | rfl | simp) ?_)
          intro g cap w3 hown hgrow hat hlt3
          have hb3 : w1.grownBy w3 (some (w.heap.size + 1)) := by
            have h4 := hb.below_next (bal hbx (.cells #[.int .i64 L[i]] 3))
            refine ⟨hgrow.os.trans h4.os, hgrow.tape.trans h4.tape, hgrow.output.trans h4.output, Nat.le_trans h4.size hgrow.size, fun q hq hne => ?_⟩
            refine (hgrow.block q (Nat.lt_of_lt_of_le hq h4.size) ?_).trans (h4.block q hq hne)
            intro e
            have e' : q = gv := by simpa [Value.ownBlock] using e
            rcases hgv with h5 | h5
            · exact hne (by rw [e', h5])
            · omega
          have hg3 : g = w.heap.size + 1 ∨ w1.heap.size ≤ g := by
            rcases hat with h5 | h5
            · have e' : gv = g := by simpa [Value.ownBlock] using h5
              rw [← e']; exact hgv
            · have := hbx.size; right; omega
          go_wp2_with fail
          go_roundw
          case rel => exact ⟨i + 1, by omega, by go_num, hb3, ⟨g, cap, by rw [HF.out]; simp, hg3⟩, Lib.hid (by rw [HF.out]; simpa using hown)⟩
          case measure => simp [intOf]; omega
    · have him : i = n2 := by omega
      subst him
      have hfull : L.take i = L := List.take_of_length_le (by omega)
      rw [hfull] at HO ⊢
      obtain ⟨a5, c5, e5, hI⟩ := intSl_of_own (S := fun b => w.heap.size ≤ b) HO.out (fun b hb => by show w.heap.size ≤ b; omega)
      rw [e5]
      go_wp2_with fail
      go_ret
      exact ⟨⟨_, _, _, rfl, by rw [HC.out]; exact hI⟩, hBw⟩

end Go.Proofs.YtlknhjibadbeeaaDoor
