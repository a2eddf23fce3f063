/- Walks of impl.scan at all terms, and of impl.TermValid. -/
import Derived.Test.YtlknhjibadbeeaaDoorW26
namespace Go.Proofs.YtlknhjibadbeeaaDoor
open Go.RowKit Go.Deep

attribute [local go_sem] ba_get ba_append

mutual
theorem kidAt_lt {S : Nat → Prop} {w : World} : ∀ (t : Tm) (v : Value), KidAt S w t v → KidAt (fun b => b < w.heap.size) w t v
  | .mk _ _ _ ks, v, h => by
    simp only [KidAt] at h ⊢
    obtain ⟨a, c, rfl, h⟩ := h
    refine ⟨a, c, rfl, fun hp => ?_⟩
    obtain ⟨b, o, ha, hlt, hSb, hr⟩ := h hp
    exact ⟨b, o, ha, hlt, hlt, rowAt_lt ks b o hr⟩
theorem rowAt_lt {S : Nat → Prop} {w : World} : ∀ (ts : List Tm) (b o : Nat), RowAt S w ts b o → RowAt (fun b => b < w.heap.size) w ts b o
  | [], _, _, _ => by simp only [RowAt]
  | t :: ts, b, o, h => by
    simp only [RowAt] at h ⊢
    obtain ⟨⟨h0, h1, h2, v, h3, hv⟩, hr⟩ := h
    exact ⟨⟨h0, h1, h2, v, h3, kidAt_lt t v hv⟩, rowAt_lt ts b (o + 4) hr⟩
end
theorem TmSl.lt {S : Nat → Prop} {w : World} {ts : List Tm} {a : Option Addr} {n : Nat} (h : TmSl S w ts a n) : TmSl (fun b => b < w.heap.size) w ts a n := by
  refine ⟨h.1, fun hn => ?_⟩
  obtain ⟨b, o, ha, hlt, hSb, hr⟩ := h.2 hn
  exact ⟨b, o, ha, hlt, hlt, rowAt_lt _ _ _ hr⟩

theorem scan_all : ∀ N, Scn N
  | 0 => by intro k n nm ks w a m c C d q hN; simp [nodes] at hN
  | N + 1 => by
    intro k n nm ks w a m c C d q hN hN2 hns hts hC hq hf h0 h1 hd0 hd1
    have hm : m = ks.length := hts.1
    have hlen := nodesL_len ks
    have hnd : nodes (.mk k n nm ks) = nodesL ks + 1 := rfl
    have hsh : shape (.mk k n nm ks) (31 - d).toNat = (decide (1 ≤ (31 - d).toNat) && ownOk k n nm ks.length && shapes ks ((31 - d).toNat - 1)) := rfl
    have hnl : nm.length ≤ 1048576 ∧ namesLeL ks 1048576 = true := by
      have : namesLe (.mk k n nm ks) 1048576 = (decide (nm.length ≤ 1048576) && namesLeL ks 1048576) := rfl
      rw [this] at hns; simpa using hns
    have hd3 : (31 - d).toNat - 1 = (30 - d).toNat := by omega
    by_cases hbig : 120 < q + 1 ∨ 30 < d
    · refine (scan_big k n nm w a m c C d q hC hq hf h0 h1 hd0 hd1 hbig).mono ?_
      rintro e w' ⟨rfl, hg, hc, hfz⟩
      refine ⟨false, q + 1, rfl, hg, hc, hfz, by omega, by omega, by simp, fun hs hle => ?_⟩
      rcases hbig with hb | hb
      · omega
      · rw [hsh, show (31 - d).toNat = 0 by omega] at hs
        simp at hs
    · have hs0 : q + 1 ≤ 120 := by omega
      have hs1 : d ≤ 30 := by omega
      have hone : decide (1 ≤ (31 - d).toNat) = true := by simp; omega
      rw [hone, hd3, Bool.true_and] at hsh
      have flat : ∀ kk, k = kk → (kk = 1 ∨ kk = 2) → (Calls Tryd.prog 100 #[.agg #[.int .i64 k, .int .i64 n, .string ⟨nm.toArray⟩, .slice a m c], .int .i64 d, .pointer (some ⟨C, 0, none⟩)] w fun e w' =>
          e = .returned (.bool (ownOk k n nm m)) ∧ w.grownBy w' (some C) ∧ w'.cell? ⟨C, 0, none⟩ = some (.int .i64 (q + 1)) ∧ w'.frozen? ⟨C, 0, none⟩ = false) →
          Calls Tryd.prog 100 #[.agg #[.int .i64 k, .int .i64 n, .string ⟨nm.toArray⟩, .slice a m c], .int .i64 d, .pointer (some ⟨C, 0, none⟩)] w fun e w' =>
          ∃ r q', e = .returned (.bool r) ∧ w.grownBy w' (some C) ∧ w'.cell? ⟨C, 0, none⟩ = some (.int .i64 q') ∧ w'.frozen? ⟨C, 0, none⟩ = false ∧ q ≤ q' ∧ q' ≤ q + nodes (.mk k n nm ks) ∧
      (r = true → shape (.mk k n nm ks) (31 - d).toNat = true ∧ q' = q + nodes (.mk k n nm ks) ∧ q' ≤ 120) ∧
      (shape (.mk k n nm ks) (31 - d).toNat = true → q + nodes (.mk k n nm ks) ≤ 120 → r = true) := by
        intro kk hk hkk hcall
        refine hcall.mono ?_
        rintro e w' ⟨rfl, hg, hc, hfz⟩
        refine ⟨_, q + 1, rfl, hg, hc, hfz, by omega, by omega, fun hr => ?_, fun hs hle => ?_⟩
        · have hz : ks = [] := by
            have : m = 0 := by
              rcases hkk with rfl | rfl <;> subst hk <;> simp [ownOk] at hr <;> omega
            exact List.length_eq_zero_iff.1 (by omega)
          rw [hsh, ← hm, hr, hnd, hz]
          refine ⟨rfl, by simp [nodesL], by omega⟩
        · rw [hsh, ← hm] at hs
          simp at hs
          exact hs.1
      by_cases hk1 : k = 1
      · subst hk1
        exact flat 1 rfl (.inl rfl) (scan_var n nm w a m c C d q hC hq hf h0 hd0 hs0 hs1)
      · by_cases hk2 : k = 2
        · subst hk2
          exact flat 2 rfl (.inr rfl) (scan_int n nm w a m c C d q hC hq hf h0 hd0 hs0 hs1)
        · by_cases hk3 : k = 3
          · subst hk3
            cases hok : ownOk 3 n nm m
            · refine (scan_bad n nm w a m c C d q hC hq hf h0 hd0 hs0 hs1 hnl.1 (by omega) hok).mono ?_
              rintro e w' ⟨rfl, hg, hc, hfz⟩
              refine ⟨false, q + 1, rfl, hg, hc, hfz, by omega, by omega, by simp, fun hs hle => ?_⟩
              rw [hsh, ← hm, hok] at hs
              simp at hs
            · refine (scan_good n nm ks w a m c C d q N (scan_all N) (by omega) (by omega) hnl.2 hts hC hq hf h0 hd0 hs0 hs1 hnl.1 (by omega) hok).mono ?_
              rintro e w' ⟨r, q', rfl, hg, hc, hfz, h2, h3, h4, h5⟩
              refine ⟨r, q', rfl, hg, hc, hfz, by omega, by omega, fun hr => ?_, fun hs hle => ?_⟩
              · obtain ⟨h6, h7, h8⟩ := h4 hr
                exact ⟨by rw [hsh, ← hm, hok, h6]; rfl, by omega, h8⟩
              · rw [hsh, ← hm, hok] at hs
                exact h5 (by simpa using hs) (by omega)
          · refine (scan_other k n nm w a m c C d q hC hq hf h0 h1 hd0 hd1 hs0 hs1 hk1 hk2 hk3).mono ?_
            rintro e w' ⟨rfl, hg, hc, hfz⟩
            refine ⟨false, q + 1, rfl, hg, hc, hfz, by omega, by omega, by simp, fun hs hle => ?_⟩
            rw [hsh] at hs
            simp [ownOk, hk1, hk2, hk3] at hs

theorem grown_below {w wa w1 : World} {C : Nat} (h : Below w.heap.size w wa) (hg : wa.grownBy w1 (some C)) (hC : w.heap.size ≤ C) : Below w.heap.size w w1 :=
  ⟨hg.os.trans h.os, hg.tape.trans h.tape, hg.output.trans h.output, Nat.le_trans h.size hg.size, fun q hq => (hg.block q (Nat.lt_of_lt_of_le hq h.size) (fun e => by simp at e; omega)).trans (h.block q hq)⟩

set_option maxRecDepth 100000 in
theorem implTermValid_any (S : Nat → Prop) (k n : Int) (nm : By) (ks : List Tm) (w : World) (a : Option Addr) (m c : Nat) (hN : nodes (.mk k n nm ks) ≤ 1048576) (hnm : namesLe (.mk k n nm ks) 1048576 = true) (h : TmSl S w ks a m) :
    Calls Tryd.prog 77 #[.agg #[.int .i64 k, .int .i64 n, .string ⟨nm.toArray⟩, .slice a m c]] w fun e w' => e = .returned (.bool (termOk (.mk k n nm ks))) ∧ Below w.heap.size w w' := by
  have HN := Lib.hid (And.intro hN hnm); clear hN hnm
  have H := Lib.hid h; clear h
  have HE := Lib.hid (show termOk (.mk k n nm ks) = (shape (.mk k n nm ks) 30 && decide (nodes (.mk k n nm ks) ≤ 120)) from rfl)
  go_enter Tryd.func77, Tryd.ntmps77
  go_wp2_with fail
  refine (scan_all 1048576 k n nm ks _ a m c (w.heap.size + 1) 1 0 HN.out.1 (by omega) HN.out.2 ((H.out.lt.below (bal (bal0 w _) _)).mono (Nat.le_refl _) (fun b hb => by omega) (fun _ _ _ => rfl)) (by simp) (by simp) (by simp) (by omega) (by omega) (by omega) (by omega)).mono ?_
  rintro e w1 ⟨r, q', rfl, hg, hc, hfz, h2, h3, h4⟩
  have H4 := Lib.hid h4; clear h4
  have HG := Lib.hid (grown_below (bal (bal0 w _) _) hg (Nat.le_succ _))
  go_wp2_with fail
  go_ret
  refine ⟨ret_bool ?_, HG.out⟩
  obtain ⟨h4, h5⟩ := H4.out
  rw [show ((31 : Int) - 1).toNat = 30 from rfl] at h4 h5
  rw [HE.out, Bool.eq_iff_iff]
  constructor
  · intro hr
    obtain ⟨h6, h7, h8⟩ := h4 hr
    simp; exact ⟨h6, by omega⟩
  · intro hr
    simp at hr
    exact h5 hr.1 (by omega)
end Go.Proofs.YtlknhjibadbeeaaDoor
