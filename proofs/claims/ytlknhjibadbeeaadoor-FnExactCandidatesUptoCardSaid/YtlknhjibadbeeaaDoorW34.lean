/- Walk of impl.Candidates. -/
import Derived.Test.YtlknhjibadbeeaaDoorW33
namespace Go.Proofs.YtlknhjibadbeeaaDoor
open Go.RowKit Go.Deep

attribute [local go_sem] ba_get ba_append

theorem intSl_small {S : Nat → Prop} {w : World} {xs : List Nat} {a : Option Addr} {n : Nat} (h : IntSl S w xs a n) (k : Nat) (hx : xs.length ≤ k) : n ≤ k := by have := h.1; omega

theorem forOut_lt (p : List Cl) (t : Tm) : ∀ i ∈ forOut p t, i < p.length := by
  intro i hi
  unfold forOut at hi
  split at hi
  · exact forIdx_lt _ _ _ _ hi
  · simp at hi
theorem forOut_len (p : List Cl) (t : Tm) : (forOut p t).length ≤ p.length := by
  unfold forOut
  split
  · exact forIdx_len _ _ _ _
  · simp
theorem forOut_ok (p : List Cl) (t : Tm) (h : forOut p t ≠ []) : progOk p = true ∧ termOk t = true := by
  unfold forOut at h
  split at h
  · next h1 => simp at h1; exact ⟨h1.1.1, h1.1.2⟩
  · exact absurd rfl h
theorem candOut_eq (p : List Cl) (t : Tm) : candOut p t = (forOut p t).filter fun i => match p[i]? with | none => false | some c => keyFit (keyOf c.head) (keyOf t) := by
  unfold candOut forOut
  split
  · rfl
  · rfl

set_option maxRecDepth 100000 in
set_option maxHeartbeats 4000000 in
theorem implCandidates_any (S S' : Nat → Prop) (p : List Cl) (k n : Int) (nm : By) (ks : List Tm) (w : World) (a a' : Option Addr) (m c m' c' : Nat) (ht : Tb w) (h : ClSl S w p a m) (hm : m ≤ 1048576) (h' : TmSl S' w ks a' m')
    (hs : ∀ x ∈ p, ClSmall x) (hN : nodes (.mk k n nm ks) ≤ 1048576) (hnm : namesLe (.mk k n nm ks) 1048576 = true) (hint : ∀ x ∈ ks, -9223372036854775808 ≤ x.n ∧ x.n ≤ 9223372036854775807) :
    Calls Tryd.prog 16 #[.slice a m c, .agg #[.int .i64 k, .int .i64 n, .string ⟨nm.toArray⟩, .slice a' m' c']] w fun e w' =>
      (∃ a2 n2 c2, e = .returned (.slice a2 n2 c2) ∧ IntSl (fun b => w.heap.size ≤ b) w' (candOut p (.mk k n nm ks)) a2 n2 ∧ NFz w' a2 n2) ∧ Below w.heap.size w w' := by
  have hlen := nodesL_len ks
  have hm2 : m' ≤ 1048576 := by have := h'.1; simp only [nodes] at hN; omega
  have hfor : (forOut p (.mk k n nm ks)).length ≤ 1048576 := by have := forOut_len p (.mk k n nm ks); have := h.1; omega
  have HI := Lib.hid (show ∀ x ∈ ks, (-9223372036854775808 ≤ x.n ∧ x.n ≤ 9223372036854775807) ∧ x.name.length ≤ 1048576 ∧ x.kids.length ≤ 1048576 from fun x hx => by
    refine ⟨hint x hx, ?_⟩
    have h1 := nodes_mem hx
    simp only [namesLe, Bool.and_eq_true] at hnm
    have h2 := namesLeL_mem hnm.2 hx
    obtain ⟨k', n', nm', ks'⟩ := x
    simp only [namesLe, Bool.and_eq_true, decide_eq_true_eq] at h2
    have h3 := nodesL_len ks'
    simp only [nodes] at h1 hN
    exact ⟨h2.1, by show ks'.length ≤ _; omega⟩)
  clear hint
  have HT := Lib.hid ht; clear ht
  have H := Lib.hid h; clear h
  have HK := Lib.hid h'; clear h'
  have HS := Lib.hid hs; clear hs
  have HN := Lib.hid (And.intro hN hnm); clear hN hnm
  have HP := Lib.hid (show forOut p (.mk k n nm ks) ≠ [] → (∀ x ∈ p, keyRange x.head.kids ∧ x.head.kids.length ≤ 1048576) ∧ keyRange ks from fun h => ⟨heads_of p (forOut_ok _ _ h).1 HS.out, (keyRange_of _ (forOut_ok _ _ h).2 HN.out.2).1⟩)
  have HC := Lib.hid (candOut_eq p (.mk k n nm ks))
  go_enter Tryd.func16, Tryd.ntmps16
  go_wp2_with fail
  obtain ⟨W, hW⟩ : ∃ W, W = w.alloc (.cells #[.int .i64 k, .int .i64 n, .string ⟨nm.toArray⟩, .slice a' m' c'] 41) := ⟨_, rfl⟩
  have HB1 := Lib.hid (show Below w.heap.size w W by rw [hW]; exact bal0 _ _)
  have q0 : W.cell? ⟨w.heap.size, 0, none⟩ = some (.int .i64 k) := by rw [hW]; simp
  have q1 : W.cell? ⟨w.heap.size, 1, none⟩ = some (.int .i64 n) := by rw [hW]; simp
  have q2 : W.cell? ⟨w.heap.size, 2, none⟩ = some (.string ⟨nm.toArray⟩) := by rw [hW]; simp
  have q3 : W.cell? ⟨w.heap.size, 3, none⟩ = some (.slice a' m' c') := by rw [hW]; simp
  have z1 : w.heap.size < W.heap.size := by rw [hW]; simp
  rw [← hW]
  clear hW
  have HCf := Lib.hid (show ∀ V, Below W.heap.size W V → _ from fun V hV => implClausesFor_any S S' p k n nm ks V a a' m c m' c' (H.out.below (bnext HB1.out hV)) hm (HK.out.below (bnext HB1.out hV)) HS.out HN.out.1 HN.out.2)
  have HFi := Lib.hid (show ∀ (V W0 : World) a2 n2 c2, Below W.heap.size W V → IntSl (fun b => W0.heap.size ≤ b) V (forOut p (.mk k n nm ks)) a2 n2 → _ from fun V W0 a2 n2 c2 hV hI => fitting_any S S' (fun b => W0.heap.size ≤ b) p (forOut p (.mk k n nm ks)) k n nm ks V a a' a2 m c m' c' n2 c2 (HT.out.below (bnext HB1.out hV)) (H.out.below (bnext HB1.out hV)) hm (HK.out.below (bnext HB1.out hV)) hm2 hI (intSl_small hI _ hfor) (forOut_lt _ _) HI.out HP.out)
  go_region_with (first
    | (go_at_call 43; refine (HCf.out _ (by first | exact Below.refl _ _ | exact (Below.refl _ _).drew | exact (Below.refl _ _).drew.drew)).mono ?_; rintro e wa ⟨⟨a2, n2, c2, rfl, hI⟩, hba⟩; have HBa := Lib.hid (show Below W.heap.size W wa from (by first | exact Below.refl _ _ | exact (Below.refl _ _).drew | exact (Below.refl _ _).drew.drew : Below W.heap.size W _).trans hba); have HIa := Lib.hid hI; clear hI; have sq0 := (HBa.out.cell (p := ⟨w.heap.size, 0, none⟩) z1).trans q0; have sq1 := (HBa.out.cell (p := ⟨w.heap.size, 1, none⟩) z1).trans q1; have sq2 := (HBa.out.cell (p := ⟨w.heap.size, 2, none⟩) z1).trans q2; have sq3 := (HBa.out.cell (p := ⟨w.heap.size, 3, none⟩) z1).trans q3)
    | (go_at_call 42; refine (HFi.out _ _ _ _ _ (by first | exact HBa.out | exact HBa.out.drew | exact HBa.out.drew.drew) (HIa.out.below (by first | exact Below.refl _ _ | exact (Below.refl _ _).drew | exact (Below.refl _ _).drew.drew))).mono ?_; rintro e wb ⟨⟨a5, n5, c5, rfl, hI5, hnf⟩, hbb⟩; have HI5 := Lib.hid hI5; have HNF := Lib.hid hnf; clear hI5 hnf))
  all_goals go_wp2_with fail
  all_goals go_ret
  all_goals exact ⟨⟨_, _, _, rfl, by rw [HC.out]; exact HI5.out.mono (Nat.le_refl _) (fun b hb => by have h1 : wa.heap.size ≤ b := hb; have := HBa.out.size; show w.heap.size ≤ b; omega) (fun _ _ _ => rfl), HNF.out⟩, bnext HB1.out ((by first | exact HBa.out | exact HBa.out.drew | exact HBa.out.drew.drew : Below W.heap.size W _).trans (hbb.mono HBa.out.size))⟩
end Go.Proofs.YtlknhjibadbeeaaDoor
