/- Walks of the reference's l4For and Candidates. -/
import Derived.Test.YtlknhjibadbeeaaDoorW15
import Derived.Test.YtlknhjibadbeeaaDoorM4
import Derived.Test.YtlknhjibadbeeaaDoorPl4
import Derived.Lib.AppendIntMem
import Derived.Deep.AppendLies
import Derived.BigQuiet
import Derived.Deep.QuietTactic
namespace Go.Proofs.YtlknhjibadbeeaaDoor
open Go.RowKit Go.Deep

attribute [local go_sem] ba_get ba_append

theorem below_drewN {B : Nat} {a w : World} (h : Below B a w) (n : Nat) : Below B a (w.drewN n) := h.trans ⟨rfl, rfl, rfl, Nat.le_refl _, fun _ _ => rfl⟩

theorem news_one (w : World) (v : Value) (t : TypeId) (B : Nat) (hB : w.heap.size = B) : ∀ j u, [v][j]? = some u → (w.alloc (.cells #[v] t)).cell? ((⟨B, 0, none⟩ : Addr).add j) = some u := by
  subst hB
  exact World.news_of_block (cs := #[v]) (t := t) (fr := (0, 0)) (by show (w.heap.push _)[w.heap.size]? = _; simp)

set_option maxRecDepth 100000 in
set_option maxHeartbeats 1000000 in
theorem l4For_any (S S' : Nat → Prop) (p : List Cl) (k n : Int) (nm : By) (ks : List Tm) (w : World) (a a' : Option Addr) (m c m' c' : Nat) (h : ClSl S w p a m) (hm : m ≤ 1048576) (h' : TmSl S' w ks a' m') (hm' : m' ≤ 1048576) :
    Calls Tryd.prog 68 #[.slice a m c, .agg #[.int .i64 k, .int .i64 n, .string ⟨nm.toArray⟩, .slice a' m' c']] w fun e w' =>
      (∃ a2 n2 c2, e = .returned (.slice a2 n2 c2) ∧ IntSl (fun b => w.heap.size ≤ b) w' (forIdx p nm ks.length p.length) a2 n2) ∧ Below w.heap.size w w' := by
  obtain ⟨i0, hi, hz0, hz1, hz2⟩ := info_parts infoInt
  have H := Lib.hid h; clear h
  have HK := Lib.hid h'.1; clear h'
  go_enter Tryd.func68, Tryd.ntmps68
  go_wp2_with fail
  have q2 : (w.alloc (.cells #[.int .i64 k, .int .i64 n, .string ⟨nm.toArray⟩, .slice a' m' c'] 41)).cell? ⟨w.heap.size, 2, none⟩ = some (.string ⟨nm.toArray⟩) := by simp
  have q3 : (w.alloc (.cells #[.int .i64 k, .int .i64 n, .string ⟨nm.toArray⟩, .slice a' m' c'] 41)).cell? ⟨w.heap.size, 3, none⟩ = some (.slice a' m' c') := by simp
  obtain ⟨W, hW⟩ : ∃ W, W = w.alloc (.cells #[.int .i64 k, .int .i64 n, .string ⟨nm.toArray⟩, .slice a' m' c'] 41) := ⟨_, rfl⟩
  have HB1 := Lib.hid (show Below w.heap.size w W by rw [hW]; exact bal0 _ _)
  have H1 := Lib.hid (H.out.below HB1.out)
  have hz : W.heap.size = w.heap.size + 1 := by rw [hW]; simp
  rw [← hz]
  rw [← hW] at q2 q3 ⊢
  clear hW
  have HZ := Lib.hid hz; clear hz
  have hz1' : w.heap.size < W.heap.size := by have := HZ.out; omega
  go_loopw [5, 6] (fun v j wr => ∃ i : Nat, i ≤ m ∧ j = .int .i64 i ∧ Below W.heap.size W wr ∧ Hid (wr.ownsRow W.heap.size 3 1 v (forIdx p nm ks.length i).length ((forIdx p nm ks.length i).map fun x => Value.int .i64 (x : Nat)))) (fun _ i _ => m - (intOf i).toNat)
  case atStart =>
    refine ⟨0, Nat.zero_le _, rfl, bal0 _ _, Lib.hid ?_⟩
    exact World.ownsRow_made W #[] 0 (Nat.le_refl _) (by unfold maxLen; omega) rfl
  case round =>
    obtain ⟨i, hi', rfl, hb, HO⟩ := hrel
    have r2 : wr.cell? ⟨w.heap.size, 2, none⟩ = some (.string ⟨nm.toArray⟩) := (hb.cell (p := ⟨w.heap.size, 2, none⟩) hz1').trans q2
    have r3 : wr.cell? ⟨w.heap.size, 3, none⟩ = some (.slice a' m' c') := (hb.cell (p := ⟨w.heap.size, 3, none⟩) hz1').trans q3
    have hfl := forIdx_len p nm ks.length i
    by_cases hlt : i < m
    · have hlx : i < p.length := by rw [← H1.out.1]; exact hlt
      obtain ⟨b, o, rfl, hb0, -, hr⟩ := H1.out.2 (by omega)
      obtain ⟨c0, c1, c2, ⟨a3, n3, c3', c3, hs3⟩, ⟨a4, n4, c4', c4, hs4⟩⟩ := (hr.below hb hb0) i hlx
      have HN3 := Lib.hid hs3.1
      clear hr hs3 hs4
      cases hnm : (p[i].head.name == nm)
      · have HF := Lib.hid (forIdx_no p nm ks.length i hlx (.inl hnm))
        go_wp2_with fail
        go_quiet (fail)
        go_wp2_with fail
        go_roundw
        case rel => exact ⟨i + 1, by omega, by go_num, below_drewN hb _, Lib.hid (by rw [HF.out]; exact HO.out)⟩
        case measure => simp [intOf]; omega
      · by_cases hkl : p[i].head.kids.length = ks.length
        · have HF := Lib.hid (forIdx_yes p nm ks.length i hlx hnm hkl)
          obtain rfl : n3 = m' := by rw [HN3.out, hkl, HK.out]
          go_wp2_with fail
          go_quiet (fail)
          go_wp2_with (at_builtin; refine wpList_append_lies _ rfl _ _ 35 rfl W.heap.size 3 i0 _ 1 8 Tryd.underlying35 hi hz0 hz1 hz2 rfl (by decide) _ _ _ rfl (show World.ownsRow _ W.heap.size 3 1 u5 _ _ from Lib.ownsRow_grow HO.out nq #[_]) _ _ _ [.int .i64 i] rfl rfl (news_one (wr.drewN nq) _ _ _ rfl) (by simp [Value.oneCell']) (by decide) (by unfold maxLen; omega) (by omega) (by have := hb.size; first | omega | (simp; omega)) (wr.heap.size + 1) (by first | rfl | simp) ?_)
          intro g cap w2 hown hgrow hat hlt2
          have hb2 : Below W.heap.size W w2 := by
            refine (((bnext hb (Below.of_grow (k := nq) (os := #[_]) (Nat.le_refl _))) : Below W.heap.size W ((wr.drewN nq).alloc (.cells #[.int .i64 i] 3))).grown hgrow ?_ ?_)
            · have := hb.size; simp; omega
            · exact fun k e => (HO.out.lt k e).1
          go_wp2_with fail
          go_roundw
          case rel => exact ⟨i + 1, by omega, by go_num, hb2, Lib.hid (by rw [HF.out]; simpa using hown)⟩
          case measure => simp [intOf]; omega
        · have HF := Lib.hid (forIdx_no p nm ks.length i hlx (.inr hkl))
          have hne : n3 ≠ m' := by rw [HN3.out, HK.out]; exact hkl
          go_wp2_with fail
          go_quiet (fail)
          go_wp2_with fail
          go_roundw
          case rel => exact ⟨i + 1, by omega, by go_num, below_drewN hb _, Lib.hid (by rw [HF.out]; exact HO.out)⟩
          case measure => simp [intOf]; omega
    · have him : i = m := by omega
      subst him
      obtain ⟨a2, c2, rfl, hI⟩ := intSl_of_own (S := fun b => w.heap.size ≤ b) HO.out (fun b hb => by show w.heap.size ≤ b; omega)
      go_wp2_with fail
      go_ret
      exact ⟨⟨_, _, _, rfl, by rw [← H1.out.1]; exact hI⟩, HB1.out.trans (hb.mono HB1.out.size)⟩
end Go.Proofs.YtlknhjibadbeeaaDoor
