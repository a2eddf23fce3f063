/- Walks of impl.pred, clausesFor and ClausesFor. -/
import Derived.Test.YtlknhjibadbeeaaDoorW29
import Derived.Test.YtlknhjibadbeeaaDoorW19
namespace Go.Proofs.YtlknhjibadbeeaaDoor
open Go.RowKit Go.Deep

attribute [local go_sem] ba_get ba_append

theorem ret_bool' {a b : Bool} (h : a = b) : Value.bool a = Value.bool b := by rw [h]

set_option maxRecDepth 100000 in
theorem pred_any (k n : Int) (nm : By) (w : World) (a : Option Addr) (m c : Nat) :
    Calls Tryd.prog 80 #[.agg #[.int .i64 k, .int .i64 n, .string ⟨nm.toArray⟩, .slice a m c]] w fun e w' => e = .returned (.agg #[.string ⟨nm.toArray⟩, .int .i64 m]) ∧ Below w.heap.size w w' := by
  go_enter Tryd.func80, Tryd.ntmps80
  go_wp2_with fail
  refine bodyPost_ret (v := .agg #[.string ⟨nm.toArray⟩, .int .i64 m]) (by simp [results, Tryd.results80, go_sem]) rfl ⟨rfl, ?_⟩
  exact bal (bal0 w _) _

set_option maxRecDepth 100000 in
set_option maxHeartbeats 4000000 in
theorem clausesFor_any (S : Nat → Prop) (p : List Cl) (nm : By) (ln : Nat) (w : World) (a : Option Addr) (m c : Nat) (h : ClSl S w p a m) (hm : m ≤ 1048576) (hln : ln ≤ 1048576) (hp : ∀ x ∈ p, x.head.kids.length ≤ 1048576) :
    Calls Tryd.prog 79 #[.slice a m c, .agg #[.string ⟨nm.toArray⟩, .int .i64 ln]] w fun e w' =>
      (∃ a2 n2 c2, e = .returned (.slice a2 n2 c2) ∧ IntSl (fun b => w.heap.size ≤ b) w' (forIdx p nm ln p.length) a2 n2) ∧ Below w.heap.size w w' := by
  obtain ⟨i0, hi, hz0, hz1, hz2⟩ := info_parts infoInt
  have H := Lib.hid h; clear h
  have HP := Lib.hid hp; clear hp
  go_enter Tryd.func79, Tryd.ntmps79
  go_wp2_with fail
  have q0 : (w.alloc (.cells #[.string ⟨nm.toArray⟩, .int .i64 ln] 107)).cell? ⟨w.heap.size, 0, none⟩ = some (.string ⟨nm.toArray⟩) := by simp
  have q1 : (w.alloc (.cells #[.string ⟨nm.toArray⟩, .int .i64 ln] 107)).cell? ⟨w.heap.size, 1, none⟩ = some (.int .i64 ln) := by simp
  obtain ⟨W, hW⟩ : ∃ W, W = w.alloc (.cells #[.string ⟨nm.toArray⟩, .int .i64 ln] 107) := ⟨_, rfl⟩
  have HB1 := Lib.hid (show Below w.heap.size w W by rw [hW]; exact bal0 _ _)
  have H1 := Lib.hid (H.out.below HB1.out)
  have hz : W.heap.size = w.heap.size + 1 := by rw [hW]; simp
  rw [← hW] at q0 q1 ⊢
  clear hW
  have hz1' : w.heap.size < W.heap.size := by omega
  have HZ := Lib.hid hz; clear hz
  go_loopw [5, 10] (fun v j wr => ∃ i : Nat, i ≤ m ∧ j = .int .i64 i ∧ Below W.heap.size W wr ∧ Hid (wr.ownsRow W.heap.size 3 1 v (forIdx p nm ln i).length ((forIdx p nm ln i).map fun x => Value.int .i64 (x : Nat)))) (fun _ i _ => m - (intOf i).toNat)
  case atStart => exact ⟨0, Nat.zero_le _, rfl, Below.refl _ _, Lib.hid (World.ownsRow_nil _ _ _ _)⟩
  case round =>
    obtain ⟨i, hi', rfl, hb, HO⟩ := hrel
    have r0 : wr.cell? ⟨w.heap.size, 0, none⟩ = some (.string ⟨nm.toArray⟩) := (hb.cell (p := ⟨w.heap.size, 0, none⟩) hz1').trans q0
    have r1 : wr.cell? ⟨w.heap.size, 1, none⟩ = some (.int .i64 ln) := (hb.cell (p := ⟨w.heap.size, 1, none⟩) hz1').trans q1
    have hfl := forIdx_len p nm ln i
    by_cases hlt : i < m
    · have hlx : i < p.length := by rw [← H1.out.1]; exact hlt
      obtain ⟨b, o, rfl, hb0, -, hr⟩ := H1.out.2 (by omega)
      obtain ⟨c0, c1, c2, ⟨a3, n3, c3', c3, hs3⟩, ⟨a4, n4, c4', c4, hs4⟩⟩ := (hr.below hb hb0) i hlx
      have HN3 := Lib.hid hs3.1
      have hn3 : n3 ≤ 1048576 := by rw [hs3.1]; exact HP.out _ (List.getElem_mem hlx)
      clear hr hs3 hs4
      have hs0 := Nat.lt_of_lt_of_le hz1' hb.size
      go_wp2_with fail
      go_cut [10, 19] from 10 to 24 (fun s10 s19 wx => s10 = .int .i64 i ∧ s19 = .bool ((p[i].head.name == nm) && decide (p[i].head.kids.length = ln)) ∧ Below wr.heap.size wr wx)
      case first =>
        have s0 : ∀ o, (wr.alloc o).cell? ⟨w.heap.size, 0, none⟩ = some (.string ⟨nm.toArray⟩) := fun o => ((bal0 wr o).cell (p := ⟨w.heap.size, 0, none⟩) hs0).trans r0
        have s1 : ∀ o, (wr.alloc o).cell? ⟨w.heap.size, 1, none⟩ = some (.int .i64 ln) := fun o => ((bal0 wr o).cell (p := ⟨w.heap.size, 1, none⟩) hs0).trans r1
        have hs1 : w.heap.size < wr.heap.size + 1 := by omega
        cases hnm : (p[i].head.name == nm)
        · go_region_with (go_at_call 80; refine (pred_any _ _ _ _ _ _ _).mono ?_; rintro e wa ⟨rfl, hba⟩; obtain ⟨hca, hfa⟩ := bcell hba; have hza := bsz w.heap.size hba (by first | omega | (simp; omega)); have HBA := Lib.hid (show Below wr.heap.size wr wa from bnext (by first | exact bal0 _ _ | exact (bal0 _ _).drew | exact (bal0 _ _).drew.drew) hba))
          all_goals go_wp2_with fail
          all_goals go_meet
          all_goals exact ⟨rfl, ret_bool' (by rw [hnm]; rfl), HBA.out⟩
        · by_cases hkl : p[i].head.kids.length = ln
          · have HL := Lib.hid hkl
            obtain rfl : n3 = ln := by rw [HN3.out, hkl]
            clear hkl
            go_region_with (go_at_call 80; refine (pred_any _ _ _ _ _ _ _).mono ?_; rintro e wa ⟨rfl, hba⟩; obtain ⟨hca, hfa⟩ := bcell hba; have hza := bsz w.heap.size hba (by first | omega | (simp; omega)); have HBA := Lib.hid (show Below wr.heap.size wr wa from bnext (by first | exact bal0 _ _ | exact (bal0 _ _).drew | exact (bal0 _ _).drew.drew) hba))
            all_goals go_wp2_with fail
            all_goals go_meet
            all_goals exact ⟨rfl, ret_bool' (by rw [hnm]; simp [HL.out]), HBA.out⟩
          · have HL := Lib.hid hkl
            have hne : n3 ≠ ln := by rw [HN3.out]; exact hkl
            clear hkl
            go_region_with (go_at_call 80; refine (pred_any _ _ _ _ _ _ _).mono ?_; rintro e wa ⟨rfl, hba⟩; obtain ⟨hca, hfa⟩ := bcell hba; have hza := bsz w.heap.size hba (by first | omega | (simp; omega)); have HBA := Lib.hid (show Below wr.heap.size wr wa from bnext (by first | exact bal0 _ _ | exact (bal0 _ _).drew | exact (bal0 _ _).drew.drew) hba))
            all_goals go_wp2_with fail
            all_goals go_meet
            all_goals exact ⟨rfl, ret_bool' (by rw [hnm]; simp [HL.out]), HBA.out⟩
      case rest =>
        obtain ⟨rfl, rfl, hbx⟩ := hcut
        have hb2 : Below W.heap.size W wc := bnext hb hbx
        have HO2 := Lib.hid (own_next HO.out hbx)
        cases hf : ((p[i].head.name == nm) && decide (p[i].head.kids.length = ln))
        · have HF := Lib.hid (forIdx_no p nm ln i hlx (by rcases Bool.and_eq_false_iff.1 hf with h | h; exact .inl h; exact .inr (by simpa using h)))
          go_wp2_with fail
          go_roundw
          case rel => exact ⟨i + 1, by omega, by go_num, hb2, Lib.hid (by rw [HF.out]; exact HO2.out)⟩
          case measure => simp [intOf]; omega
        · have HF := Lib.hid (forIdx_yes p nm ln i hlx (by simp at hf; simpa using hf.1) (by simp at hf; exact hf.2))
          go_wp2_with (at_builtin; refine wpList_append_lies _ rfl _ _ 35 rfl W.heap.size 3 i0 _ 1 8 Tryd.underlying35 hi hz0 hz1 hz2 rfl (by decide) _ _ _ rfl (show World.ownsRow _ W.heap.size 3 1 u5 _ _ from Lib.ownsRow_grow (k := 0) HO2.out #[_]) _ _ _ [.int .i64 i] rfl rfl (news_one wc _ _ _ rfl) (by simp [Value.oneCell']) (by decide) (by unfold maxLen; omega) (by omega) (by have := hb2.size; first | omega | (simp; omega)) (wc.heap.size + 1) (by first | rfl | simp) ?_)
          intro g cap w2 hown hgrow hat hlt2
          have hb3 : Below W.heap.size W w2 := by
            refine ((bal hb2 (.cells #[.int .i64 i] 3)).grown hgrow ?_ ?_)
            · have := hb2.size; simp; omega
            · exact fun k e => (HO2.out.lt k e).1
          go_wp2_with fail
          go_roundw
          case rel => exact ⟨i + 1, by omega, by go_num, hb3, Lib.hid (by rw [HF.out]; simpa using hown)⟩
          case measure => simp [intOf]; omega
    · have him : i = m := by omega
      subst him
      obtain ⟨a2, c2, rfl, hI⟩ := intSl_of_own (S := fun b => w.heap.size ≤ b) HO.out (fun b hb => by show w.heap.size ≤ b; omega)
      go_wp2_with fail
      go_ret
      exact ⟨⟨_, _, _, rfl, by rw [← H1.out.1]; exact hI⟩, HB1.out.trans (hb.mono HB1.out.size)⟩
end Go.Proofs.YtlknhjibadbeeaaDoor
