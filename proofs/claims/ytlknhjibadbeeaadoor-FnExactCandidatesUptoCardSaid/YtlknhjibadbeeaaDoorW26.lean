/- Walks of impl.scan at structures, scan$1 and impl.TermValid. -/
import Derived.Test.YtlknhjibadbeeaaDoorW25
namespace Go.Proofs.YtlknhjibadbeeaaDoor
open Go.RowKit Go.Deep

attribute [local go_sem] ba_get ba_append

set_option maxRecDepth 100000 in
theorem enter_scan1 : ∀ args w, (callFunc 117 args).run Tryd.prog w = .ok (.enter 117 args) w := by
  intro args w
  simp [callFunc]
  rfl

set_option maxRecDepth 100000 in
set_option maxHeartbeats 1000000 in
theorem scan1_any (N : Nat) (ih : Scn N) (k n : Int) (nm : By) (ks : List Tm) (w : World) (a : Option Addr) (m c C B1 B2 : Nat) (d q : Int) (hN : nodes (.mk k n nm ks) ≤ N) (hN2 : N ≤ 1048576) (hns : namesLe (.mk k n nm ks) 1048576 = true) (hks : TmSl (fun b => b ≠ C) w ks a m)
    (hC : C < w.heap.size) (hq : w.cell? ⟨C, 0, none⟩ = some (.int .i64 q)) (hf : w.frozen? ⟨C, 0, none⟩ = false) (h0 : 0 ≤ q) (hq1 : q ≤ 1000000000) (hd0 : 1 ≤ d) (hd1 : d ≤ 30)
    (hB1 : B1 < w.heap.size) (hB2 : B2 < w.heap.size) (hb1 : w.cell? ⟨B1, 0, none⟩ = some (.int .i64 d)) (hb2 : w.cell? ⟨B2, 0, none⟩ = some (.pointer (some ⟨C, 0, none⟩))) :
  Calls Tryd.prog 117 #[.agg #[.int .i64 k, .int .i64 n, .string ⟨nm.toArray⟩, .slice a m c], .pointer (some ⟨B1, 0, none⟩), .pointer (some ⟨B2, 0, none⟩)] w fun e w' =>
    ∃ r q', e = .returned (.bool (!r)) ∧ w.grownBy w' (some C) ∧ w'.cell? ⟨C, 0, none⟩ = some (.int .i64 q') ∧ w'.frozen? ⟨C, 0, none⟩ = false ∧ q ≤ q' ∧ q' ≤ q + nodes (.mk k n nm ks) ∧
      (r = true → shape (.mk k n nm ks) (31 - (d + 1)).toNat = true ∧ q' = q + nodes (.mk k n nm ks) ∧ q' ≤ 120) ∧
      (shape (.mk k n nm ks) (31 - (d + 1)).toNat = true → q + nodes (.mk k n nm ks) ≤ 120 → r = true) := by
  have f0 : ∀ o, (w.alloc o).cell? ⟨C, 0, none⟩ = some (.int .i64 q) := fun o => ((bal0 w o).cell (p := ⟨C, 0, none⟩) hC).trans hq
  have f1 : ∀ o, (w.alloc o).frozen? ⟨C, 0, none⟩ = false := fun o => ((bal0 w o).frozen (p := ⟨C, 0, none⟩) hC).trans hf
  have f2 : ∀ o, (w.alloc o).cell? ⟨B1, 0, none⟩ = some (.int .i64 d) := fun o => ((bal0 w o).cell (p := ⟨B1, 0, none⟩) hB1).trans hb1
  have f3 : ∀ o, (w.alloc o).cell? ⟨B2, 0, none⟩ = some (.pointer (some ⟨C, 0, none⟩)) := fun o => ((bal0 w o).cell (p := ⟨B2, 0, none⟩) hB2).trans hb2
  have HK := Lib.hid hks; clear hks
  have HI := Lib.hid ih; clear ih
  go_enter Tryd.func117, Tryd.ntmps117
  go_wp2_with fail
  refine (HI.out k n nm ks _ a m c C (d + 1) q hN hN2 hns (HK.out.below (bal0 _ _)) (by simp; omega) (f0 _) (f1 _) h0 hq1 (by omega) (by omega)).mono ?_
  rintro e w1 ⟨r, q', rfl, hg, hc, hfz, h2, h3, h4, h5⟩
  have H4 := Lib.hid (And.intro h4 h5)
  clear h4 h5
  go_wp2_with fail
  go_ret
  refine ⟨r, q', rfl, ?_, hc, hfz, h2, h3, H4.out.1, H4.out.2⟩
  exact ⟨hg.os.trans (bal0 w _).os, hg.tape.trans (bal0 w _).tape, hg.output.trans (bal0 w _).output, Nat.le_trans (bal0 w _).size hg.size, fun x hx hne => (hg.block x (Nat.lt_of_lt_of_le hx (bal0 w _).size) hne).trans ((bal0 w _).block x hx)⟩

theorem al1 (w : World) (vs : Array Value) (ty : Nat) (v : Value) (h : vs[0]? = some v) : (w.alloc (.cells vs ty)).cell? ⟨w.heap.size, 0, none⟩ = some v := by
  simp [h]
theorem al2 (w : World) (o1 : Obj) (vs : Array Value) (ty : Nat) (v : Value) (o3 : Obj) (h : vs[0]? = some v) : (((w.alloc o1).alloc (.cells vs ty)).alloc o3).cell? ⟨w.heap.size + 1, 0, none⟩ = some v := by
  have e : (w.alloc o1).heap.size = w.heap.size + 1 := by simp
  rw [(bal0 ((w.alloc o1).alloc (.cells vs ty)) o3).cell (p := ⟨w.heap.size + 1, 0, none⟩) (by simp), ← e]
  exact al1 _ vs ty v h
theorem al3 (w : World) (o1 o2 : Obj) (vs : Array Value) (ty : Nat) (v : Value) (h : vs[0]? = some v) : (((w.alloc o1).alloc o2).alloc (.cells vs ty)).cell? ⟨w.heap.size + 1 + 1, 0, none⟩ = some v := by
  have e : ((w.alloc o1).alloc o2).heap.size = w.heap.size + 1 + 1 := by simp
  rw [← e]
  exact al1 _ vs ty v h

theorem shapes_iff (ts : List Tm) (d : Nat) : shapes ts d = true ↔ ∀ t ∈ ts, shape t d = true := by rw [shapes_all, List.all_eq_true]

theorem scanKids_any (N : Nat) (ih : Scn N) (ks : List Tm) (W : World) (a : Option Addr) (c C B1 B2 : Nat) (d q : Int) (hN : nodesL ks ≤ N) (hN2 : N ≤ 1048576) (hns : namesLeL ks 1048576 = true) (hks : TmSl (fun b => b ≠ C) W ks a ks.length)
    (hC : C < W.heap.size) (hq : W.cell? ⟨C, 0, none⟩ = some (.int .i64 (q + 1))) (hf : W.frozen? ⟨C, 0, none⟩ = false) (h0 : 0 ≤ q) (hd0 : 1 ≤ d) (hs0 : q + 1 ≤ 120) (hs1 : d ≤ 30)
    (hB1 : B1 < W.heap.size) (hB2 : B2 < W.heap.size) (hn1 : B1 ≠ C) (hn2 : B2 ≠ C) (hb1 : W.cell? ⟨B1, 0, none⟩ = some (.int .i64 d)) (hb2 : W.cell? ⟨B2, 0, none⟩ = some (.pointer (some ⟨C, 0, none⟩))) :
  Calls Tryd.prog 116 #[.slice a ks.length c, .func (.func 117) #[] #[.pointer (some ⟨B1, 0, none⟩), .pointer (some ⟨B2, 0, none⟩)]] W fun e w' =>
    ∃ r q', e = .returned (.bool (!r)) ∧ W.grownBy w' (some C) ∧ w'.cell? ⟨C, 0, none⟩ = some (.int .i64 q') ∧ w'.frozen? ⟨C, 0, none⟩ = false ∧ q + 1 ≤ q' ∧ q' ≤ q + 1 + nodesL ks ∧
      (r = true → shapes ks (30 - d).toNat = true ∧ q' = q + 1 + nodesL ks ∧ q' ≤ 120) ∧
      (shapes ks (30 - d).toNat = true → q + 1 + nodesL ks ≤ 120 → r = true) := by
  have hlen := nodesL_len ks
  have hload0 : ∀ (k : Nat) (h : k < ks.length), ∃ b o, a = some ⟨b, o, none⟩ ∧ b < W.heap.size ∧ b ≠ C ∧ W.cell? ⟨b, o + k * 4, none⟩ = some (.int .i64 ks[k].kind) ∧ W.cell? ⟨b, o + k * 4 + 1, none⟩ = some (.int .i64 ks[k].n) ∧ W.cell? ⟨b, o + k * 4 + 2, none⟩ = some (.string ⟨ks[k].name.toArray⟩) ∧
      ∃ a' n' c', W.cell? ⟨b, o + k * 4 + 3, none⟩ = some (.slice a' n' c') ∧ TmSl (fun b => b ≠ C) W ks[k].kids a' n' := by
    intro k h
    obtain ⟨b, o, ha, hlt, hne, hr⟩ := hks.2 (by omega)
    exact ⟨b, o, ha, hlt, hne, rowAt_get hr k h⟩
  obtain ⟨kv, hkv⟩ : ∃ kv : Nat → Value, ∀ (k : Nat) b o, a = some ⟨b, o, none⟩ → kv k = (W.cell? ⟨b, o + k * 4 + 3, none⟩).getD .nilFunc := by
    refine ⟨fun k => match a with | none => .nilFunc | some p => (W.cell? ⟨p.block, p.off + k * 4 + 3, none⟩).getD .nilFunc, ?_⟩
    rintro k b o rfl
    rfl
  refine (hasTerm_any 117 #[.pointer (some ⟨B1, 0, none⟩), .pointer (some ⟨B2, 0, none⟩)] enter_scan1
    (fun k V => W.grownBy V (some C) ∧ V.cell? ⟨C, 0, none⟩ = some (.int .i64 (q + 1 + nodesL (ks.take k))) ∧ V.frozen? ⟨C, 0, none⟩ = false ∧ (∀ t ∈ ks.take k, shape t (30 - d).toNat = true) ∧ q + 1 + nodesL (ks.take k) ≤ 120)
    (fun _ V => W.grownBy V (some C) ∧ ∃ q', V.cell? ⟨C, 0, none⟩ = some (.int .i64 q') ∧ V.frozen? ⟨C, 0, none⟩ = false ∧ q + 1 ≤ q' ∧ q' ≤ q + 1 + nodesL ks ∧ ¬ (shapes ks (30 - d).toNat = true ∧ q + 1 + nodesL ks ≤ 120))
    ks kv a c (by omega) ?_ ?_ W ⟨World.grownBy.refl _ _, by simpa [nodesL] using hq, hf, by simp, by simpa [nodesL] using hs0⟩).mono ?_
  · rintro V k h ⟨hg, -⟩
    obtain ⟨b, o, ha, hlt, hne, c0, c1, c2, a', n', c', c3, -⟩ := hload0 k h
    have hnn : ∀ i, (some (Addr.mk b i none).block : Option Nat) ≠ some C := fun i e => hne (by simpa using e)
    refine ⟨b, o, ha, (hg.cell_far _ hlt (hnn _)).trans c0, (hg.cell_far _ hlt (hnn _)).trans c1, (hg.cell_far _ hlt (hnn _)).trans c2, (hg.cell_far _ hlt (hnn _)).trans ?_⟩
    rw [hkv k b o ha, c3]; rfl
  · rintro V k h ⟨hg, hq1, hf1, hsh, h120⟩
    obtain ⟨b, o, ha, hlt, hne, -, -, -, a', n', c', c3, hts⟩ := hload0 k h
    have hkk : kv k = .slice a' n' c' := by rw [hkv k b o ha, c3]; rfl
    have hts' : TmSl (fun b => b ≠ C) V ks[k].kids a' n' := hts.mono hg.size (fun _ h => h) (fun b hb hl => hg.block b hl (fun e => hb (by simpa using e)))
    have hmem := nodes_mem (List.getElem_mem h)
    have ht := nodesL_take ks k h
    have hle := nodesL_take_le ks (k + 1)
    have heta : Tm.mk ks[k].kind ks[k].n ks[k].name ks[k].kids = ks[k] := by cases ks[k]; rfl
    have hd2 : (31 - (d + 1)).toNat = (30 - d).toNat := by omega
    rw [hkk]
    refine (scan1_any N ih _ _ _ ks[k].kids V a' n' c' C B1 B2 d _ (by rw [heta]; omega) hN2 (by rw [heta]; exact namesLeL_mem hns (List.getElem_mem h)) hts' (Nat.lt_of_lt_of_le hC hg.size) hq1 hf1 (by omega) (by omega) hd0 hs1
      (Nat.lt_of_lt_of_le hB1 hg.size) (Nat.lt_of_lt_of_le hB2 hg.size) ((hg.cell_far ⟨B1, 0, none⟩ hB1 (by simpa using hn1)).trans hb1) ((hg.cell_far ⟨B2, 0, none⟩ hB2 (by simpa using hn2)).trans hb2)).mono ?_
    rw [heta, hd2]
    rintro e V2 ⟨r, q', rfl, hg2, hc2, hf2, h2, h3, h4, h5⟩
    refine ⟨!r, rfl, fun hr => ?_, fun hr => ?_⟩
    · refine ⟨hg.trans hg2, q', hc2, hf2, by omega, by omega, ?_⟩
      rintro ⟨hs, hle2⟩
      have := h5 ((shapes_iff _ _).1 hs _ (List.getElem_mem h)) (by omega)
      rw [this] at hr
      simp at hr
    · obtain ⟨h6, h7, h8⟩ := h4 (by simpa using hr)
      refine ⟨hg.trans hg2, by rw [hc2, h7, ht]; congr 2; omega, hf2, ?_, by omega⟩
      intro t htm
      rw [List.take_succ_eq_append_getElem h] at htm
      rcases List.mem_append.1 htm with h9 | h9
      · exact hsh t h9
      · rw [List.mem_singleton.1 h9]; exact h6
  · rintro e V (⟨rfl, k, hk, hg, q', hc, hf, h2, h3, h4⟩ | ⟨rfl, hg, hc, hf, hsh, h120⟩)
    · exact ⟨false, q', rfl, hg, hc, hf, h2, h3, by simp, fun h h' => absurd ⟨h, h'⟩ h4⟩
    · rw [List.take_length] at hc hsh h120
      exact ⟨true, _, rfl, hg, hc, hf, by omega, by omega, fun _ => ⟨(shapes_iff _ _).2 hsh, rfl, h120⟩, fun _ _ => rfl⟩

set_option maxRecDepth 100000 in
set_option maxHeartbeats 1000000 in
theorem scan_good (n : Int) (nm : By) (ks : List Tm) (w : World) (a : Option Addr) (m c C : Nat) (d q : Int) (N : Nat) (ih : Scn N) (hN : nodesL ks ≤ N) (hN2 : N < 1048576) (hns : namesLeL ks 1048576 = true) (hks : TmSl (fun b => b ≠ C) w ks a m)
    (hC : C < w.heap.size) (hq : w.cell? ⟨C, 0, none⟩ = some (.int .i64 q)) (hf : w.frozen? ⟨C, 0, none⟩ = false) (h0 : 0 ≤ q) (hd0 : 1 ≤ d) (hs0 : q + 1 ≤ 120) (hs1 : d ≤ 30) (hl : nm.length ≤ 1048576) (hm : m ≤ 1048576) (hok : ownOk 3 n nm m = true) :
  Calls Tryd.prog 100 #[.agg #[.int .i64 3, .int .i64 n, .string ⟨nm.toArray⟩, .slice a m c], .int .i64 d, .pointer (some ⟨C, 0, none⟩)] w fun e w' =>
    ∃ r q', e = .returned (.bool r) ∧ w.grownBy w' (some C) ∧ w'.cell? ⟨C, 0, none⟩ = some (.int .i64 q') ∧ w'.frozen? ⟨C, 0, none⟩ = false ∧ q + 1 ≤ q' ∧ q' ≤ q + 1 + nodesL ks ∧
      (r = true → shapes ks (30 - d).toNat = true ∧ q' = q + 1 + nodesL ks ∧ q' ≤ 120) ∧
      (shapes ks (30 - d).toNat = true → q + 1 + nodesL ks ≤ 120 → r = true) := by
  have hE : ownOk 3 n nm m = (decide (n = 0) && nameOk nm && decide (m ≤ 4)) := rfl
  rw [hE] at hok
  simp only [Bool.and_eq_true, decide_eq_true_eq] at hok
  obtain ⟨⟨rfl, hnv⟩, hm4⟩ := hok
  clear hE
  have e1 : ∀ o1 o2 o3, (((w.alloc o1).alloc o2).alloc o3).cell? ⟨C, 0, none⟩ = some (.int .i64 q) := fun o1 o2 o3 => ((bal (bal (bal0 w o1) o2) o3).cell (p := ⟨C, 0, none⟩) hC).trans hq
  have e2 : ∀ o1 o2 o3, (((w.alloc o1).alloc o2).alloc o3).frozen? ⟨C, 0, none⟩ = false := fun o1 o2 o3 => ((bal (bal (bal0 w o1) o2) o3).frozen (p := ⟨C, 0, none⟩) hC).trans hf
  have hn0 : C ≠ w.heap.size := by omega
  have hn1 : C ≠ w.heap.size + 1 := by omega
  have hn2 : C ≠ w.heap.size + 2 := by omega
  have hn3 : C ≠ w.heap.size + 1 + 1 := by omega
  have HK := Lib.hid hks; clear hks
  have HI := Lib.hid ih; clear ih
  go_enter Tryd.func100, Tryd.ntmps100
  go_wp2_with fail
  refine (implNameValid_any _ _ (by omega)).mono ?_
  rintro e w1 ⟨rfl, hb1⟩
  rw [hnv]
  obtain ⟨hc1, hf1⟩ := bcell hb1
  have hz1 := bsz w.heap.size hb1 (by first | omega | (simp; omega))
  have hz2 := bsz (w.heap.size + 1) hb1 (by simp)
  have hz3 := bsz (w.heap.size + 1 + 1) hb1 (by simp)
  have hg1 : w.grownBy w1 (some C) := (set_grown (bal (bal (bal0 _ _) _) _) C _).below_next hb1
  go_wp2_with fail
  have qq1 : w1.cell? ⟨w.heap.size + 1, 0, none⟩ = some (.int .i64 d) := by rw [hc1 (w.heap.size + 1) 0 (by simp), World.cell?_setCell_other _ _ _ _ (fun e => hn1 (congrArg Addr.block e))]; exact al2 _ _ _ _ _ _ rfl
  have qq2 : w1.cell? ⟨w.heap.size + 1 + 1, 0, none⟩ = some (.pointer (some ⟨C, 0, none⟩)) := by rw [hc1 (w.heap.size + 1 + 1) 0 (by simp), World.cell?_setCell_other _ _ _ _ (fun e => hn3 (congrArg Addr.block e))]; exact al3 _ _ _ _ _ _ rfl
  have hm : m = ks.length := HK.out.1
  subst hm
  refine (scanKids_any N HI.out ks w1 a c C (w.heap.size + 1) (w.heap.size + 1 + 1) d q hN (by omega) hns (HK.out.mono hg1.size (fun _ h => h) (fun b hb hl => hg1.block b hl (fun e => hb (by simpa using e)))) (by omega) ((hc1 C 0 (by simp; omega)).trans (set_cell _ C _ _ (e1 _ _ _))) ((hf1 C 0 (by simp; omega)).trans (set_frozen _ C _ (e2 _ _ _))) h0 hd0 hs0 hs1 hz2 hz3 (Ne.symm hn1) (Ne.symm hn3) qq1 qq2).mono ?_
  rintro e w2 ⟨r, q', rfl, hg2, hc2, hf2, h2, h3, h4⟩
  have H4 := Lib.hid h4
  clear h4
  go_wp2_with fail
  go_ret
  exact ⟨r, q', by simp, hg1.trans hg2, hc2, hf2, h2, h3, H4.out⟩
end Go.Proofs.YtlknhjibadbeeaaDoor
