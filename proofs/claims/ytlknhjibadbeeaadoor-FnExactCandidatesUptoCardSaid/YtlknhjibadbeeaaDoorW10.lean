/- Walks over clauses: szClause, toClause, eqClause. -/
import Derived.Test.YtlknhjibadbeeaaDoorW9
import Derived.Test.YtlknhjibadbeeaaDoorM3
namespace Go.Proofs.YtlknhjibadbeeaaDoor
open Go.RowKit

attribute [local go_sem] ba_get ba_append

/-- a clause that is not too large for any machine -/
def ClSmall (c : Cl) : Prop := nodes c.head ≤ 1048576 ∧ nodesL c.body ≤ 1048576 ∧ namesLe c.head 1048576 = true ∧ namesLeL c.body 1048576 = true
theorem Tm.eta (t : Tm) : Tm.mk t.kind t.n t.name t.kids = t := by cases t; rfl

set_option maxRecDepth 100000 in
theorem szClause_any (S : Nat → Prop) (cl : Cl) (w : World) (a a' : Option Addr) (m c m' c' : Nat) (left : Int) (hs : ClSmall cl) (h : TmSl S w cl.head.kids a m) (h' : TmSl S w cl.body a' m') (h1 : 0 ≤ left) (h2 : left ≤ 1048576) :
    Calls Tryd.prog 34 #[.agg #[.int .i64 cl.head.kind, .int .i64 cl.head.n, .string ⟨cl.head.name.toArray⟩, .slice a m c, .slice a' m' c'], .int .i64 left] w fun e w' => (∃ r : Int, e = .returned (.int .i64 r) ∧ -1 ≤ r ∧ r ≤ left) ∧ Below w.heap.size w w' := by
  obtain ⟨s1, s2, s3, s4⟩ := hs
  have H := Lib.hid h; clear h
  have H' := Lib.hid h'; clear h'
  have S1 := Lib.hid (show nodes (.mk cl.head.kind cl.head.n cl.head.name cl.head.kids) ≤ 1048576 by rw [Tm.eta]; exact s1)
  have S3 := Lib.hid (show namesLe (.mk cl.head.kind cl.head.n cl.head.name cl.head.kids) 1048576 = true by rw [Tm.eta]; exact s3)
  have S4 := Lib.hid s4
  clear s1 s3 s4
  go_enter Tryd.func34, Tryd.ntmps34
  go_wp2_with fail
  refine ((szTerm_all 1048576).1 S _ _ _ _ _ _ _ _ _ S1.out (by omega) S3.out (H.out.below (bal0 _ _)) h1 h2).mono ?_
  rintro e w1 ⟨⟨r, rfl, hr1, hr2⟩, hb1⟩
  obtain ⟨hc1, hf1⟩ := bcell hb1
  have hz1 := bsz w.heap.size hb1 (by simp)
  by_cases hneg : r < 0
  · go_wp2_with fail
    go_ret
    exact ⟨⟨_, rfl, by omega, by omega⟩, bnext (bal0 _ _) hb1⟩
  · have HB1 := Lib.hid (bnext (bal0 _ _) hb1)
    go_wp2_with fail
    refine ((szTerm_all 1048576).2 S _ _ _ _ _ _ s2 (by omega) S4.out (H'.out.below HB1.out) (by omega) (by omega)).mono ?_
    rintro e w2 ⟨⟨r2, rfl, hr3, hr4⟩, hb2⟩
    by_cases hneg2 : r2 < 0
    · go_wp2_with fail
      go_ret
      exact ⟨⟨_, rfl, by omega, by omega⟩, bnext HB1.out hb2⟩
    · go_wp2_with fail
      go_ret
      exact ⟨⟨_, rfl, by omega, by omega⟩, bnext HB1.out hb2⟩

set_option maxRecDepth 100000 in
set_option maxHeartbeats 400000 in
theorem szClauseS_any (S : Nat → Prop) (cs : List Cl) (w : World) (a : Option Addr) (m c : Nat) (left : Int) (hs : ∀ x ∈ cs, ClSmall x) (h : ClSl S w cs a m) (hm : m ≤ 1048576) (h1 : 0 ≤ left) (h2 : left ≤ 1048576) :
    Calls Tryd.prog 11 #[.slice a m c, .int .i64 left] w fun e w' => (∃ r : Int, e = .returned (.int .i64 r) ∧ -1 ≤ r ∧ r ≤ left) ∧ Below w.heap.size w w' := by
  have H := Lib.hid h; clear h
  have HS := Lib.hid hs; clear hs
  go_enter Tryd.func11, Tryd.ntmps11
  go_wp2_with fail
  · go_ret
    exact ⟨⟨_, rfl, by omega, by omega⟩, Below.refl _ _⟩
  go_loopw [1, 5] (fun i j wr => ∃ k : Nat, k ≤ m ∧ j = .int .i64 k ∧ ∃ l : Int, 0 ≤ l ∧ l ≤ left ∧ i = .int .i64 l ∧ Below w.heap.size w wr) (fun _ i _ => m - (intOf i).toNat)
  case atStart => exact ⟨0, Nat.zero_le _, rfl, _, by omega, by omega, rfl, Below.refl _ _⟩
  case round =>
    obtain ⟨k, hk, rfl, l, hl1, hl2, rfl, hb⟩ := hrel
    by_cases hlt : k < m
    · have hlx : k < cs.length := by rw [← H.out.1]; exact hlt
      obtain ⟨b, o, rfl, hb0, -, hr⟩ := H.out.2 (by omega)
      obtain ⟨c0, c1, c2, ⟨a1, n1, c1', c3, hs3⟩, ⟨a2, n2, c2', c4, hs4⟩⟩ := (hr.below hb hb0) k hlx
      have H3 := Lib.hid hs3
      have H4 := Lib.hid hs4
      have HM := Lib.hid (HS.out _ (List.getElem_mem hlx))
      clear hr hs3 hs4
      go_wp2_with fail
      refine (szClause_any S cs[k] _ _ _ _ _ _ _ _ HM.out H3.out H4.out hl1 (by omega)).mono ?_
      rintro e w1 ⟨⟨r, rfl, hr1, hr2⟩, hb1⟩
      by_cases hneg : r < 0
      · go_wp2_with fail
        go_ret
        exact ⟨⟨_, rfl, by omega, by omega⟩, bnext hb hb1⟩
      · go_wp2_with fail
        go_roundw
        case rel => exact ⟨k + 1, by omega, by go_num, _, by omega, by omega, rfl, bnext hb hb1⟩
        case measure => simp [intOf]; omega
    · go_wp2_with fail
      go_ret
      exact ⟨⟨_, rfl, by omega, by omega⟩, hb⟩

set_option maxRecDepth 100000 in
theorem toClause_any (S : Nat → Prop) (cl : Cl) (w : World) (a a' : Option Addr) (m c m' c' : Nat) (hs : ClSmall cl) (h : TmSl S w cl.head.kids a m) (h' : TmSl S w cl.body a' m') :
    Calls Tryd.prog 40 #[.agg #[.int .i64 cl.head.kind, .int .i64 cl.head.n, .string ⟨cl.head.name.toArray⟩, .slice a m c, .slice a' m' c']] w fun e w' =>
      (∃ a1 m1 c1 a2 m2 c2, e = .returned (.agg #[.int .i64 cl.head.kind, .int .i64 cl.head.n, .string ⟨cl.head.name.toArray⟩, .slice a1 m1 c1, .slice a2 m2 c2]) ∧ TmSl (fun b => w.heap.size ≤ b) w' cl.head.kids a1 m1 ∧ TmSl (fun b => w.heap.size ≤ b) w' cl.body a2 m2) ∧ Below w.heap.size w w' := by
  obtain ⟨s1, s2, s3, s4⟩ := hs
  have H := Lib.hid h; clear h
  have H' := Lib.hid h'; clear h'
  have S1 := Lib.hid (show nodes (.mk cl.head.kind cl.head.n cl.head.name cl.head.kids) ≤ 1048576 by rw [Tm.eta]; exact s1)
  clear s1 s3 s4
  go_enter Tryd.func40, Tryd.ntmps40
  go_wp2_with fail
  refine ((toTerm_all 1048576).1 S _ _ _ _ _ _ _ _ S1.out (by omega) (H.out.below (bal (bal (bal0 _ _) _) _))).mono ?_
  rintro e w1 ⟨⟨a1, m1, c1, rfl, ht1⟩, hb1⟩
  obtain ⟨hc1, hf1⟩ := bcell hb1
  have hz1 := bsz w.heap.size hb1 (by simp; omega)
  have hz2 := bsz (w.heap.size + 1) hb1 (by simp)
  have hz3 := bsz (w.heap.size + 1 + 1) hb1 (by simp)
  have HT1 := Lib.hid ht1; clear ht1
  have HB1 := Lib.hid (bnext (bal (bal (bal0 _ _) _) _) hb1)
  go_wp2_with fail
  have HB2 := Lib.hid (below_store4 HB1.out (show w.heap.size ≤ w.heap.size + 1 + 1 by omega) 0 1 2 3 (.int .i64 cl.head.kind) (.int .i64 cl.head.n) (.string ⟨cl.head.name.toArray⟩) (.slice a1 m1 c1))
  have HT1' := Lib.hid (HT1.out.mono (S' := fun b => w.heap.size + 1 + 1 < b) (w' := (((w1.setCell ⟨w.heap.size + 1 + 1, 0, none⟩ (.int .i64 cl.head.kind)).setCell ⟨w.heap.size + 1 + 1, 1, none⟩ (.int .i64 cl.head.n)).setCell ⟨w.heap.size + 1 + 1, 2, none⟩ (.string ⟨cl.head.name.toArray⟩)).setCell ⟨w.heap.size + 1 + 1, 3, none⟩ (.slice a1 m1 c1)) (by rw [store4_size]; exact Nat.le_refl _) (fun b hb => by simp at hb; omega) (fun b hb _ => store4_block _ _ _ _ _ _ _ _ b (by simp at hb; omega)))
  clear HT1
  refine ((toTerm_all 1048576).2 S _ _ _ _ _ s2 (by omega) (H'.out.below HB2.out)).mono ?_
  rintro e w3 ⟨⟨b3, rfl, ht3⟩, hb3⟩
  have HT3 := Lib.hid (ht3.mono (S' := fun b => w.heap.size + 1 + 1 < b) (Nat.le_refl _) (fun b hb => by rw [store4_size] at hb; omega) (fun _ _ _ => rfl)); clear ht3
  have HT1'' := Lib.hid (HT1'.out.below hb3)
  have HB3 := Lib.hid (bnext HB2.out hb3)
  obtain ⟨hc3, hf3⟩ := bcell hb3
  have hq1 := bsz w.heap.size hb3 (by rw [store4_size]; omega)
  have hq2 := bsz (w.heap.size + 1) hb3 (by rw [store4_size]; omega)
  have hq3 := bsz (w.heap.size + 1 + 1) hb3 (by rw [store4_size]; omega)
  clear HT1'
  go_wp2_with fail
  refine bodyPost_ret (v := .agg #[.int .i64 cl.head.kind, .int .i64 cl.head.n, .string ⟨cl.head.name.toArray⟩, .slice a1 m1 c1, .slice (some ⟨b3, 0, none⟩) m' m']) (by simp [results, Tryd.results40, go_sem, hc3, hc1, hz2]) rfl ⟨⟨_, _, _, _, _, _, rfl, ?_, ?_⟩, ?_⟩
  · refine HT1''.out.mono (by simp [World.setCell]) (fun b hb => by omega) (fun b hb _ => ?_)
    rw [Below.heap_setCell, Below.heap_setCell, Below.heap_setCell, Below.heap_setCell, Below.heap_setCell, Below.heap_setCell] <;> (simp; omega)
  · refine HT3.out.mono (by simp [World.setCell]) (fun b hb => by omega) (fun b hb _ => ?_)
    rw [Below.heap_setCell, Below.heap_setCell, Below.heap_setCell, Below.heap_setCell, Below.heap_setCell, Below.heap_setCell] <;> (simp; omega)
  · refine ((((((HB3.out.setCell ?_ _).setCell ?_ _).setCell ?_ _).setCell ?_ _).setCell ?_ _).setCell ?_ _) <;> (simp; try omega)

theorem infoClause : (Tryd.prog.info? 77).map (fun i => (i.zero, i.size, i.bytes)) = some (some (.agg #[.int .i64 0, .int .i64 0, .string ⟨#[]⟩, .slice none 0 0, .slice none 0 0]), 5, 80) := by kernel_rfl

set_option maxRecDepth 100000 in
set_option maxHeartbeats 1000000 in
theorem toClauseS_any (S : Nat → Prop) (ks : List Cl) (w : World) (a : Option Addr) (m c : Nat) (hs : ∀ x ∈ ks, ClSmall x) (h : ClSl S w ks a m) (hm : m ≤ 1048576) :
    Calls Tryd.prog 14 #[.slice a m c] w fun e w' => (∃ b, e = .returned (.slice (some ⟨b, 0, none⟩) m m) ∧ ClSl (fun b => w.heap.size ≤ b) w' ks (some ⟨b, 0, none⟩) m) ∧ Below w.heap.size w w' := by
  obtain ⟨i0, hi, hz0, hz1, hz2⟩ := info_parts infoClause
  have H := Lib.hid h; clear h
  have HM := Lib.hid hs; clear hs
  go_enter Tryd.func14, Tryd.ntmps14
  go_wp2_with (refine wpList_make_full _ rfl _ _ 37 rfl w.heap.size 77 i0 _ 5 Tryd.underlying37 hi hz0 hz1 _ _ _ _ m rfl rfl rfl rfl ?c2 ?c3 ?c4 ?_)
  case c2 => rw [hz2]; omega
  case c3 => unfold maxLen; omega
  case c4 => exact Nat.le_refl _
  intro w1 hown hgrow
  have HB1 := Lib.hid (show Below w.heap.size w w1 from (Below.refl _ _).grown hgrow (Nat.le_refl _) (fun k hk => by cases hk))
  have HO1 := Lib.hid hown; clear hown hgrow
  go_wp2_with fail
  go_loopw [4] (fun j wr => ∃ k : Nat, k ≤ m ∧ j = .int .i64 k ∧ Below w.heap.size w wr ∧ Hid (∃ cs vs us, wr.ownsRow w.heap.size 77 5 (.slice (some ⟨w.heap.size, 0, none⟩) m m) m cs ∧ Done5 cs (clF ks vs us) k ∧ vs.length = k ∧ us.length = k ∧ SlsAt (fun b => w.heap.size < b) wr (fun c => c.head.kids) ks vs ∧ SlsAt (fun b => w.heap.size < b) wr (fun c => c.body) ks us)) (fun i _ => m - (intOf i).toNat)
  case atStart => exact ⟨0, Nat.zero_le _, rfl, HB1.out, Lib.hid ⟨_, [], [], HO1.out, fun j hj => by omega, rfl, rfl, fun j t v _ hv => by simp at hv, fun j t v _ hv => by simp at hv⟩⟩
  case round =>
    obtain ⟨k, hk, rfl, hb, HD⟩ := hrel
    by_cases hlt : k < m
    · have hlx : k < ks.length := by rw [← H.out.1]; exact hlt
      obtain ⟨b, o, rfl, hb0, -, hr⟩ := H.out.2 (by omega)
      obtain ⟨c0, c1, c2, ⟨a3, n3, c3', c3, hs3⟩, ⟨a4, n4, c4', c4, hs4⟩⟩ := (hr.below hb hb0) k hlx
      have H3 := Lib.hid hs3
      have H4 := Lib.hid hs4
      have HMk := Lib.hid (HM.out _ (List.getElem_mem hlx))
      clear hr hs3 hs4
      go_wp2_with fail
      refine (toClause_any S ks[k] _ _ _ _ _ _ _ HMk.out H3.out H4.out).mono ?_
      rintro e w2 ⟨⟨a1, m1, c1', a2, m2, c2', rfl, ht1, ht2⟩, hb2⟩
      obtain ⟨cs, vs, us, hown, hd, hvl, hul, hka, hkb⟩ := HD.out
      have hg : w.heap.size < wr.heap.size := own_lt5 hown
      have hown2 := own_next hown hb2
      obtain ⟨u0, hu0⟩ := own_has5 hown2 (k * 5) (by omega)
      obtain ⟨u1, hu1⟩ := own_has5 hown2 (k * 5 + 1) (by omega)
      obtain ⟨u2, hu2⟩ := own_has5 hown2 (k * 5 + 2) (by omega)
      obtain ⟨u3, hu3⟩ := own_has5 hown2 (k * 5 + 3) (by omega)
      obtain ⟨u4, hu4⟩ := own_has5 hown2 (k * 5 + 4) (by omega)
      have hf0 := hown2.frozenAt (k * 5)
      have hf1 := hown2.frozenAt (k * 5 + 1)
      have hf2 := hown2.frozenAt (k * 5 + 2)
      have hf3 := hown2.frozenAt (k * 5 + 3)
      have hf4 := hown2.frozenAt (k * 5 + 4)
      have HO2 := Lib.hid hown2
      have HK := Lib.hid (show SlsAt (fun b => w.heap.size < b) w2 (fun c => c.head.kids) ks (vs ++ [.slice a1 m1 c1']) from (hka.mono hb2.size (fun _ h => h) (fun b _ hl => hb2.block b hl)).snoc (fun t ht => by
        rw [hvl, List.getElem?_eq_getElem hlx] at ht
        cases ht
        exact ht1.mono (Nat.le_refl _) (fun b hb => by omega) (fun _ _ _ => rfl)))
      have HK2 := Lib.hid (show SlsAt (fun b => w.heap.size < b) w2 (fun c => c.body) ks (us ++ [.slice a2 m2 c2']) from (hkb.mono hb2.size (fun _ h => h) (fun b _ hl => hb2.block b hl)).snoc (fun t ht => by
        rw [hul, List.getElem?_eq_getElem hlx] at ht
        cases ht
        exact ht2.mono (Nat.le_refl _) (fun b hb => by omega) (fun _ _ _ => rfl)))
      have HD2 := Lib.hid (done5_snoc (v := .slice a1 m1 c1') (u := .slice a2 m2 c2') hvl hul hd)
      have HV3 := Lib.hid (show Value.slice a1 m1 c1' = clF ks (vs ++ [.slice a1 m1 c1']) (us ++ [.slice a2 m2 c2']) k 3 by rw [clF_3 hlx, ← hvl]; simp)
      have HV4 := Lib.hid (show Value.slice a2 m2 c2' = clF ks (vs ++ [.slice a1 m1 c1']) (us ++ [.slice a2 m2 c2']) k 4 by rw [clF_4 hlx, ← hul]; simp)
      have HVL := Lib.hid hvl
      have HUL := Lib.hid hul
      clear hown hown2 hka hkb hd ht1 ht2 hvl hul
      go_wp2_with fail
      go_roundw
      case rel => exact ⟨k + 1, by omega, by go_num, below_store5 (bnext hb hb2) (Nat.le_refl _) _ _ _ _ _ _ _ _ _ _, Lib.hid ⟨_, vs ++ [.slice a1 m1 c1'], us ++ [.slice a2 m2 c2'], own_store5 HO2.out k _ _ _ _ _, done5_set HO2.out.1 hlt HD2.out (clF_0 hlx).symm (clF_1 hlx).symm (clF_2 hlx).symm HV3.out HV4.out, by simp [HVL.out], by simp [HUL.out], HK.out.mono (by rw [store5_size]; exact Nat.le_refl _) (fun _ h => h) (fun b hb _ => store5_block _ _ _ _ _ _ _ _ _ _ b (by omega)), HK2.out.mono (by rw [store5_size]; exact Nat.le_refl _) (fun _ h => h) (fun b hb _ => store5_block _ _ _ _ _ _ _ _ _ _ b (by omega))⟩⟩
      case measure => simp [intOf]; omega
    · obtain ⟨cs, vs, us, hown, hd, hvl, hul, hka, hkb⟩ := HD.out
      obtain rfl : k = m := by omega
      have HO2 := Lib.hid hown
      have HK := Lib.hid (hka.mono (S' := fun b => w.heap.size ≤ b) (Nat.le_refl _) (fun b hb => Nat.le_of_lt hb) (fun _ _ _ => rfl))
      have HK2 := Lib.hid (hkb.mono (S' := fun b => w.heap.size ≤ b) (Nat.le_refl _) (fun b hb => Nat.le_of_lt hb) (fun _ _ _ => rfl))
      have HD2 := Lib.hid hd
      have HVL := Lib.hid hvl
      have HUL := Lib.hid hul
      clear hown hka hkb hd hvl hul
      go_wp2_with fail
      go_ret
      exact ⟨⟨_, rfl, clSl_of_done HO2.out H.out.1 HVL.out HUL.out HD2.out HK.out HK2.out (Nat.le_refl _)⟩, hb⟩

set_option maxRecDepth 100000 in
theorem eqClause_any (S S' : Nat → Prop) (cl : Cl) (w : World) (a a' b b' : Option Addr) (m c m' c' n d n' d' : Nat) (hs : ClSmall cl) (h1 : TmSl S w cl.head.kids a m) (h2 : TmSl S w cl.body a' m') (h3 : TmSl S' w cl.head.kids b n) (h4 : TmSl S' w cl.body b' n') :
    Calls Tryd.prog 44 #[.agg #[.int .i64 cl.head.kind, .int .i64 cl.head.n, .string ⟨cl.head.name.toArray⟩, .slice a m c, .slice a' m' c'], .agg #[.int .i64 cl.head.kind, .int .i64 cl.head.n, .string ⟨cl.head.name.toArray⟩, .slice b n d, .slice b' n' d']] w fun e w' => e = .returned (.bool true) ∧ Below w.heap.size w w' := by
  obtain ⟨s1, s2, s3, s4⟩ := hs
  have H1 := Lib.hid h1; have H2 := Lib.hid h2; have H3 := Lib.hid h3; have H4 := Lib.hid h4
  have S1 := Lib.hid (show nodes (.mk cl.head.kind cl.head.n cl.head.name cl.head.kids) ≤ 1048576 by rw [Tm.eta]; exact s1)
  clear s1 s3 s4 h1 h2 h3 h4
  go_enter Tryd.func44, Tryd.ntmps44
  go_wp2_with fail
  refine ((eqTerm_all 1048576).1 S S' _ _ _ _ _ _ _ _ _ _ _ S1.out (by omega) (H1.out.below (bal (bal0 _ _) _)) (H3.out.below (bal (bal0 _ _) _))).mono ?_
  rintro e w1 ⟨rfl, hb1⟩
  obtain ⟨hc1, hf1⟩ := bcell hb1
  have hz1 := bsz w.heap.size hb1 (by simp; omega)
  have hz2 := bsz (w.heap.size + 1) hb1 (by simp)
  have HB1 := Lib.hid (bnext (bal (bal0 _ _) _) hb1)
  go_wp2_with fail
  refine ((eqTerm_all 1048576).2 S S' _ _ _ _ _ _ _ _ s2 (by omega) (H2.out.below HB1.out) (H4.out.below HB1.out)).mono ?_
  rintro e w2 ⟨rfl, hb2⟩
  go_wp2_with fail
  go_ret
  exact ⟨rfl, bnext HB1.out hb2⟩

set_option maxRecDepth 100000 in
set_option maxHeartbeats 400000 in
theorem eqClauseS_any (S S' : Nat → Prop) (ks : List Cl) (w : World) (a a' : Option Addr) (m c c' : Nat) (hs : ∀ x ∈ ks, ClSmall x) (h : ClSl S w ks a m) (h' : ClSl S' w ks a' m) (hm : m ≤ 1048576) :
    Calls Tryd.prog 18 #[.slice a m c, .slice a' m c'] w fun e w' => e = .returned (.bool true) ∧ Below w.heap.size w w' := by
  have H := Lib.hid h; clear h
  have H' := Lib.hid h'; clear h'
  have HM := Lib.hid hs; clear hs
  go_enter Tryd.func18, Tryd.ntmps18
  go_wp2_with fail
  go_loopw [5] (fun j wr => ∃ k : Nat, k ≤ m ∧ j = .int .i64 k ∧ Below w.heap.size w wr) (fun i _ => m - (intOf i).toNat)
  case atStart => exact ⟨0, Nat.zero_le _, rfl, Below.refl _ _⟩
  case round =>
    obtain ⟨k, hk, rfl, hb⟩ := hrel
    by_cases hlt : k < m
    · have hlx : k < ks.length := by rw [← H.out.1]; exact hlt
      obtain ⟨b, o, rfl, hb0, -, hr⟩ := H.out.2 (by omega)
      obtain ⟨b2, o2, rfl, hb02, -, hr2⟩ := H'.out.2 (by omega)
      obtain ⟨c0, c1, c2, ⟨a3, n3, c3', c3, hs3⟩, ⟨a4, n4, c4', c4, hs4⟩⟩ := (hr.below hb hb0) k hlx
      obtain ⟨d0, d1, d2, ⟨a5, n5, c5', d3, hs5⟩, ⟨a6, n6, c6', d4, hs6⟩⟩ := (hr2.below hb hb02) k hlx
      have H3 := Lib.hid hs3; have H4 := Lib.hid hs4; have H5 := Lib.hid hs5; have H6 := Lib.hid hs6
      have HMk := Lib.hid (HM.out _ (List.getElem_mem hlx))
      clear hr hr2 hs3 hs4 hs5 hs6
      have hD := (Below.refl wr.heap.size wr).drew
      have HD := Lib.hid hD; clear hD
      go_wp2_with fail
      go_region_with (go_at_call 44; first | refine (eqClause_any S S' ks[k] _ _ _ _ _ _ _ _ _ _ _ _ _ HMk.out H3.out H4.out H5.out H6.out).mono ?_ | refine (eqClause_any S S' ks[k] _ _ _ _ _ _ _ _ _ _ _ _ _ HMk.out (H3.out.below HD.out) (H4.out.below HD.out) (H5.out.below HD.out) (H6.out.below HD.out)).mono ?_; rintro e w2 ⟨rfl, hb2⟩)
      all_goals go_wp2_with fail
      all_goals
        go_roundw
        case rel => exact ⟨k + 1, by omega, by go_num, by first | exact bnext hb hb2 | exact bnext hb.drew hb2⟩
        case measure => simp [intOf]; omega
    · go_wp2_with fail
      go_ret
      exact ⟨rfl, hb⟩

end Go.Proofs.YtlknhjibadbeeaaDoor
