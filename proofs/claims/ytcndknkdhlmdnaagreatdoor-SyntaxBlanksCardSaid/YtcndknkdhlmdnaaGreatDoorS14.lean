/-
  Texts that the statements' proofs rest on, one behind another: SxI, SxJ.
-/
import Derived.Test.YtcndknkdhlmdnaaGreatDoorS13

/-
  The program's parser: a not, a comparison.
-/
namespace Go.Proofs.YtcndknkdhlmdnaaGreatDoor
open Go.RowKit
set_option maxRecDepth 100000

def cmpS : List ByteArray := [⟨#[60]⟩, ⟨#[60, 61]⟩, ⟨#[61]⟩]
theorem cmp_no {r : List Tk} (h : ∀ j (hj : j < cmpS.length), isT cmpS[j].data.toList r = false) : anyT cmpT r = false := by
  unfold anyT cmpT
  have h0 := h 0 (by decide)
  have h1 := h 1 (by decide)
  have h2 := h 2 (by decide)
  simp only [cmpS, List.getElem_cons_zero, List.getElem_cons_succ] at h0 h1 h2
  simp [List.any_cons, h0, h1, h2]
theorem cmp_yes {r : List Tk} {k : Nat} (hk : k < cmpS.length) (h : isT cmpS[k].data.toList r = true) : anyT cmpT r = true := by
  unfold anyT
  refine List.any_eq_true.2 ⟨cmpS[k].data.toList, ?_, h⟩
  have : k = 0 ∨ k = 1 ∨ k = 2 := by simp [cmpS] at hk; omega
  rcases this with rfl | rfl | rfl <;> simp [cmpS, cmpT]
theorem cmp_cells (w : World) (j : Nat) (hj : j < cmpS.length) : (w.alloc (.cells #[.string ⟨#[60]⟩, .string ⟨#[60, 61]⟩, .string ⟨#[61]⟩] 9)).cell? ⟨w.heap.size, j, none⟩ = some (.string cmpS[j]) := by
  have : j = 0 ∨ j = 1 ∨ j = 2 := by simp [cmpS] at hj; omega
  rcases this with rfl | rfl | rfl <;> simp [cmpS]
theorem not_eq {nest : Nat} {l : List Tk} (h : isT tNot l = false) : rd .not nest l = (rd (.chain 2) nest l).then fun a r => if anyT cmpT r = true then (rd (.chain 2) nest (stepL r)).then fun b r' => made (mkN 13 (hd r).text 0 [a, b] (hd r).pos) r' else .ok (a, r) := by
  rw [rd_eq]; exact if_neg (by rw [h]; decide)
set_option maxHeartbeats 8000000 in
theorem qnot_any (P g cap : Nat) (ts : List Tk) (he : Ends ts) (htk : ∀ t ∈ ts, TkOk t) (l : List Tk) (hS : ∀ r, r.length ≤ l.length → CQ 184 (.chain 2) P g cap ts r) (hU : isT tNot l = true → CQ 154 .not P g cap ts (stepL l)) : CQ 154 .not P g cap ts l := by
  intro nest w hle h
  obtain ⟨W1, hW1⟩ : ∃ W, W = w.alloc (.cells #[.int .i64 0, .string ⟨#[]⟩, .int .i64 0, .slice none 0 0, .int .i64 0, .int .i64 0] 67) := ⟨_, rfl⟩
  have B1 := Lib.hid (show Below w.heap.size w W1 from hW1 ▸ nbelow1 _ _)
  have Z1 := Lib.hid (show T6 w.heap.size 0 ⟨#[]⟩ 0 none 0 0 0 0 W1 from hW1 ▸ T6.make w _ _ _ _ _ _ _ _)
  have HB := Lib.hid h.blocks
  have S1 := Lib.hid (h.below B1.out)
  have C1 := Lib.hid (show Calls Tryz.prog 82 #[.pointer (some ⟨P, 0, none⟩), .string ⟨#[110, 111, 116]⟩] W1 (fun e w' => e = .returned (.bool (isT tNot l)) ∧ Below W1.heap.size W1 w') from qis_s P g cap ts nest l ⟨#[110, 111, 116]⟩ W1 S1.out)
  have eg : Enters 154 := enters_of Tryz.func154 (by kernel_rfl) rfl
  cases hm : isT tNot l
  case true =>
    have HX := Lib.hid (show rd .not nest l = nestT nest l ((rd .not (nest + 1) (stepL l)).then fun t r => made (mkN 12 (hd l).text 0 [t] (hd l).pos) r) by rw [rd_eq]; exact if_pos hm)
    rw [hm] at C1
    rw [HX.out]
    have C2 := Lib.hid (fun W hs => show Calls Tryz.prog 183 #[.pointer (some ⟨P, 0, none⟩), .func (.func 154) #[.pointer (some ⟨P, 0, none⟩)] #[]] W _ from qprefix_any P g cap ts he htk nest l .not 154 #[.pointer (some ⟨P, 0, none⟩)] W hle eg hs fun hn1 W hs => hU hm (nest + 1) W hn1 hs)
    generalize nestT nest l _ = x at C2 ⊢
    clear h hS hU he htk eg hm
    go_enter Tryz.func154, Tryz.ntmps154
    go_wp2_with fail
    rw [← hW1]
    clear hW1
    (with_reducible refine Calls.mono C1.out ?_)
    rintro e W2 ⟨rfl, hb⟩
    have B2 := Lib.hid (B1.out.trans (hb.mono B1.out.size))
    have Z2 := Lib.hid (Z1.out.below hb)
    have C := Lib.hid (C2.out W2 (S1.out.below hb))
    clear hb C1 C2
    go_wp2_with fail
    (with_reducible refine Calls.mono C.out ?_)
    intro e w3 hq
    cases x with
    | error q =>
      obtain ⟨k, p⟩ := q
      obtain ⟨rfl, hg⟩ := hq
      refine And.intro rfl ?_
      exact ⟨rfl, grown_trans (grown_of B2.out) hg⟩
    | ok q =>
      obtain ⟨t, r⟩ := q
      obtain ⟨a, cp, rfl, hs, hg, hl, hd⟩ := hq
      have Z3 := Lib.hid (Z2.out.grown hg (fun e => by have := Option.some.inj e; have := HB.out; omega))
      have HS := Lib.hid hs
      have HG := Lib.hid hg
      have HL := Lib.hid hl
      have HD := Lib.hid hd
      obtain ⟨⟨z0, z1, z2, z3, z4, z5⟩, ⟨f0, f1, f2, f3, f4, f5⟩⟩ := Z3.out.cells
      have hzl := Z3.out.lt
      clear hs hg hl hd C
      unfold trV
      go_wp2_with fail
      refine bodyPost_ret (v := trV t a cp) (by simp [results, Tryz.results154, go_sem, trV, z0, z1, z2, z3, z4, z5]) rfl ?_
      exact box_ret HS.out (grown_of B2.out) Z2.out.lt HG.out HL.out HD.out ⟨HB.out.1, HB.out.2.1⟩
  case false =>
  obtain ⟨X, hX⟩ : ∃ X, X = rd .not nest l := ⟨_, rfl⟩
  rw [← hX]
  rw [not_eq hm] at hX
  have HX := Lib.hid hX
  rw [hm] at C1
  have HP := Lib.hid hS
  have HE := Lib.hid he
  have HTK := Lib.hid htk
  clear h he htk hS hU hX hm eg
  go_enter Tryz.func154, Tryz.ntmps154
  go_wp2_with fail
  rw [← hW1]
  clear hW1
  (with_reducible refine Calls.mono C1.out ?_)
  rintro e W2 ⟨rfl, hb⟩
  have B2 := Lib.hid (B1.out.trans (hb.mono B1.out.size))
  have Z2 := Lib.hid (Z1.out.below hb)
  have C2 := Lib.hid (HP.out l (Nat.le_refl _) nest W2 hle (S1.out.below hb))
  have HRL := Lib.hid (fun t q (h : rd (.chain 2) nest l = .ok (t, q)) => rd_len (.chain 2) nest l h)
  generalize rd (.chain 2) nest l = x at HX C2 HRL
  clear hb C1
  go_wp2_with fail
  (with_reducible refine Calls.mono C2.out ?_)
  intro e w3 hq
  cases x with
  | error q =>
    obtain ⟨k, p⟩ := q
    obtain ⟨rfl, hg⟩ := hq
    refine And.intro rfl ?_
    rw [HX.out]
    exact ⟨rfl, grown_trans (grown_of B2.out) hg⟩
  | ok q =>
  obtain ⟨t, r⟩ := q
  obtain ⟨a, cp, rfl, hs, hg, hl, hdp⟩ := hq
  have hb3 := Lib.hid (show w.heap.size < W2.heap.size ∧ W2.heap.size ≤ w3.heap.size from ⟨Z2.out.lt, hg.size⟩)
  have HL := Lib.hid hl
  have HD := Lib.hid hdp
  have S3 := Lib.hid hs
  have G3 := Lib.hid (grown_trans (grown_of B2.out) hg)
  have Z3 := Lib.hid (Z2.out.grown hg (fun e => by have := Option.some.inj e; have := HB.out; omega))
  have HXr := Lib.hid (show X = if anyT cmpT r = true then (rd (.chain 2) nest (stepL r)).then fun b r' => made (mkN 13 (hd r).text 0 [t, b] (hd r).pos) r' else .ok (t, r) from HX.out)
  have hrl := Lib.hid (HRL.out t r rfl)
  clear hs hg hl hdp C2 HX HRL
  obtain ⟨W4, hW4⟩ : ∃ W, W = w3.alloc (.cells #[.int .i64 t.kind, .string t.text, .int .i64 t.n, .slice a t.kids.length cp, .int .i64 t.place, .int .i64 (depthN t)] 67) := ⟨_, rfl⟩
  have T4 := Lib.hid (show T6 w3.heap.size t.kind t.text t.n a t.kids.length cp t.place (depthN t) W4 from hW4 ▸ T6.make w3 _ _ _ _ _ _ _ _)
  have B4 := Lib.hid (show Below w3.heap.size w3 W4 from hW4 ▸ nbelow1 _ _)
  obtain ⟨wo, hW5⟩ : ∃ W, W = W4.alloc (.cells #[.string ⟨#[60]⟩, .string ⟨#[60, 61]⟩, .string ⟨#[61]⟩] 9) := ⟨_, rfl⟩
  have HSC := Lib.hid (show ∀ j (hj : j < cmpS.length), wo.cell? ⟨W4.heap.size, j, none⟩ = some (.string cmpS[j]) from hW5 ▸ cmp_cells W4)
  have hsa := Lib.hid (show W4.heap.size < wo.heap.size by rw [hW5]; simp)
  have B45 := Lib.hid (show Below W4.heap.size W4 wo from hW5 ▸ nbelow1 _ _)
  have B5 := Lib.hid (B4.out.trans (B45.out.mono B4.out.size))
  have TO := Lib.hid (T4.out.below B45.out)
  have SO := Lib.hid (S3.out.below B5.out)
  have GO := Lib.hid (grown_trans G3.out (grown_of B5.out))
  have ZO := Lib.hid (Z3.out.below B5.out)
  unfold trV
  go_upto_region 4 with fail
  rw [← hW4]
  clear hW4
  go_upto_block 0 with fail
  rw [← hW5]
  clear hW5
  go_wp2_with fail
  go_loopw [17] (fun i wr => ∃ k : Nat, k ≤ 3 ∧ i = .int .i64 k ∧ Hid (∀ j (hj : j < cmpS.length), j < k → isT cmpS[j].data.toList r = false) ∧ Hid (Below wo.heap.size wo wr)) (fun i _ => (3 - (intOf i).toNat))
  case atStart => exact ⟨0, Nat.zero_le _, rfl, fun j hj h => by omega, Below.refl _ _⟩
  case round =>
    obtain ⟨k, hk, rfl, HN, HBw⟩ := hrel
    by_cases hlt : k < 3
    · have hlt' : k < cmpS.length := hlt
      have c0 : wr.cell? ⟨W4.heap.size, k, none⟩ = some (.string cmpS[k]) := (HBw.out.cell (p := ⟨W4.heap.size, k, none⟩) hsa.out).trans (HSC.out k hlt')
      have HM := Lib.hid (fun h => cmp_yes (r := r) hlt' h)
      have HAll := Lib.hid (show isT cmpS[k].data.toList r = false → ∀ j (hj : j < cmpS.length), j < k + 1 → isT cmpS[j].data.toList r = false from fun h j hj hjk => by
        by_cases e : j = k
        · subst e; exact h
        · exact HN.out j hj (by omega))
      have SW := Lib.hid (SO.out.below HBw.out)
      have hlen : cmpS[k].data.toList.length ≤ 2 := by
        have : k = 0 ∨ k = 1 ∨ k = 2 := by omega
        rcases this with rfl | rfl | rfl <;> simp [cmpS]
      have HSL := Lib.hid hlen
      generalize cmpS[k] = s at c0 HM HAll HSL
      have C2 := Lib.hid (qis_s P g cap ts nest r s wr SW.out)
      generalize hbe : isT s.data.toList r = b at C2 HAll HM
      have HBE := Lib.hid hbe
      clear hbe HN hlen hlt'
      cases b
      · have HA := Lib.hid (HAll.out rfl)
        clear HAll HM
        go_wp2_with fail
        (with_reducible refine Calls.mono C2.out ?_)
        rintro e w4 ⟨rfl, hb⟩
        have HB4 := Lib.hid (HBw.out.trans (hb.mono HBw.out.size))
        clear hb C2
        go_wp2_with fail
        go_roundw
        case rel => exact ⟨k + 1, by omega, by go_num, HA.out, HB4.out⟩
        case measure => simp [intOf]; omega
      · have HXn := Lib.hid (show X = (rd (.chain 2) nest (stepL r)).then fun b r' => made (mkN 13 s.data.toList 0 [t, b] (hd r).pos) r' by
          rw [HXr.out, if_pos (HM.out rfl), (isT_kind HBE.out).2])
        have HLn := Lib.hid (isT_len HBE.out)
        clear HAll HM
        go_wp2_with fail
        (with_reducible refine Calls.mono C2.out ?_)
        rintro e w4 ⟨rfl, hb⟩
        have HB4 := Lib.hid (HBw.out.trans (hb.mono HBw.out.size))
        have S4 := Lib.hid (SW.out.below hb)
        have C3 := Lib.hid (qstep_s P g cap ts nest r w4 S4.out HE.out)
        have HT0 := Lib.hid (HTK.out _ S4.out.mem)
        generalize hd r = T at C3 HXn HT0
        have hfd := qtk_field T.kind T.n T.pos ⟨T.text.toArray⟩
        clear hb C2
        go_wp2_with fail
        (with_reducible refine Calls.mono C3.out ?_)
        rintro e wi ⟨rfl, hs5, hg5⟩
        have S5 := Lib.hid hs5
        have G0 := Lib.hid hg5
        have G5 := Lib.hid (grown_trans GO.out (grown_trans (grown_of HB4.out) hg5))
        clear hs5 hg5 C3
        unfold tkV
        obtain ⟨W5, hW5⟩ : ∃ W, W = wi.alloc (.cells #[.int .i64 13, .string s, .int .i64 0, .slice none 0 0, .int .i64 T.pos] 24) := ⟨_, rfl⟩
        have B6 := Lib.hid (show Below wi.heap.size wi W5 from hW5 ▸ nbelow1 _ _)
        have TI := Lib.hid ((TO.out.below HB4.out).grown G0.out (fun e => by have := Option.some.inj e; have := hb3.out; have := HB.out; omega))
        have N5 := Lib.hid (show NBox wi.heap.size (.mk 13 s 0 [] T.pos) none 0 W5 from hW5 ▸ NBox.make wi (.mk 13 s 0 [] T.pos) none 0)
        have T5 := Lib.hid (TI.out.below B6.out)
        have Z5 := Lib.hid (((ZO.out.below HB4.out).grown G0.out (fun e => by have := Option.some.inj e; have := HB.out; omega)).below B6.out)
        have BD := Lib.hid (show Below W5.heap.size W5 W5.drew from bdrew (Below.refl _ _))
        have C6 := Lib.hid (HP.out (stepL r) (by have := HLn.out; have := hrl.out; omega) nest W5.drew hle ((S5.out.below B6.out).below BD.out))
        have GW := Lib.hid (show w.grownBy W5.drew (some P) from grown_trans G5.out (grown_of (B6.out.trans (BD.out.mono B6.out.size))))
        generalize rd (.chain 2) nest (stepL r) = x at C6 HXn
        go_upto_region 9 with fail
        rw [← hW5]
        clear hW5
        refine wp_region_till (S := (fun cur => (cur.cell? ⟨wi.heap.size, 0, none⟩ = some (.int .i64 13) ∧ cur.cell? ⟨wi.heap.size, 1, none⟩ = some (.string s) ∧ cur.cell? ⟨wi.heap.size, 2, none⟩ = some (.int .i64 0) ∧ cur.cell? ⟨wi.heap.size, 3, none⟩ = some (.slice none 0 0) ∧ cur.cell? ⟨wi.heap.size, 4, none⟩ = some (.int .i64 T.pos)) ∧ (cur.cell? ⟨w3.heap.size, 0, none⟩ = some (.int .i64 t.kind) ∧ cur.cell? ⟨w3.heap.size, 1, none⟩ = some (.string t.text) ∧ cur.cell? ⟨w3.heap.size, 2, none⟩ = some (.int .i64 t.n) ∧ cur.cell? ⟨w3.heap.size, 3, none⟩ = some (.slice a t.kids.length cp) ∧ cur.cell? ⟨w3.heap.size, 4, none⟩ = some (.int .i64 t.place) ∧ cur.cell? ⟨w3.heap.size, 5, none⟩ = some (.int .i64 (depthN t))))) (z := 7) (by kernel_rfl) ?_ (fun hHeld => ?_)
        · exact ⟨N5.out.cells.1, T5.out.cells.1⟩
        refine AnyTill.take (i := 0) (v := ?_) (op_at rfl) (by kernel_rfl) (by kernel_rfl) (by kernel_rfl) (by kernel_rfl) (fun _ _ _ h => h) (Or.inl ⟨by rfl, ?_⟩) (by assumption) ?_
        rotate_left
        · (intro w hSw; (try dsimp only at hSw); go_simp; try with_reducible rfl)
        try simp only [Act.put, List.setIfInBounds_toArray, List.set_cons_zero, List.set_cons_succ]
        refine AnyTill.take (i := 1) (v := ?_) (op_at rfl) (by kernel_rfl) (by kernel_rfl) (by kernel_rfl) (by kernel_rfl) (fun _ _ _ h => h) (Or.inl ⟨by rfl, ?_⟩) (by assumption) ?_
        rotate_left
        · (intro w hSw; (try dsimp only at hSw); go_simp; try with_reducible rfl)
        try simp only [Act.put, List.setIfInBounds_toArray, List.set_cons_zero, List.set_cons_succ]
        refine AnyTill.take (i := 2) (v := ?_) (op_at rfl) (by kernel_rfl) (by kernel_rfl) (by kernel_rfl) (by kernel_rfl) (fun _ _ _ h => h) (Or.inl ⟨by rfl, ?_⟩) (by assumption) ?_
        rotate_left
        · (intro w hSw; (try dsimp only at hSw); go_simp; try with_reducible rfl)
        try simp only [Act.put, List.setIfInBounds_toArray, List.set_cons_zero, List.set_cons_succ]
        refine AnyTill.take (i := 3) (v := ?_) (op_at rfl) (by kernel_rfl) (by kernel_rfl) (by kernel_rfl) (by kernel_rfl) (fun _ _ _ h => h) (Or.inl ⟨by rfl, ?_⟩) (by assumption) ?_
        rotate_left
        · (intro w hSw; (try dsimp only at hSw); go_simp; try with_reducible rfl)
        try simp only [Act.put, List.setIfInBounds_toArray, List.set_cons_zero, List.set_cons_succ]
        refine AnyTill.next (i := 4) (by kernel_rfl) (op_at rfl) (by decide) (fun K hK => ?_)
        go_simp
        (with_reducible refine Calls.mono C6.out ?_)
        intro e w6 hq
        cases x with
        | error q =>
          obtain ⟨k0, p0⟩ := q
          obtain ⟨rfl, hg⟩ := hq
          refine And.intro rfl ?_
          rw [HXn.out]
          exact ⟨rfl, grown_trans GW.out hg⟩
        | ok q =>
        obtain ⟨m, q⟩ := q
        obtain ⟨a2, cp2, rfl, hs6, hg6, hl6, hd6⟩ := hq
        have S6 := Lib.hid hs6
        have G6 := Lib.hid (grown_trans GW.out hg6)
        have N6 := Lib.hid (NBox.grown (show NBox wi.heap.size (.mk 13 s 0 [] T.pos) none 0 W5.drew from N5.out) hg6 (by have := S5.out.blocks; omega))
        have T6' := Lib.hid (T6.grown (show T6 w3.heap.size t.kind t.text t.n a t.kids.length cp t.place (depthN t) W5.drew from T5.out) hg6 (fun e => by have := Option.some.inj e; have := hb3.out; have := HB.out; omega))
        have Z6 := Lib.hid (T6.grown (show T6 w.heap.size 0 ⟨#[]⟩ 0 none 0 0 0 0 W5.drew from Z5.out) hg6 (fun e => by have := Option.some.inj e; have := HB.out; omega))
        have HG6 := Lib.hid hg6
        have HL6 := Lib.hid hl6
        have HD6 := Lib.hid hd6
        clear hs6 hg6 hl6 hd6 C6
        unfold trV
        go_wp2_with fail
        refine hK.out _ _ ?_ (fun hHeld => ?_)
        · exact ⟨N6.out.cells.1, T6'.out.cells.1⟩
        clear hK K
        try simp only [Act.put, List.setIfInBounds_toArray, List.set_cons_zero, List.set_cons_succ]
        refine AnyTill.next (i := 5) (by kernel_rfl) (op_at rfl) (by decide) (fun K hK => ?_)
        go_simp
        obtain ⟨W7, hW7⟩ : ∃ W, W = w6.alloc (.cells #[.int .i64 t.kind, .string t.text, .int .i64 t.n, .slice a t.kids.length cp, .int .i64 t.place, .int .i64 (depthN t), .int .i64 m.kind, .string m.text, .int .i64 m.n, .slice a2 m.kids.length cp2, .int .i64 m.place, .int .i64 (depthN m)] 67) := ⟨_, rfl⟩
        have R7 := Lib.hid (show TRow W7 w6.heap.size 0 [(t, a, cp), (m, a2, cp2)] from hW7 ▸ trow2 w6 _ (t, a, cp) (m, a2, cp2))
        have B7 := Lib.hid (show Below w6.heap.size w6 W7 from hW7 ▸ nbelow1 _ _)
        have hz7 := Lib.hid (show W7.heap.size = w6.heap.size + 1 by rw [hW7]; simp)
        have N7 := Lib.hid (N6.out.below B7.out)
        have T7 := Lib.hid (T6'.out.below B7.out)
        have C7 := Lib.hid (show Calls Tryz.prog 86 #[.pointer (some ⟨P, 0, none⟩), .agg #[.int .i64 13, .string s, .int .i64 0, .slice none 0 0, .int .i64 T.pos], .slice (some ⟨w6.heap.size, 0, none⟩) 2 2] W7 (MadeQ 13 s.data.toList 0 T.pos [(t, a, cp), (m, a2, cp2)] W7) by
          have := qmade_any P 13 s.data.toList 0 T.pos (some ⟨w6.heap.size, 0, none⟩) 2 [(t, a, cp), (m, a2, cp2)] W7 (by show 2 ≤ 8; decide) (fun _ => ⟨w6.heap.size, 0, rfl, by have := hz7.out; omega, R7.out⟩) (fun e he => by
            rcases List.mem_cons.1 he with rfl | he
            · exact HD.out
            · obtain rfl := List.mem_singleton.1 he; exact HD6.out)
          rw [ba_list] at this
          exact this)
        rw [← hW7]
        clear hW7
        refine hK.out _ _ ?_ (fun hHeld => ?_)
        · exact ⟨N7.out.cells.1, T7.out.cells.1⟩
        clear hK K
        try simp only [Act.put, List.setIfInBounds_toArray, List.set_cons_zero, List.set_cons_succ]
        refine AnyTill.next (i := 6) (by kernel_rfl) (op_at rfl) (by decide) (fun K hK => ?_)
        go_simp
        (with_reducible refine Calls.mono C7.out ?_)
        intro e w8 hm
        have HMR := Lib.hid (show MadeR (made (mkN 13 s.data.toList 0 [t, m] T.pos) q) (fun c => w.heap.size < c ∧ c < W7.heap.size) W7 e w8 from by
          have hsz6 := HG6.out.size
          have hszo := HB4.out.size
          have hszi := G0.out.size
          have hsz5 := B6.out.size
          have hszO := B5.out.size
          have hh := hz7.out
          have hPw := HB.out
          have hsd : W5.drew.heap.size = W5.heap.size := rfl
          have hb3' := hb3.out
          refine hm.use rfl (by have := HSL.out; omega) rfl HT0.out.2.1 (fun c hc => hc.2) (fun e he => ?_) q
          rcases List.mem_cons.1 he with rfl | he
          · refine lies_move HL.out (fun c hc => ?_) fun c hc => ⟨by have := hc.1; omega, by have := hc.2; omega⟩
            have h1 := hc.1
            have h2 := hc.2
            refine (B7.out.block c (by omega)).trans ((HG6.out.block c (by omega) (fun e => by have := Option.some.inj e; omega)).trans ?_)
            exact (B6.out.block c (by omega)).trans ((G0.out.block c (by omega) (fun e => by have := Option.some.inj e; omega)).trans ((HB4.out.block c (by omega)).trans (B5.out.block c h2)))
          · obtain rfl := List.mem_singleton.1 he
            exact lies_move HL6.out (fun c hc => B7.out.block c hc.2) fun c hc => ⟨by have := hc.1; omega, by have := hc.2; omega⟩)
        clear hm C7
        obtain ⟨hb8, hm⟩ := HMR.out
        have B8 := Lib.hid hb8
        have HXm := Lib.hid (show X = made (mkN 13 s.data.toList 0 [t, m] T.pos) q from HXn.out)
        cases hmd : made (mkN 13 s.data.toList 0 [t, m] T.pos) q with
        | error z =>
          obtain ⟨k0, p0⟩ := z
          rw [hmd] at hm
          obtain rfl := hm
          refine And.intro rfl ?_
          rw [HXm.out, hmd]
          exact ⟨rfl, grown_trans G6.out (grown_of (B7.out.trans (B8.out.mono B7.out.size)))⟩
        | ok z =>
        obtain ⟨t2, q2⟩ := z
        have hq2 : q2 = q := made_rest hmd
        subst hq2
        rw [hmd] at hm
        obtain ⟨a3, cp3, rfl, hl3, hd3⟩ := hm
        have HMD := Lib.hid hmd
        have HL3 := Lib.hid hl3
        have HD3 := Lib.hid hd3
        have N8 := Lib.hid (N7.out.below B8.out)
        have T8 := Lib.hid (T7.out.below B8.out)
        have hb78 := B7.out.trans (B8.out.mono B7.out.size)
        have B68 := Lib.hid hb78
        clear hmd hl3 hd3 hb8 hb78
        unfold trV
        go_wp2_with fail
        refine hK.out _ _ ?_ (fun hHeld => ?_)
        · exact ⟨N8.out.cells.1, T8.out.cells.1⟩
        clear hK K
        try simp only [Act.put, List.setIfInBounds_toArray, List.set_cons_zero, List.set_cons_succ]
        have Z8 := Lib.hid (Z6.out.below B68.out)
        obtain ⟨⟨z0, z1, z2, z3, z4, z5⟩, ⟨f0, f1, f2, f3, f4, f5⟩⟩ := Z8.out.cells
        have hzl := Z8.out.lt
        refine AnyTill.last (z := 7) (by kernel_rfl) (op_at rfl) (by kernel_rfl) (fun K hK => ?_)
        go_simp
        refine hK.out _ _ ?_
        clear hK K
        go_wp2_with fail
        refine bodyPost_ret (v := trV t2 a3 cp3) (by simp [results, Tryz.results154, go_sem, trV, z0, z1, z2, z3, z4, z5]) rfl ?_
        rw [HXm.out, HMD.out]
        have h1 := hz7.out
        have h2 := B8.out.size
        have hb := HB.out
        have h4 := G6.out.size
        exact QP.fin ((S6.out.below B7.out).below B8.out) (grown_trans G6.out (grown_of B68.out)) (Nat.le_refl _) (by omega) HL3.out (fun c hc => by
          rcases hc with hc | hc
          · have := hc.1; have := hc.2; omega
          · have := hc.1; have := hc.2; omega) HD3.out
    · have hkk : k = 3 := by omega
      have HXe := Lib.hid (show X = .ok (t, r) by
        rw [HXr.out, if_neg]
        rw [cmp_no fun j hj => HN.out j hj (by have : j < 3 := hj; omega)]
        decide)
      have TR := Lib.hid (TO.out.below HBw.out)
      have ZR := Lib.hid (ZO.out.below HBw.out)
      obtain ⟨⟨x0, x1, x2, x3, x4, x5⟩, -⟩ := TR.out.cells
      obtain ⟨⟨z0, z1, z2, z3, z4, z5⟩, ⟨f0, f1, f2, f3, f4, f5⟩⟩ := ZR.out.cells
      have hxl := TR.out.lt
      have hzl := ZR.out.lt
      clear hkk
      go_wp2_with fail
      refine bodyPost_ret (v := trV t a cp) (by simp [results, Tryz.results154, go_sem, trV, z0, z1, z2, z3, z4, z5]) rfl ?_
      rw [HXe.out]
      have hb := HB.out
      have hsz := HBw.out.size
      have hb3' := hb3.out
      have hs5 := B5.out.size
      exact QP.fin (av := Fr W2.heap.size w3.heap.size) (SO.out.below HBw.out) (grown_trans GO.out (grown_of HBw.out)) (Nat.le_refl _) (by omega) (lies_move HL.out (fun c hc => (HBw.out.block c (by have := hc.2; omega)).trans (B5.out.block c hc.2)) fun c hc => hc) (fun c hc => ⟨by have := hc.1; omega, by have := hc.2; omega, by have := hc.1; omega⟩) HD.out
end Go.Proofs.YtcndknkdhlmdnaaGreatDoor

/-
  The program's parser: an expression.
-/
namespace Go.Proofs.YtcndknkdhlmdnaaGreatDoor
open Go.RowKit
set_option maxRecDepth 100000

/-- an expression, one nest deeper -/
def exprI (nest : Nat) (l : List Tk) : Rd := if isT tIf l = true then
    (rd .expr nest (stepL l)).then fun a r => wantT tThen r fun r => (rd .expr nest r).then fun b r => wantT tElse r fun r => (rd .expr nest r).then fun c r => made (mkN 14 [] 0 [a, b, c] (hd l).pos) r
  else rd (.chain 0) nest l
theorem expr_eq (nest : Nat) (l : List Tk) : rd .expr nest l = nestT nest l (exprI (nest + 1) l) := by rw [rd_eq]; rfl
theorem want_yes {w : List UInt8} {l : List Tk} {f : List Tk → Rd} (h : isT w l = true) : wantT w l f = f (stepL l) := if_pos h
theorem want_no {w : List UInt8} {l : List Tk} {f : List Tk → Rd} (h : isT w l = false) : wantT w l f = .error (74, (hd l).pos) := if_neg (by rw [h]; decide)
/-- what must stand next -/
def WantR (P g cap : Nat) (ts : List Tk) (nest : Nat) (y : List UInt8) (l : List Tk) (w : World) (e : Ending) (w' : World) : Prop := w.grownBy w' (some P) ∧ (isT y l = true → e = .returned (.tuple #[]) ∧ SQ P g cap ts nest (stepL l) w') ∧ (isT y l = false → e = flt 74 (hd l).pos)
theorem qwant_s (P g cap : Nat) (ts : List Tk) (nest : Nat) (l : List Tk) (x : ByteArray) (y : List UInt8) (hy : x.data.toList = y) (w : World) (h : SQ P g cap ts nest l w) (he : Ends ts) :
    Calls Tryz.prog 85 #[.pointer (some ⟨P, 0, none⟩), .string x] w (WantR P g cap ts nest y l w) := by
  subst hy
  refine (qwant_any P g cap ts nest l x w h he).mono fun e w' hq => ?_
  rw [show wantX x.data.toList (.ok l) = if isT x.data.toList l = true then .ok (stepL l) else .error (74, (hd l).pos) from rfl] at hq
  cases hb : isT x.data.toList l
  · rw [hb] at hq
    exact ⟨hq.2, (fun h => by rw [hb] at h; cases h), fun _ => hq.1⟩
  · rw [hb] at hq
    exact ⟨hq.2.2, fun _ => ⟨hq.1, hq.2.1⟩, fun h => by rw [hb] at h; cases h⟩
theorem lies_later {av av' : Nat → Prop} {A B : World} {t : Nd} {a : Option Addr} {cp P : Nat} (h : t.lies av A a cp) (g : A.grownBy B (some P)) (ha : ∀ c, av c → c < A.heap.size ∧ c ≠ P ∧ av' c) : t.lies av' B a cp :=
  lies_move h (fun c hc => g.block c (ha c hc).1 (fun e => (ha c hc).2.1 (Option.some.inj e))) fun c hc => (ha c hc).2.2
set_option maxHeartbeats 8000000 in
theorem qexpr1_any (P g cap : Nat) (ts : List Tk) (he : Ends ts) (htk : ∀ t ∈ ts, TkOk t) (nest : Nat) (l : List Tk) (pb : Nat) (w : World) (hn : nest ≤ 300) (h : SQ P g cap ts nest l w) (hp : w.cell? ⟨pb, 0, none⟩ = some (.pointer (some ⟨P, 0, none⟩))) (hpb : pb ≠ P ∧ pb < w.heap.size)
    (hO : CQ 83 (.chain 0) P g cap ts l) (hE : ∀ r, r.length < l.length → CQ 55 .expr P g cap ts r) :
    Calls Tryz.prog 81 #[.pointer (some ⟨pb, 0, none⟩)] w (QP P g cap ts nest (exprI nest l) w) := by
  obtain ⟨W1, hW1⟩ : ∃ W, W = w.alloc (.cells #[.int .i64 0, .string ⟨#[]⟩, .int .i64 0, .slice none 0 0, .int .i64 0, .int .i64 0] 67) := ⟨_, rfl⟩
  have B1 := Lib.hid (show Below w.heap.size w W1 from hW1 ▸ nbelow1 _ _)
  have Z1 := Lib.hid (show T6 w.heap.size 0 ⟨#[]⟩ 0 none 0 0 0 0 W1 from hW1 ▸ T6.make w _ _ _ _ _ _ _ _)
  have HB := Lib.hid h.blocks
  have HPB := Lib.hid hpb
  have S1 := Lib.hid (h.below B1.out)
  have HC := Lib.hid (show ∀ W : World, w.grownBy W (some P) → W.cell? ⟨pb, 0, none⟩ = some (.pointer (some ⟨P, 0, none⟩)) from fun W hg => (World.cell?_of_block (hg.block pb hpb.2 (fun e => hpb.1 (Option.some.inj e)))).trans hp)
  have hp1 := HC.out W1 (grown_of B1.out)
  have C1 := Lib.hid (show Calls Tryz.prog 82 #[.pointer (some ⟨P, 0, none⟩), .string ⟨#[105, 102]⟩] W1 (fun e w' => e = .returned (.bool (isT tIf l)) ∧ Below W1.heap.size W1 w') from qis_s P g cap ts nest l ⟨#[105, 102]⟩ W1 S1.out)
  cases hm : isT tIf l
  case false =>
    rw [hm] at C1
    rw [show exprI nest l = rd (.chain 0) nest l from if_neg (by rw [hm]; decide)]
    have C2 := Lib.hid (fun W hs => hO nest W hn hs)
    generalize rd (.chain 0) nest l = x at C2 ⊢
    clear h hO hE he htk hm hp
    go_enter Tryz.func81, Tryz.ntmps81
    go_upto_region 1 with fail
    rw [← hW1]
    clear hW1
    go_wp2_with fail
    (with_reducible refine Calls.mono C1.out ?_)
    rintro e W2 ⟨rfl, hb⟩
    have B2 := Lib.hid (B1.out.trans (hb.mono B1.out.size))
    have Z2 := Lib.hid (Z1.out.below hb)
    have C := Lib.hid (C2.out W2 (S1.out.below hb))
    have hp2 := HC.out W2 (grown_of B2.out)
    clear hb C1 C2 hp1
    go_wp2_with fail
    (with_reducible refine Calls.mono C.out ?_)
    intro e w3 hq
    cases x with
    | error q =>
      obtain ⟨k, p⟩ := q
      obtain ⟨rfl, hg⟩ := hq
      refine And.intro rfl ?_
      exact ⟨rfl, grown_trans (grown_of B2.out) hg⟩
    | ok q =>
      obtain ⟨t, r⟩ := q
      obtain ⟨a, cp, rfl, hs, hg, hl, hd⟩ := hq
      have Z3 := Lib.hid (Z2.out.grown hg (fun e => by have := Option.some.inj e; have := HB.out; omega))
      have HS := Lib.hid hs
      have HG := Lib.hid hg
      have HL := Lib.hid hl
      have HD := Lib.hid hd
      obtain ⟨⟨z0, z1, z2, z3, z4, z5⟩, ⟨f0, f1, f2, f3, f4, f5⟩⟩ := Z3.out.cells
      have hzl := Z3.out.lt
      clear hs hg hl hd C
      unfold trV
      go_wp2_with fail
      refine bodyPost_ret (v := trV t a cp) (by simp [results, Tryz.results81, go_sem, trV, z0, z1, z2, z3, z4, z5]) rfl ?_
      exact box_ret HS.out (grown_of B2.out) Z2.out.lt HG.out HL.out HD.out ⟨HB.out.1, HB.out.2.1⟩
  case true =>
  rw [hm] at C1
  obtain ⟨X, hX⟩ : ∃ X, X = exprI nest l := ⟨_, rfl⟩
  rw [← hX]
  rw [show exprI nest l = (rd .expr nest (stepL l)).then fun a r => wantT tThen r fun r => (rd .expr nest r).then fun b r => wantT tElse r fun r => (rd .expr nest r).then fun c r => made (mkN 14 [] 0 [a, b, c] (hd l).pos) r from if_pos hm] at hX
  have HLn := Lib.hid (isT_len hm)
  have HE := Lib.hid he
  have HEx := Lib.hid hE
  have HT0 := Lib.hid (htk _ h.mem)
  generalize hT : hd l = T at hX HT0
  have HTe := Lib.hid hT
  have HX := Lib.hid hX
  clear h he htk hO hE hX hm hp hT
  go_enter Tryz.func81, Tryz.ntmps81
  go_upto_region 1 with fail
  rw [← hW1]
  clear hW1
  go_wp2_with fail
  (with_reducible refine Calls.mono C1.out ?_)
  rintro e W2 ⟨rfl, hb⟩
  have B2 := Lib.hid (B1.out.trans (hb.mono B1.out.size))
  have Z2 := Lib.hid (Z1.out.below hb)
  have S2 := Lib.hid (S1.out.below hb)
  have hp2 := HC.out W2 (grown_of B2.out)
  have C2 := Lib.hid (show Calls Tryz.prog 84 #[.pointer (some ⟨P, 0, none⟩)] W2 (fun e w' => e = .returned (tkV T) ∧ SQ P g cap ts nest (stepL l) w' ∧ W2.grownBy w' (some P)) by
    have := qstep_s P g cap ts nest l W2 S2.out HE.out
    rwa [HTe.out] at this)
  have hfd := qtk_field T.kind T.n T.pos ⟨T.text.toArray⟩
  clear hb C1 hp1
  go_wp2_with fail
  (with_reducible refine Calls.mono C2.out ?_)
  rintro e w3 ⟨rfl, hs, hg⟩
  have S3 := Lib.hid hs
  have G3 := Lib.hid (grown_trans (grown_of B2.out) hg)
  have Z3 := Lib.hid (Z2.out.grown hg (fun e => by have := Option.some.inj e; have := HB.out; omega))
  clear hs hg C2 hp2
  obtain ⟨W4, hW4⟩ : ∃ W, W = w3.alloc (.cells #[.int .i64 14, .string ⟨#[]⟩, .int .i64 0, .slice none 0 0, .int .i64 T.pos] 24) := ⟨_, rfl⟩
  have B4 := Lib.hid (show Below w3.heap.size w3 W4 from hW4 ▸ nbelow1 _ _)
  have N4 := Lib.hid (show NBox w3.heap.size (.mk 14 ⟨#[]⟩ 0 [] T.pos) none 0 W4 from hW4 ▸ NBox.make w3 (.mk 14 ⟨#[]⟩ 0 [] T.pos) none 0)
  have S4 := Lib.hid (S3.out.below B4.out)
  have G4 := Lib.hid (grown_trans G3.out (grown_of B4.out))
  have Z4 := Lib.hid (Z3.out.below B4.out)
  have hp4 := HC.out W4 G4.out
  have C4 := Lib.hid (HEx.out (stepL l) (by have := HLn.out; omega) nest W4 hn S4.out)
  have HR4 := Lib.hid (fun t q (h : rd .expr nest (stepL l) = .ok (t, q)) => rd_len .expr nest (stepL l) h)
  generalize rd .expr nest (stepL l) = x at C4 HX HR4
  unfold tkV
  go_upto_region 4 with fail
  rw [← hW4]
  clear hW4 hfd
  go_wp2_with fail
  (with_reducible refine Calls.mono C4.out ?_)
  intro e wa hq
  cases x with
  | error q =>
    obtain ⟨k, p⟩ := q
    obtain ⟨rfl, hg⟩ := hq
    refine And.intro rfl ?_
    rw [HX.out]
    exact ⟨rfl, grown_trans G4.out hg⟩
  | ok q =>
  obtain ⟨t1, r1⟩ := q
  obtain ⟨a1, c1, rfl, hs, hg, hl, hdp⟩ := hq
  have hr1 := Lib.hid (HR4.out t1 r1 rfl)
  have HX1 := Lib.hid (show X = wantT tThen r1 fun r => (rd .expr nest r).then fun b r => wantT tElse r fun r => (rd .expr nest r).then fun c r => made (mkN 14 [] 0 [t1, b, c] T.pos) r from HX.out)
  have SA := Lib.hid hs
  have GA := Lib.hid (grown_trans G4.out hg)
  have G4A := Lib.hid hg
  have NA := Lib.hid (N4.out.grown hg (by have := S3.out.blocks; omega))
  have ZA := Lib.hid (Z4.out.grown hg (fun e => by have := Option.some.inj e; have := HB.out; omega))
  have HL1 := Lib.hid hl
  have HD1 := Lib.hid hdp
  clear hs hg hl hdp C4 hp4 HX HR4
  obtain ⟨W5, hW5⟩ : ∃ W, W = wa.alloc (.cells #[.int .i64 t1.kind, .string t1.text, .int .i64 t1.n, .slice a1 t1.kids.length c1, .int .i64 t1.place, .int .i64 (depthN t1)] 67) := ⟨_, rfl⟩
  have B5 := Lib.hid (show Below wa.heap.size wa W5 from hW5 ▸ nbelow1 _ _)
  have A5 := Lib.hid (show T6 wa.heap.size t1.kind t1.text t1.n a1 t1.kids.length c1 t1.place (depthN t1) W5 from hW5 ▸ T6.make wa _ _ _ _ _ _ _ _)
  have S5 := Lib.hid (SA.out.below B5.out)
  have G5 := Lib.hid (grown_trans GA.out (grown_of B5.out))
  have hp5 := HC.out W5 G5.out
  have C5 := Lib.hid (show Calls Tryz.prog 85 #[.pointer (some ⟨P, 0, none⟩), .string ⟨#[116, 104, 101, 110]⟩] W5 (WantR P g cap ts nest tThen r1 W5) from qwant_s P g cap ts nest r1 ⟨#[116, 104, 101, 110]⟩ tThen rfl W5 S5.out HE.out)
  unfold trV
  go_upto_region 5 with fail
  rw [← hW5]
  clear hW5
  go_wp2_with fail
  (with_reducible refine Calls.mono C5.out ?_)
  rintro e w6 ⟨hg, hq⟩
  have G56 := Lib.hid hg
  have G6 := Lib.hid (grown_trans G5.out hg)
  have hp6 := HC.out w6 G6.out
  cases hw : isT tThen r1
  case false =>
    obtain rfl := hq.2 hw
    refine And.intro rfl ?_
    rw [HX1.out, want_no hw]
    exact ⟨rfl, G6.out⟩
  case true =>
  obtain ⟨rfl, hs⟩ := hq.1 hw
  have S6 := Lib.hid hs
  have hr2 := Lib.hid (isT_len hw)
  have C6 := Lib.hid (HEx.out (stepL r1) (by have := HLn.out; have := hr1.out; have := hr2.out; omega) nest w6 hn S6.out)
  have HX2 := Lib.hid (HX1.out.trans (want_yes hw))
  have HR6 := Lib.hid (fun t q (h : rd .expr nest (stepL r1) = .ok (t, q)) => rd_len .expr nest (stepL r1) h)
  generalize rd .expr nest (stepL r1) = x at C6 HX2 HR6
  clear hs hg C5 hp5 hw
  go_wp2_with fail
  (with_reducible refine Calls.mono C6.out ?_)
  intro e wb hq
  cases x with
  | error q =>
    obtain ⟨k, p⟩ := q
    obtain ⟨rfl, hg⟩ := hq
    refine And.intro rfl ?_
    rw [HX2.out]
    exact ⟨rfl, grown_trans G6.out hg⟩
  | ok q =>
  obtain ⟨t2, r2⟩ := q
  obtain ⟨a2, c2, rfl, hs, hg, hl, hdp⟩ := hq
  have hr3 := Lib.hid (HR6.out t2 r2 rfl)
  have HX3 := Lib.hid (show X = wantT tElse r2 fun r => (rd .expr nest r).then fun c r => made (mkN 14 [] 0 [t1, t2, c] T.pos) r from HX2.out)
  have SB := Lib.hid hs
  have GB := Lib.hid (grown_trans G6.out hg)
  have G5B := Lib.hid (grown_trans G56.out hg)
  have HL2 := Lib.hid hl
  have HD2 := Lib.hid hdp
  have h6b := Lib.hid hg.size
  clear hs hg hl hdp C6 hp6 HX2 HR6
  obtain ⟨W7, hW7⟩ : ∃ W, W = wb.alloc (.cells #[.int .i64 t2.kind, .string t2.text, .int .i64 t2.n, .slice a2 t2.kids.length c2, .int .i64 t2.place, .int .i64 (depthN t2)] 67) := ⟨_, rfl⟩
  have B7 := Lib.hid (show Below wb.heap.size wb W7 from hW7 ▸ nbelow1 _ _)
  have E7 := Lib.hid (show T6 wb.heap.size t2.kind t2.text t2.n a2 t2.kids.length c2 t2.place (depthN t2) W7 from hW7 ▸ T6.make wb _ _ _ _ _ _ _ _)
  have S7 := Lib.hid (SB.out.below B7.out)
  have G7 := Lib.hid (grown_trans GB.out (grown_of B7.out))
  have hp7 := HC.out W7 G7.out
  have C7 := Lib.hid (show Calls Tryz.prog 85 #[.pointer (some ⟨P, 0, none⟩), .string ⟨#[101, 108, 115, 101]⟩] W7 (WantR P g cap ts nest tElse r2 W7) from qwant_s P g cap ts nest r2 ⟨#[101, 108, 115, 101]⟩ tElse rfl W7 S7.out HE.out)
  unfold trV
  go_upto_region 7 with fail
  rw [← hW7]
  clear hW7
  go_wp2_with fail
  (with_reducible refine Calls.mono C7.out ?_)
  rintro e w8 ⟨hg, hq⟩
  have G78 := Lib.hid hg
  have G8 := Lib.hid (grown_trans G7.out hg)
  cases hw : isT tElse r2
  case false =>
    obtain rfl := hq.2 hw
    refine And.intro rfl ?_
    rw [HX3.out, want_no hw]
    exact ⟨rfl, G8.out⟩
  case true =>
  obtain ⟨rfl, hs⟩ := hq.1 hw
  have S8 := Lib.hid hs
  have hr4 := Lib.hid (isT_len hw)
  have BD := Lib.hid (show Below w8.heap.size w8 w8.drew from bdrew (Below.refl _ _))
  have C8 := Lib.hid (HEx.out (stepL r2) (by have := HLn.out; have := hr1.out; have := hr2.out; have := hr3.out; have := hr4.out; omega) nest w8.drew hn (S8.out.below BD.out))
  have HX4 := Lib.hid (show X = (rd .expr nest (stepL r2)).then fun c r => made (mkN 14 [] 0 [t1, t2, c] T.pos) r from HX3.out.trans (want_yes hw))
  generalize rd .expr nest (stepL r2) = x at C8 HX4
  have hsz := Lib.hid (show P < w.heap.size ∧ w.heap.size < w3.heap.size ∧ w3.heap.size < W4.heap.size ∧ W4.heap.size ≤ wa.heap.size ∧ wa.heap.size < W5.heap.size ∧ W5.heap.size ≤ w6.heap.size ∧ w6.heap.size ≤ wb.heap.size ∧ wb.heap.size < W7.heap.size ∧ W7.heap.size ≤ w8.heap.size from
    ⟨HB.out.1, Z3.out.lt, N4.out.lt, G4A.out.size, A5.out.lt, G56.out.size, h6b.out, E7.out.lt, G78.out.size⟩)
  have GW := Lib.hid (show w.grownBy w8.drew (some P) from grown_trans G8.out (grown_of BD.out))
  have GA8 := Lib.hid (show wa.grownBy w8.drew (some P) from grown_trans (grown_of B5.out) (grown_trans G5B.out (grown_trans (grown_of B7.out) (grown_trans G78.out (grown_of BD.out)))))
  have GB8 := Lib.hid (show wb.grownBy w8.drew (some P) from grown_trans (grown_of B7.out) (grown_trans G78.out (grown_of BD.out)))
  have N8 := Lib.hid (NA.out.grown GA8.out (by have := hsz.out; omega))
  have Z8 := Lib.hid (ZA.out.grown GA8.out (fun e => by have := Option.some.inj e; have := hsz.out; omega))
  have A8 := Lib.hid (A5.out.grown (grown_trans G5B.out (grown_trans (grown_of B7.out) (grown_trans G78.out (grown_of BD.out)))) (fun e => by have := Option.some.inj e; have := hsz.out; omega))
  have E8 := Lib.hid (E7.out.grown (grown_trans G78.out (grown_of BD.out)) (fun e => by have := Option.some.inj e; have := hsz.out; omega))
  have HL1' := Lib.hid (lies_later (av' := fun c => w.heap.size < c ∧ c < w8.drew.heap.size) HL1.out GA8.out fun c hc => ⟨hc.2, by have := hc.1; have := hsz.out; omega, by have := hc.1; have := hsz.out; omega, Nat.lt_of_lt_of_le hc.2 GA8.out.size⟩)
  have HL2' := Lib.hid (lies_later (av' := fun c => w.heap.size < c ∧ c < w8.drew.heap.size) HL2.out GB8.out fun c hc => ⟨hc.2, by have := hc.1; have := hsz.out; omega, by have := hc.1; have := hsz.out; omega, Nat.lt_of_lt_of_le hc.2 GB8.out.size⟩)
  have HP8 := Lib.hid (HC.out w8.drew GW.out)
  clear hs hg C7 hp7 hw
  go_upto_region 8 with fail
  refine wp_region_till (S := (fun cur => cur.cell? ⟨pb, 0, none⟩ = some (.pointer (some ⟨P, 0, none⟩)) ∧ (cur.cell? ⟨w3.heap.size, 0, none⟩ = some (.int .i64 14) ∧ cur.cell? ⟨w3.heap.size, 1, none⟩ = some (.string ⟨#[]⟩) ∧ cur.cell? ⟨w3.heap.size, 2, none⟩ = some (.int .i64 0) ∧ cur.cell? ⟨w3.heap.size, 3, none⟩ = some (.slice none 0 0) ∧ cur.cell? ⟨w3.heap.size, 4, none⟩ = some (.int .i64 T.pos)) ∧ (cur.cell? ⟨wa.heap.size, 0, none⟩ = some (.int .i64 t1.kind) ∧ cur.cell? ⟨wa.heap.size, 1, none⟩ = some (.string t1.text) ∧ cur.cell? ⟨wa.heap.size, 2, none⟩ = some (.int .i64 t1.n) ∧ cur.cell? ⟨wa.heap.size, 3, none⟩ = some (.slice a1 t1.kids.length c1) ∧ cur.cell? ⟨wa.heap.size, 4, none⟩ = some (.int .i64 t1.place) ∧ cur.cell? ⟨wa.heap.size, 5, none⟩ = some (.int .i64 (depthN t1))) ∧ (cur.cell? ⟨wb.heap.size, 0, none⟩ = some (.int .i64 t2.kind) ∧ cur.cell? ⟨wb.heap.size, 1, none⟩ = some (.string t2.text) ∧ cur.cell? ⟨wb.heap.size, 2, none⟩ = some (.int .i64 t2.n) ∧ cur.cell? ⟨wb.heap.size, 3, none⟩ = some (.slice a2 t2.kids.length c2) ∧ cur.cell? ⟨wb.heap.size, 4, none⟩ = some (.int .i64 t2.place) ∧ cur.cell? ⟨wb.heap.size, 5, none⟩ = some (.int .i64 (depthN t2))))) (z := 8) (by kernel_rfl) ?_ (fun hHeld => ?_)
  · exact ⟨HP8.out, N8.out.cells.1, A8.out.cells.1, E8.out.cells.1⟩
  refine AnyTill.take (i := 0) (v := ?_) (op_at rfl) (by kernel_rfl) (by kernel_rfl) (by kernel_rfl) (by kernel_rfl) (fun _ _ _ h => h) (Or.inl ⟨by rfl, ?_⟩) (by assumption) ?_
  rotate_left
  · (intro w hSw; (try dsimp only at hSw); go_simp; try with_reducible rfl)
  try simp only [Act.put, List.setIfInBounds_toArray, List.set_cons_zero, List.set_cons_succ]
  refine AnyTill.take (i := 1) (v := ?_) (op_at rfl) (by kernel_rfl) (by kernel_rfl) (by kernel_rfl) (by kernel_rfl) (fun _ _ _ h => h) (Or.inl ⟨by rfl, ?_⟩) (by assumption) ?_
  rotate_left
  · (intro w hSw; (try dsimp only at hSw); go_simp; try with_reducible rfl)
  try simp only [Act.put, List.setIfInBounds_toArray, List.set_cons_zero, List.set_cons_succ]
  refine AnyTill.take (i := 2) (v := ?_) (op_at rfl) (by kernel_rfl) (by kernel_rfl) (by kernel_rfl) (by kernel_rfl) (fun _ _ _ h => h) (Or.inl ⟨by rfl, ?_⟩) (by assumption) ?_
  rotate_left
  · (intro w hSw; (try dsimp only at hSw); go_simp; try with_reducible rfl)
  try simp only [Act.put, List.setIfInBounds_toArray, List.set_cons_zero, List.set_cons_succ]
  refine AnyTill.take (i := 3) (v := ?_) (op_at rfl) (by kernel_rfl) (by kernel_rfl) (by kernel_rfl) (by kernel_rfl) (fun _ _ _ h => h) (Or.inl ⟨by rfl, ?_⟩) (by assumption) ?_
  rotate_left
  · (intro w hSw; (try dsimp only at hSw); go_simp; try with_reducible rfl)
  try simp only [Act.put, List.setIfInBounds_toArray, List.set_cons_zero, List.set_cons_succ]
  refine AnyTill.take (i := 4) (v := ?_) (op_at rfl) (by kernel_rfl) (by kernel_rfl) (by kernel_rfl) (by kernel_rfl) (fun _ _ _ h => h) (Or.inl ⟨by rfl, ?_⟩) (by assumption) ?_
  rotate_left
  · (intro w hSw; (try dsimp only at hSw); go_simp; try with_reducible rfl)
  try simp only [Act.put, List.setIfInBounds_toArray, List.set_cons_zero, List.set_cons_succ]
  refine AnyTill.next (i := 5) (by kernel_rfl) (op_at rfl) (by decide) (fun K hK => ?_)
  go_simp
  (with_reducible refine Calls.mono C8.out ?_)
  intro e w9 hq
  cases x with
  | error q =>
    obtain ⟨k0, p0⟩ := q
    obtain ⟨rfl, hg⟩ := hq
    refine And.intro rfl ?_
    rw [HX4.out]
    exact ⟨rfl, grown_trans GW.out hg⟩
  | ok q =>
  obtain ⟨m, q⟩ := q
  obtain ⟨a3, c3, rfl, hs6, hg6, hl6, hd6⟩ := hq
  have S9 := Lib.hid hs6
  have G9 := Lib.hid (grown_trans GW.out hg6)
  have hd8 := Lib.hid (show w8.drew.heap.size = w8.heap.size from rfl)
  have N9 := Lib.hid (N8.out.grown hg6 (by have := hsz.out; omega))
  have A9 := Lib.hid (A8.out.grown hg6 (fun e => by have := Option.some.inj e; have := hsz.out; omega))
  have E9 := Lib.hid (E8.out.grown hg6 (fun e => by have := Option.some.inj e; have := hsz.out; omega))
  have Z9 := Lib.hid (Z8.out.grown hg6 (fun e => by have := Option.some.inj e; have := hsz.out; omega))
  have HP9 := Lib.hid (HC.out w9 G9.out)
  have HG9 := Lib.hid hg6
  have HL3 := Lib.hid hl6
  have HD3 := Lib.hid hd6
  clear hs6 hg6 hl6 hd6 C8
  unfold trV
  go_wp2_with fail
  refine hK.out _ _ ?_ (fun hHeld => ?_)
  · exact ⟨HP9.out, N9.out.cells.1, A9.out.cells.1, E9.out.cells.1⟩
  clear hK K
  try simp only [Act.put, List.setIfInBounds_toArray, List.set_cons_zero, List.set_cons_succ]
  refine AnyTill.next (i := 6) (by kernel_rfl) (op_at rfl) (by decide) (fun K hK => ?_)
  go_simp
  obtain ⟨Wx, hWx⟩ : ∃ W, W = w9.alloc (.cells #[.int .i64 t1.kind, .string t1.text, .int .i64 t1.n, .slice a1 t1.kids.length c1, .int .i64 t1.place, .int .i64 (depthN t1), .int .i64 t2.kind, .string t2.text, .int .i64 t2.n, .slice a2 t2.kids.length c2, .int .i64 t2.place, .int .i64 (depthN t2), .int .i64 m.kind, .string m.text, .int .i64 m.n, .slice a3 m.kids.length c3, .int .i64 m.place, .int .i64 (depthN m)] 67) := ⟨_, rfl⟩
  have Rx := Lib.hid (show TRow Wx w9.heap.size 0 [(t1, a1, c1), (t2, a2, c2), (m, a3, c3)] from hWx ▸ trow3 w9 _ (t1, a1, c1) (t2, a2, c2) (m, a3, c3))
  have Bx := Lib.hid (show Below w9.heap.size w9 Wx from hWx ▸ nbelow1 _ _)
  have hzx := Lib.hid (show Wx.heap.size = w9.heap.size + 1 by rw [hWx]; simp)
  have Nx := Lib.hid (N9.out.below Bx.out)
  have Ax := Lib.hid (A9.out.below Bx.out)
  have Ex := Lib.hid (E9.out.below Bx.out)
  have HPx := Lib.hid (HC.out Wx (grown_trans G9.out (grown_of Bx.out)))
  have Cx := Lib.hid (show Calls Tryz.prog 86 #[.pointer (some ⟨P, 0, none⟩), .agg #[.int .i64 14, .string ⟨#[]⟩, .int .i64 0, .slice none 0 0, .int .i64 T.pos], .slice (some ⟨w9.heap.size, 0, none⟩) 3 3] Wx (MadeQ 14 [] 0 T.pos [(t1, a1, c1), (t2, a2, c2), (m, a3, c3)] Wx) from
    qmade_any P 14 [] 0 T.pos (some ⟨w9.heap.size, 0, none⟩) 3 [(t1, a1, c1), (t2, a2, c2), (m, a3, c3)] Wx (by show 3 ≤ 8; decide) (fun _ => ⟨w9.heap.size, 0, rfl, by have := hzx.out; omega, Rx.out⟩) (fun e he => by
      rcases List.mem_cons.1 he with rfl | he
      · exact HD1.out
      rcases List.mem_cons.1 he with rfl | he
      · exact HD2.out
      obtain rfl := List.mem_singleton.1 he; exact HD3.out))
  rw [← hWx]
  clear hWx
  refine hK.out _ _ ?_ (fun hHeld => ?_)
  · exact ⟨HPx.out, Nx.out.cells.1, Ax.out.cells.1, Ex.out.cells.1⟩
  clear hK K
  try simp only [Act.put, List.setIfInBounds_toArray, List.set_cons_zero, List.set_cons_succ]
  refine AnyTill.next (i := 7) (by kernel_rfl) (op_at rfl) (by decide) (fun K hK => ?_)
  go_simp
  (with_reducible refine Calls.mono Cx.out ?_)
  intro e wy hm
  have HMR := Lib.hid (show MadeR (made (mkN 14 [] 0 [t1, t2, m] T.pos) q) (fun c => w.heap.size < c ∧ c < Wx.heap.size) Wx e wy from by
    have h1 := hsz.out
    have h2 := hzx.out
    have h3 := HG9.out.size
    have h4 := hd8.out
    have hgx := grown_trans HG9.out (grown_of Bx.out)
    refine hm.use rfl (by show 0 ≤ 16384; decide) rfl HT0.out.2.1 (fun c hc => hc.2) (fun e he => ?_) q
    rcases List.mem_cons.1 he with rfl | he
    · exact lies_later HL1'.out hgx fun c hc => ⟨hc.2, by have := hc.1; omega, hc.1, by have := hc.2; omega⟩
    rcases List.mem_cons.1 he with rfl | he
    · exact lies_later HL2'.out hgx fun c hc => ⟨hc.2, by have := hc.1; omega, hc.1, by have := hc.2; omega⟩
    · obtain rfl := List.mem_singleton.1 he
      exact lies_move HL3.out (fun c hc => Bx.out.block c hc.2) fun c hc => ⟨by have := hc.1; omega, by have := hc.2; omega⟩)
  clear hm Cx
  obtain ⟨hb8, hm⟩ := HMR.out
  have By := Lib.hid hb8
  have HXm := Lib.hid (show X = made (mkN 14 [] 0 [t1, t2, m] T.pos) q from HX4.out)
  cases hmd : made (mkN 14 [] 0 [t1, t2, m] T.pos) q with
  | error z =>
    obtain ⟨k0, p0⟩ := z
    rw [hmd] at hm
    obtain rfl := hm
    refine And.intro rfl ?_
    rw [HXm.out, hmd]
    exact ⟨rfl, grown_trans G9.out (grown_of (Bx.out.trans (By.out.mono Bx.out.size)))⟩
  | ok z =>
  obtain ⟨t4, q2⟩ := z
  have hq2 : q2 = q := made_rest hmd
  subst hq2
  rw [hmd] at hm
  obtain ⟨a4, c4, rfl, hl3, hd3⟩ := hm
  have HMD := Lib.hid hmd
  have HL4 := Lib.hid hl3
  have HD4 := Lib.hid hd3
  have Ny := Lib.hid (Nx.out.below By.out)
  have Ay := Lib.hid (Ax.out.below By.out)
  have Ey := Lib.hid (Ex.out.below By.out)
  have hb78 := Bx.out.trans (By.out.mono Bx.out.size)
  have B9y := Lib.hid hb78
  have HPy := Lib.hid (HC.out wy (grown_trans G9.out (grown_of hb78)))
  clear hmd hl3 hd3 hb8 hb78
  unfold trV
  go_wp2_with fail
  refine hK.out _ _ ?_ (fun hHeld => ?_)
  · exact ⟨HPy.out, Ny.out.cells.1, Ay.out.cells.1, Ey.out.cells.1⟩
  clear hK K
  try simp only [Act.put, List.setIfInBounds_toArray, List.set_cons_zero, List.set_cons_succ]
  have Zy := Lib.hid (Z9.out.below B9y.out)
  obtain ⟨⟨z0, z1, z2, z3, z4, z5⟩, ⟨f0, f1, f2, f3, f4, f5⟩⟩ := Zy.out.cells
  have hzl := Zy.out.lt
  refine AnyTill.last (z := 8) (by kernel_rfl) (op_at rfl) (by kernel_rfl) (fun K hK => ?_)
  go_simp
  refine hK.out _ _ ?_
  clear hK K
  go_wp2_with fail
  refine bodyPost_ret (v := trV t4 a4 c4) (by simp [results, Tryz.results81, go_sem, trV, z0, z1, z2, z3, z4, z5]) rfl ?_
  rw [HXm.out, HMD.out]
  have h1 := hzx.out
  have h2 := By.out.size
  have hb := HB.out
  have h4 := G9.out.size
  exact QP.fin ((S9.out.below Bx.out).below By.out) (grown_trans G9.out (grown_of B9y.out)) (Nat.le_refl _) (by omega) HL4.out (fun c hc => by
    rcases hc with hc | hc
    · have := hc.1; have := hc.2; omega
    · have := hc.1; have := hc.2; omega) HD4.out
set_option maxHeartbeats 4000000 in
theorem qexpr_any (P g cap : Nat) (ts : List Tk) (he : Ends ts) (htk : ∀ t ∈ ts, TkOk t) (l : List Tk) (hO : CQ 83 (.chain 0) P g cap ts l) (hE : ∀ r, r.length < l.length → CQ 55 .expr P g cap ts r) : CQ 55 .expr P g cap ts l := by
  intro nest w hle h
  obtain ⟨W1, hW1⟩ : ∃ W, W = w.alloc (.cells #[.pointer (some ⟨P, 0, none⟩)] 65) := ⟨_, rfl⟩
  have B1 := Lib.hid (show Below w.heap.size w W1 from hW1 ▸ nbelow1 _ _)
  have hz1 := Lib.hid (show W1.heap.size = w.heap.size + 1 by rw [hW1]; simp)
  have hp := Lib.hid (show W1.cell? ⟨w.heap.size, 0, none⟩ = some (.pointer (some ⟨P, 0, none⟩)) by rw [hW1]; simp)
  obtain ⟨W2, hW2⟩ : ∃ W, W = W1.alloc (.cells #[.int .i64 0, .string ⟨#[]⟩, .int .i64 0, .slice none 0 0, .int .i64 0, .int .i64 0] 67) := ⟨_, rfl⟩
  have B2' := Lib.hid (show Below W1.heap.size W1 W2 from hW2 ▸ nbelow1 _ _)
  have B2 := Lib.hid (B1.out.trans (B2'.out.mono B1.out.size))
  have Z2 := Lib.hid (show T6 (w.heap.size + 1) 0 ⟨#[]⟩ 0 none 0 0 0 0 W2 from hW2 ▸ (show w.heap.size + 1 = W1.heap.size by rw [hz1.out]) ▸ T6.make W1 _ _ _ _ _ _ _ _)
  have HB := Lib.hid h.blocks
  have eg : Enters 81 := enters_of Tryz.func81 (by kernel_rfl) rfl
  have hp2 := Lib.hid (show W2.cell? ⟨w.heap.size, 0, none⟩ = some (.pointer (some ⟨P, 0, none⟩)) from (B2'.out.cell (p := ⟨w.heap.size, 0, none⟩) (by show w.heap.size < W1.heap.size; rw [hz1.out]; omega)).trans hp.out)
  have hz2 := Lib.hid (show w.heap.size + 1 < W2.heap.size from Z2.out.lt)
  have C := Lib.hid (show Calls Tryz.prog 80 #[.pointer (some ⟨P, 0, none⟩), .func (.func 81) #[] #[.pointer (some ⟨w.heap.size, 0, none⟩)]] W2 (QP P g cap ts nest (nestT nest l (exprI (nest + 1) l)) W2) from
    qwithin_any P g cap ts nest l 81 _ _ W2 hle (h.below B2.out) eg fun hn1 W hs hg => by
      have hb := HB.out
      have hsz := hz2.out
      have hgs := hg.size
      have c1 : W.cell? ⟨w.heap.size, 0, none⟩ = W2.cell? ⟨w.heap.size, 0, none⟩ := World.cell?_of_block (hg.block w.heap.size (by omega) (fun e => by have := Option.some.inj e; omega))
      exact qexpr1_any P g cap ts he htk (nest + 1) l w.heap.size W hn1 hs (c1.trans hp2.out) (by omega) hO hE)
  rw [expr_eq]
  generalize nestT nest l _ = x at C ⊢
  have hpr := hp2.out
  clear h htk he eg hO hE
  go_enter Tryz.func55, Tryz.ntmps55
  go_upto_region 1 with fail
  rw [← hW1, ← hW2]
  clear hW1 hW2
  go_wp2_with fail
  (with_reducible refine Calls.mono C.out ?_)
  intro e w3 hq
  cases x with
  | error q =>
    obtain ⟨k, p⟩ := q
    obtain ⟨rfl, hg⟩ := hq
    refine And.intro rfl ?_
    exact ⟨rfl, grown_trans (grown_of B2.out) hg⟩
  | ok q =>
    obtain ⟨t, r⟩ := q
    obtain ⟨a, cp, rfl, hs, hg, hl, hd⟩ := hq
    have Z3 := Lib.hid (Z2.out.grown hg (fun e => by have := Option.some.inj e; have := HB.out; omega))
    have HS := Lib.hid hs
    have HG := Lib.hid hg
    have HL := Lib.hid hl
    have HD := Lib.hid hd
    obtain ⟨⟨z0, z1, z2, z3, z4, z5⟩, ⟨f0, f1, f2, f3, f4, f5⟩⟩ := Z3.out.cells
    have hzl := Z3.out.lt
    clear hs hg hl hd C
    unfold trV
    go_wp2_with fail
    refine bodyPost_ret (v := trV t a cp) (by simp [results, Tryz.results55, go_sem, trV, z0, z1, z2, z3, z4, z5]) rfl ?_
    have hz := hz2.out
    have hb := HB.out
    exact QP.fin HS.out (grown_trans (grown_of B2.out) HG.out) (by omega) (by omega) HL.out (fun c hc => ⟨by have := hc.1; omega, hc.2, by have := hc.1; omega⟩) HD.out
end Go.Proofs.YtcndknkdhlmdnaaGreatDoor
