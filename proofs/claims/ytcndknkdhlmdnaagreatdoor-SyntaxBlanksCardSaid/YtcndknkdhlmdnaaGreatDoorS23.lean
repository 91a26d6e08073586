/-
  Texts that the statements' proofs rest on, one behind another: ScC.
-/
import Derived.Test.YtcndknkdhlmdnaaGreatDoorS22

/-
  The program's scanner: names, far names, keywords.
-/
namespace Go.Proofs.YtcndknkdhlmdnaaGreatDoor
open Go.RowKit
set_option maxRecDepth 100000

set_option maxHeartbeats 8000000 in
theorem qnamed_any (X M : Nat) (s : ByteArray) (a : Nat) (ts : List Tk) (w : World) (h : SC X M s a ts w) (hs : s.size ≤ 16384) (ha : a < s.size) (htl : ts.length ≤ 8192) :
    Calls Tryz.prog 147 #[.pointer (some ⟨X, 0, none⟩)] w (TokQ X M s a ts (namedS (s.data.toList.drop a) a) w) := by
  have hsp := span_drop_le s a
  have C1 := Lib.hid (qname_any X s a a w h.sb hs (by omega))
  have N := Lib.hid (show namedS (s.data.toList.drop a) a = (if ((s.data.toList.drop a).drop (spanL (s.data.toList.drop a))).headD 0 = 46 then
      if 24 < spanL (s.data.toList.drop a) ∨ spanL ((s.data.toList.drop a).drop (spanL (s.data.toList.drop a) + 1)) < 1 ∨ 24 < spanL ((s.data.toList.drop a).drop (spanL (s.data.toList.drop a) + 1)) ∨ wordL ((s.data.toList.drop a).take (spanL (s.data.toList.drop a))) = true ∨ wordL (((s.data.toList.drop a).drop (spanL (s.data.toList.drop a) + 1)).take (spanL ((s.data.toList.drop a).drop (spanL (s.data.toList.drop a) + 1)))) = true then .error 73
      else .ok (⟨3, (s.data.toList.drop a).take (spanL (s.data.toList.drop a)) ++ 46 :: ((s.data.toList.drop a).drop (spanL (s.data.toList.drop a) + 1)).take (spanL ((s.data.toList.drop a).drop (spanL (s.data.toList.drop a) + 1))), 0, a⟩, spanL (s.data.toList.drop a) + 1 + spanL ((s.data.toList.drop a).drop (spanL (s.data.toList.drop a) + 1)))
    else if 24 < spanL (s.data.toList.drop a) then .error 73 else .ok (⟨if wordL ((s.data.toList.drop a).take (spanL (s.data.toList.drop a))) = true then 2 else 1, (s.data.toList.drop a).take (spanL (s.data.toList.drop a)), 0, a⟩, spanL (s.data.toList.drop a))) from rfl)
  generalize hn : spanL (s.data.toList.drop a) = n at hsp C1 N
  simp only [List.drop_drop] at N
  have C2 := Lib.hid (fun (v : World) (hv : SB X s a v) => qbyteAt_any X s a (a + n) v hv)
  rw [show ((a + n : Nat) : Int) = (a : Int) + n by omega] at C2
  have HLT := Lib.hid (show (s.data.toList.drop (a + n)).headD 0 ≠ 0 → a + n < s.size from fun h => by have := drop_ne h; rwa [size_list] at this)
  generalize hc : (s.data.toList.drop (a + n)).headD 0 = c at C2 N HLT
  have hsm := span_drop_le s (a + (n + 1))
  have C3 := Lib.hid (fun (v : World) (hv : SB X s a v) => qname_any X s a (a + (n + 1)) v hv hs (by omega))
  rw [show ((a + (n + 1) : Nat) : Int) = (a : Int) + n + 1 by omega] at C3
  generalize hm : spanL (s.data.toList.drop (a + (n + 1))) = m at C3 N hsm
  obtain ⟨A, hA⟩ : ∃ A, A = s.extract a (a + n) := ⟨_, rfl⟩
  obtain ⟨B, hB⟩ : ∃ B, B = s.extract (a + n + 1) (a + n + 1 + m) := ⟨_, rfl⟩
  have hAl : A.data.toList = (s.data.toList.drop a).take n := by rw [hA, ext_list, Nat.add_sub_cancel_left]
  have hBl : B.data.toList = (s.data.toList.drop (a + (n + 1))).take m := by rw [hB, ext_list, Nat.add_sub_cancel_left, Nat.add_assoc]
  rw [← hAl, ← hBl] at N
  have hAs : A.size ≤ 16384 := by rw [← size_list, hAl, List.length_take, List.length_drop, size_list]; omega
  have hBs : B.size ≤ 16384 := by rw [← size_list, hBl, List.length_take, List.length_drop, size_list]; omega
  have HA := Lib.hid hA
  have HB := Lib.hid hB
  have HS := Lib.hid h
  obtain ⟨i0, hi, hz0, hz1, hz2⟩ := info_parts (show (Tryz.prog.info? 96).map (fun i => (i.zero, i.size, i.bytes)) = some (some (.agg #[.int .i64 0, .string ⟨#[]⟩, .int .i64 0, .int .i64 0]), 4, 40) by kernel_rfl)
  have HI0 := Lib.hid (show _ ∧ _ ∧ _ ∧ _ from ⟨hi, hz0, hz1, hz2⟩)
  clear hi hz0 hz1 hz2
  clear hn hc hm h hA hB hAl hBl
  obtain ⟨hX0, hX1⟩ := HS.out.sb
  go_enter Tryz.func147, Tryz.ntmps147
  go_wp2_with fail
  (with_reducible refine Calls.mono C1.out ?_)
  rintro e w1 ⟨rfl, hw1⟩
  rw [← hw1]
  clear hw1 C1 w1
  go_upto_region 2 with fail
  go_quiet (fail)
  rw [← HA.out]
  obtain ⟨W1, hW1⟩ : ∃ W, W = w.drewN nq := ⟨_, rfl⟩
  have HS1 := Lib.hid (show SC X M s a ts W1 from hW1 ▸ HS.out.below (Go.Proofs.YtcndknkdhlmdnaaGreatDoor.below_drewN w nq))
  have BX1 := Lib.hid (show Below X w W1 from hW1 ▸ ((Go.Proofs.YtcndknkdhlmdnaaGreatDoor.below_drewN w nq).mono (Nat.le_of_lt HS.out.lt.2)))
  rw [← hW1]
  clear hW1 hX0 hX1 HS HA
  obtain ⟨hX0, hX1⟩ := HS1.out.sb
  replace C2 := Lib.hid (C2.out W1 HS1.out.sb)
  by_cases h46 : (c.toNat : Int) = 46
  case neg =>
    have q1 : ((c.toNat : Int) != 46) = true := by rw [bne_iff_ne]; exact h46
    replace N := Lib.hid (N.out.trans (if_neg (fun e => h46 (by rw [e]; rfl))))
    obtain ⟨hMX, hXW1⟩ := HS1.out.lt
    obtain ⟨ao, cp, hat1, how1⟩ := HS1.out.ex
    have HOB := Lib.hid (show ∀ d, (Value.slice ao ts.length cp).ownBlock = some d → d < W1.heap.size from fun d hd => (how1.lt d hd).2)
    have HAT1 := Lib.hid hat1
    have HOW1 := Lib.hid how1
    clear h46 hat1 how1 C3 HB
    go_upto_region 5 with (first | ((with_reducible refine Calls.mono C2.out ?_); rintro e w1 ⟨rfl, hw⟩; rw [← hw]; clear hw w1))
    clear C2
    obtain ⟨W2, hW2⟩ : ∃ V, V = W1.alloc (.cells #[.int .i64 1, .string A, .int .i64 0, .int .i64 a] 96) := ⟨_, rfl⟩
    have B2 := Lib.hid (show Below W1.heap.size W1 W2 from hW2 ▸ nbelow1 _ _)
    have HS2 := Lib.hid (HS1.out.below B2.out)
    have hz2 : W2.heap.size = W1.heap.size + 1 := by rw [hW2]; simp
    have HX2 := Lib.hid (show W2.heap[W1.heap.size]? = some (.cells #[.int .i64 1, .string A, .int .i64 0, .int .i64 a] 96 (0, 0)) by rw [hW2]; show (W1.heap.push _)[W1.heap.size]? = _; simp)
    rw [← hW2]
    clear hW2 hX0 hX1
    obtain ⟨hX0, hX1⟩ := HS2.out.sb
    obtain ⟨v, hlook, hvw⟩ := HS2.out.keys.look A hAs
    have hX2 : W2.cell? ⟨X, 2, none⟩ = some (.map (some M)) := by obtain ⟨_, _, g, -⟩ := HS2.out.ex; simp [World.cell?, g]
    have c0 : W2.cell? ⟨W1.heap.size, 0, none⟩ = some (.int .i64 1) := by simp [World.cell?, HX2.out]
    have f0 : W2.frozen? ⟨W1.heap.size, 0, none⟩ = false := by simp [World.frozen?, HX2.out]
    generalize hb : W1.heap.size = tb at hz2 HX2 HOB c0 f0
    cases hw : wordL A.data.toList
    case false =>
      rw [hw] at hvw
      have hv : ¬ 0 < v := by simpa using hvw
      rw [hw] at N
      clear hvw
      go_upto_region 7 with fail
      obtain ⟨W3, hW3⟩ : ∃ V, V = W2 := ⟨_, rfl⟩
      have HX3 := Lib.hid (show W3.heap[tb]? = some (.cells #[.int .i64 1, .string A, .int .i64 0, .int .i64 a] 96 (0, 0)) from hW3 ▸ HX2.out)
      have hz3 : W3.heap.size = tb + 1 := by rw [hW3]; exact hz2
      have B13 := Lib.hid (show Below W1.heap.size W1 W3 from hW3 ▸ B2.out)
      rw [← hW3]
      clear hW3 hlook hv c0 f0 hX2 hX0 hX1 HX2
      have hat0 : W3.heap[X]? = some (.cells #[.string s, .int .i64 a, .map (some M), .slice ao ts.length cp, .pointer none] 129 (0, 0)) := (B13.out.block X hXW1).trans HAT1.out
      have how0 : W3.ownsRow (X + 1) 96 4 (.slice ao ts.length cp) ts.length (tksCells ts) := own_below HOW1.out B13.out
      have hXW : X < W3.heap.size := by omega
      have HS3 := Lib.hid (HS1.out.below B13.out)
      have hMORE : ∀ v : World, (∀ b, b < W3.heap.size → (Value.slice ao ts.length cp).ownBlock ≠ some b → v.heap[b]? = W3.heap[b]?) → (v.cell? ⟨tb, 0, none⟩ = some (.int .i64 1) ∧ v.cell? ⟨tb, 1, none⟩ = some (.string A) ∧ v.cell? ⟨tb, 2, none⟩ = some (.int .i64 0) ∧ v.cell? ⟨tb, 3, none⟩ = some (.int .i64 a)) := fun v hv => by
        have h' := (hv tb (by omega) (fun e => by have := HOB.out tb e; omega)).trans HX3.out
        refine ⟨?_, ?_, ?_, ?_⟩ <;> simp [World.cell?, h']
      have HMORE := Lib.hid hMORE
      have HZ3 := Lib.hid hz3
      clear hMORE HS2 HX3 B2 hz2 hz3 
      have HAT0 := Lib.hid hat0
      have HOW0 := Lib.hid how0
      have HKY0 := Lib.hid HS3.out.keys
      have HSI := Lib.hid (show (W3.cell? ⟨X, 3, none⟩ = some (.slice ao ts.length cp) ∧ W3.cell? ⟨X, 1, none⟩ = some (.int .i64 a) ∧ W3.cell? ⟨X, 0, none⟩ = some (.string s)) ∧ ((W3.cell? ⟨tb, 0, none⟩ = some (.int .i64 1) ∧ W3.cell? ⟨tb, 1, none⟩ = some (.string A) ∧ W3.cell? ⟨tb, 2, none⟩ = some (.int .i64 0) ∧ W3.cell? ⟨tb, 3, none⟩ = some (.int .i64 a))) from ⟨⟨by simp [World.cell?, hat0], by simp [World.cell?, hat0], by simp [World.cell?, hat0]⟩, (HMORE.out W3 (fun _ _ _ => rfl))⟩)
      have HSB := Lib.hid (show ∀ vv : World, (∀ b, b < W3.heap.size → (Value.slice ao ts.length cp).ownBlock ≠ some b → vv.heap[b]? = W3.heap[b]?) → vv.cell? ⟨X, 3, none⟩ = some (.slice ao ts.length cp) ∧ vv.cell? ⟨X, 1, none⟩ = some (.int .i64 a) ∧ vv.cell? ⟨X, 0, none⟩ = some (.string s) ∧ (vv.cell? ⟨tb, 0, none⟩ = some (.int .i64 1) ∧ vv.cell? ⟨tb, 1, none⟩ = some (.string A) ∧ vv.cell? ⟨tb, 2, none⟩ = some (.int .i64 0) ∧ vv.cell? ⟨tb, 3, none⟩ = some (.int .i64 a)) from fun vv hv => by
        have hX : ∀ i, vv.cell? ⟨X, i, none⟩ = W3.cell? ⟨X, i, none⟩ := fun i => World.cell?_of_block (hv X hXW (fun e => by have := (how0.lt X e).1; omega))
        exact ⟨(hX 3).trans HSI.out.1.1, (hX 1).trans HSI.out.1.2.1, (hX 0).trans HSI.out.1.2.2, HMORE.out vv hv⟩)
      clear hat0 how0
      refine wp_region_till (S := (fun cur : World => cur.cell? ⟨X, 3, none⟩ = some (.slice ao ts.length cp) ∧ cur.cell? ⟨X, 1, none⟩ = some (.int .i64 a) ∧ cur.cell? ⟨X, 0, none⟩ = some (.string s) ∧ (cur.cell? ⟨tb, 0, none⟩ = some (.int .i64 1) ∧ cur.cell? ⟨tb, 1, none⟩ = some (.string A) ∧ cur.cell? ⟨tb, 2, none⟩ = some (.int .i64 0) ∧ cur.cell? ⟨tb, 3, none⟩ = some (.int .i64 a)))) (z := 10) (by kernel_rfl) ?_ (fun hHeld => ?_)
      · exact HSB.out W3.drew (fun b _ _ => rfl)
      refine AnyTill.take (i := 0) (v := ?_) (op_at rfl) (by kernel_rfl) (by kernel_rfl) (by kernel_rfl) (by kernel_rfl) (fun _ _ _ h => h) (Or.inl ⟨by rfl, ?_⟩) (by assumption) ?_
      rotate_left
      · (intro w hSw; (try dsimp only at hSw); go_simp; try with_reducible rfl)
      try simp only [Act.put, List.setIfInBounds_toArray, List.set_cons_zero, List.set_cons_succ]
      refine AnyTill.take (i := 1) (v := ?_) (op_at rfl) (by kernel_rfl) (by kernel_rfl) (by kernel_rfl) (by kernel_rfl) (fun _ _ _ h => h) (Or.inl ⟨by rfl, ?_⟩) (by assumption) ?_
      rotate_left
      · (intro w hSw; (try dsimp only at hSw); go_simp; try with_reducible rfl)
      try simp only [Act.put, List.setIfInBounds_toArray, List.set_cons_zero, List.set_cons_succ]
      refine AnyTill.take (i := 2) (v := ?_) (op_at rfl) (by kernel_rfl) (by kernel_rfl) (by kernel_rfl) (by kernel_rfl) (fun _ _ _ h => h) (Or.inl ⟨by rfl, ?_⟩) (by assumption) ?_
      rotate_left
      · (intro w hSw; (try dsimp only at hSw); go_simp; try with_reducible rfl)
      try simp only [Act.put, List.setIfInBounds_toArray, List.set_cons_zero, List.set_cons_succ]
      refine AnyTill.take (i := 3) (v := ?_) (op_at rfl) (by kernel_rfl) (by kernel_rfl) (by kernel_rfl) (by kernel_rfl) (fun _ _ _ h => h) (Or.inl ⟨by rfl, ?_⟩) (by assumption) ?_
      rotate_left
      · (intro w hSw; (try dsimp only at hSw); go_simp; try with_reducible rfl)
      try simp only [Act.put, List.setIfInBounds_toArray, List.set_cons_zero, List.set_cons_succ]
      refine AnyTill.take (i := 4) (v := ?_) (op_at rfl) (by kernel_rfl) (by kernel_rfl) (by kernel_rfl) (by kernel_rfl) (fun _ _ _ h => h) (Or.inl ⟨by rfl, ?_⟩) (by assumption) ?_
      rotate_left
      · (intro w hSw; (try dsimp only at hSw); go_simp; try with_reducible rfl)
      try simp only [Act.put, List.setIfInBounds_toArray, List.set_cons_zero, List.set_cons_succ]
      refine AnyTill.take (i := 5) (v := ?_) (op_at rfl) (by kernel_rfl) (by kernel_rfl) (by kernel_rfl) (by kernel_rfl) (fun _ _ _ h => h) (Or.inl ⟨by rfl, ?_⟩) (by assumption) ?_
      rotate_left
      · (intro w hSw; (try dsimp only at hSw); go_simp; try with_reducible rfl)
      try simp only [Act.put, List.setIfInBounds_toArray, List.set_cons_zero, List.set_cons_succ]
      refine AnyTill.next (i := 6) (by kernel_rfl) (op_at rfl) (by decide) (fun K hK => ?_)
      go_simp
      obtain ⟨W5, hW5⟩ : ∃ V, V = (W3.alloc (.cells #[.int .i64 1, .string A, .int .i64 0, .int .i64 a] 96)).drew := ⟨_, rfl⟩
      have B5 := Lib.hid (show Below W3.heap.size W3 W5 from hW5 ▸ bdrew (nbelow1 _ _))
      have hz5 : W5.heap.size = W3.heap.size + 1 := by rw [hW5]; show (W3.alloc _).heap.size = _; simp
      have N5 := Lib.hid (show ∀ j u, (tkCells (⟨1, A.data.toList, 0, a⟩ : Tk))[j]? = some u → W5.cell? ((⟨W3.heap.size, 0, none⟩ : Addr).add j) = some u from hW5 ▸ cells4_new W3 _ _ _ _ _)
      have O5 := Lib.hid (show W5.ownsRow (X + 1) 96 4 (.slice ao ts.length cp) ts.length (tksCells ts) from own_below HOW0.out B5.out)
      rw [← hW5]
      clear hW5
      refine hK.out _ _ ?_ (fun hHeld => ?_)
      · exact HSB.out W5 (fun b hb _ => B5.out.block b hb)
      clear hK K
      try simp only [Act.put, List.setIfInBounds_toArray, List.set_cons_zero, List.set_cons_succ]
      refine AnyTill.next (i := 7) (by kernel_rfl) (op_at rfl) (by decide) (fun K hK => ?_)
      refine step_append_lies _ rfl _ _ 87 rfl (X + 1) 96 i0 (.agg #[.int .i64 0, .string ⟨#[]⟩, .int .i64 0, .int .i64 0]) 4 40 Tryz.underlying87 HI0.out.1 HI0.out.2.1 HI0.out.2.2.1 HI0.out.2.2.2 rfl (by decide) _ _ _ rfl O5.out ⟨W3.heap.size, 0, none⟩ 1 1 (tkCells (⟨1, A.data.toList, 0, a⟩ : Tk)) rfl rfl N5.out (tk_one _) (by decide) (by unfold maxLen; omega) (by omega) (by omega) _ rfl ?_
      intro gb cap' w6 hown' hgrow' hat' hltg
      have HG6 := Lib.hid hgrow'
      have HO6 := Lib.hid hown'
      have HX6 := Lib.hid (show w6.heap[X]? = some (.cells #[.string s, .int .i64 a, .map (some M), .slice ao ts.length cp, .pointer none] 129 (0, 0)) from (hgrow'.block X (by omega) (fun e => by have := (HOW0.out.lt X e.symm).1; omega)).trans ((B5.out.block X hXW).trans HAT0.out))
      clear hown' hgrow' hat' hltg
      refine hK.out _ _ ?_ (fun hHeld => ?_)
      · exact HSB.out w6 (fun b hb hne => (HG6.out.block b (by omega) (fun e => hne e.symm)).trans (B5.out.block b hb))
      clear hK K
      try simp only [Act.put, List.setIfInBounds_toArray, List.set_cons_zero, List.set_cons_succ]
      refine AnyTill.next (i := 8) (by kernel_rfl) (op_at rfl) (by decide) (fun K hK => ?_)
      go_simp
      refine hK.out _ _ ?_ (fun hHeld => ?_)
      · exact hHeld
      clear hK K
      try simp only [Act.put, List.setIfInBounds_toArray, List.set_cons_zero, List.set_cons_succ]
      refine AnyTill.next (i := 9) (by kernel_rfl) (op_at rfl) (by decide) (fun K hK => ?_)
      go_simp
      refine hK.out _ _ ?_ (fun hHeld => ?_)
      · exact hHeld
      clear hK K
      try simp only [Act.put, List.setIfInBounds_toArray, List.set_cons_zero, List.set_cons_succ]
      have hX3 : w6.cell? ⟨X, 3, none⟩ = some (.slice ao ts.length cp) := by simp [World.cell?, HX6.out]
      have hf6 : w6.frozen? ⟨X, 3, none⟩ = false := by simp [World.frozen?, HX6.out]
      have hX6l : X < w6.heap.size := (Array.getElem?_eq_some_iff.1 HX6.out).1
      refine AnyTill.last (z := 10) (by kernel_rfl) (op_at rfl) (by kernel_rfl) (fun K hK => ?_)
      go_simp
      refine hK.out _ _ ?_
      clear hK K hHeld
      obtain ⟨W7, hW7⟩ : ∃ V, V = w6.setCell ⟨X, 3, none⟩ (.slice (some ⟨gb, 0, none⟩) (ts.length + 1) cap') := ⟨_, rfl⟩
      have Z7 := Lib.hid (show SC X M s a (ts ++ [(⟨1, A.data.toList, 0, a⟩ : Tk)]) W7 ∧ Below X W3 W7 from hW7 ▸ sc_append hMX hXW HOW0.out HKY0.out B5.out HX6.out HO6.out HG6.out)
      have HS7 := Lib.hid Z7.out.1
      have BX7 := Lib.hid Z7.out.2
      rw [← hW7]
      clear hW7 hX3 hf6 hX6l HX6 HO6 HG6 O5 N5 B5 HSB HSI HAT0 HOW0 HKY0 Z7
      have BX := Lib.hid (BX1.out.trans ((B13.out.mono (by omega)).trans BX7.out))
      by_cases h24 : 24 < (n : Int)
      · have R := Lib.hid (N.out.trans (if_pos (by omega)))
        go_wp2_with fail
        go_ret2
        exact tokQ_err R.out (by decide) BX.out HS7.out
      · have R := Lib.hid (N.out.trans (if_neg (by omega)))
        go_wp2_with fail
        go_ret2
        exact tokQ_ok R.out BX.out rfl rfl HS7.out
    case true =>
      rw [hw] at hvw
      have hv : 0 < v := by simpa using hvw
      rw [hw] at N
      clear hvw
      go_upto_region 7 with fail
      obtain ⟨W3, hW3⟩ : ∃ V, V = W2.setCell ⟨tb, 0, none⟩ (.int .i64 2) := ⟨_, rfl⟩
      have B3 := Lib.hid (show Below tb W2 W3 from hW3 ▸ ((Below.refl tb W2).setCell (p := ⟨tb, 0, none⟩) (Nat.le_refl _) _))
      have HX3 := Lib.hid (show W3.heap[tb]? = some (.cells #[.int .i64 2, .string A, .int .i64 0, .int .i64 a] 96 (0, 0)) from hW3 ▸ heap_set HX2.out 0 _)
      have hz3 : W3.heap.size = tb + 1 := by rw [hW3]; simp [World.setCell, hz2]
      have B13 := Lib.hid (show Below W1.heap.size W1 W3 from B2.out.trans (B3.out.mono (by omega)))
      rw [← hW3]
      clear hW3 hlook hv c0 f0 hX2 hX0 hX1 HX2
      have hat0 : W3.heap[X]? = some (.cells #[.string s, .int .i64 a, .map (some M), .slice ao ts.length cp, .pointer none] 129 (0, 0)) := (B13.out.block X hXW1).trans HAT1.out
      have how0 : W3.ownsRow (X + 1) 96 4 (.slice ao ts.length cp) ts.length (tksCells ts) := own_below HOW1.out B13.out
      have hXW : X < W3.heap.size := by omega
      have HS3 := Lib.hid (HS1.out.below B13.out)
      have hMORE : ∀ v : World, (∀ b, b < W3.heap.size → (Value.slice ao ts.length cp).ownBlock ≠ some b → v.heap[b]? = W3.heap[b]?) → (v.cell? ⟨tb, 0, none⟩ = some (.int .i64 2) ∧ v.cell? ⟨tb, 1, none⟩ = some (.string A) ∧ v.cell? ⟨tb, 2, none⟩ = some (.int .i64 0) ∧ v.cell? ⟨tb, 3, none⟩ = some (.int .i64 a)) := fun v hv => by
        have h' := (hv tb (by omega) (fun e => by have := HOB.out tb e; omega)).trans HX3.out
        refine ⟨?_, ?_, ?_, ?_⟩ <;> simp [World.cell?, h']
      have HMORE := Lib.hid hMORE
      have HZ3 := Lib.hid hz3
      clear hMORE HS2 HX3 B2 hz2 hz3 B3
      have HAT0 := Lib.hid hat0
      have HOW0 := Lib.hid how0
      have HKY0 := Lib.hid HS3.out.keys
      have HSI := Lib.hid (show (W3.cell? ⟨X, 3, none⟩ = some (.slice ao ts.length cp) ∧ W3.cell? ⟨X, 1, none⟩ = some (.int .i64 a) ∧ W3.cell? ⟨X, 0, none⟩ = some (.string s)) ∧ ((W3.cell? ⟨tb, 0, none⟩ = some (.int .i64 2) ∧ W3.cell? ⟨tb, 1, none⟩ = some (.string A) ∧ W3.cell? ⟨tb, 2, none⟩ = some (.int .i64 0) ∧ W3.cell? ⟨tb, 3, none⟩ = some (.int .i64 a))) from ⟨⟨by simp [World.cell?, hat0], by simp [World.cell?, hat0], by simp [World.cell?, hat0]⟩, (HMORE.out W3 (fun _ _ _ => rfl))⟩)
      have HSB := Lib.hid (show ∀ vv : World, (∀ b, b < W3.heap.size → (Value.slice ao ts.length cp).ownBlock ≠ some b → vv.heap[b]? = W3.heap[b]?) → vv.cell? ⟨X, 3, none⟩ = some (.slice ao ts.length cp) ∧ vv.cell? ⟨X, 1, none⟩ = some (.int .i64 a) ∧ vv.cell? ⟨X, 0, none⟩ = some (.string s) ∧ (vv.cell? ⟨tb, 0, none⟩ = some (.int .i64 2) ∧ vv.cell? ⟨tb, 1, none⟩ = some (.string A) ∧ vv.cell? ⟨tb, 2, none⟩ = some (.int .i64 0) ∧ vv.cell? ⟨tb, 3, none⟩ = some (.int .i64 a)) from fun vv hv => by
        have hX : ∀ i, vv.cell? ⟨X, i, none⟩ = W3.cell? ⟨X, i, none⟩ := fun i => World.cell?_of_block (hv X hXW (fun e => by have := (how0.lt X e).1; omega))
        exact ⟨(hX 3).trans HSI.out.1.1, (hX 1).trans HSI.out.1.2.1, (hX 0).trans HSI.out.1.2.2, HMORE.out vv hv⟩)
      clear hat0 how0
      refine wp_region_till (S := (fun cur : World => cur.cell? ⟨X, 3, none⟩ = some (.slice ao ts.length cp) ∧ cur.cell? ⟨X, 1, none⟩ = some (.int .i64 a) ∧ cur.cell? ⟨X, 0, none⟩ = some (.string s) ∧ (cur.cell? ⟨tb, 0, none⟩ = some (.int .i64 2) ∧ cur.cell? ⟨tb, 1, none⟩ = some (.string A) ∧ cur.cell? ⟨tb, 2, none⟩ = some (.int .i64 0) ∧ cur.cell? ⟨tb, 3, none⟩ = some (.int .i64 a)))) (z := 10) (by kernel_rfl) ?_ (fun hHeld => ?_)
      · exact HSB.out W3.drew (fun b _ _ => rfl)
      refine AnyTill.take (i := 0) (v := ?_) (op_at rfl) (by kernel_rfl) (by kernel_rfl) (by kernel_rfl) (by kernel_rfl) (fun _ _ _ h => h) (Or.inl ⟨by rfl, ?_⟩) (by assumption) ?_
      rotate_left
      · (intro w hSw; (try dsimp only at hSw); go_simp; try with_reducible rfl)
      try simp only [Act.put, List.setIfInBounds_toArray, List.set_cons_zero, List.set_cons_succ]
      refine AnyTill.take (i := 1) (v := ?_) (op_at rfl) (by kernel_rfl) (by kernel_rfl) (by kernel_rfl) (by kernel_rfl) (fun _ _ _ h => h) (Or.inl ⟨by rfl, ?_⟩) (by assumption) ?_
      rotate_left
      · (intro w hSw; (try dsimp only at hSw); go_simp; try with_reducible rfl)
      try simp only [Act.put, List.setIfInBounds_toArray, List.set_cons_zero, List.set_cons_succ]
      refine AnyTill.take (i := 2) (v := ?_) (op_at rfl) (by kernel_rfl) (by kernel_rfl) (by kernel_rfl) (by kernel_rfl) (fun _ _ _ h => h) (Or.inl ⟨by rfl, ?_⟩) (by assumption) ?_
      rotate_left
      · (intro w hSw; (try dsimp only at hSw); go_simp; try with_reducible rfl)
      try simp only [Act.put, List.setIfInBounds_toArray, List.set_cons_zero, List.set_cons_succ]
      refine AnyTill.take (i := 3) (v := ?_) (op_at rfl) (by kernel_rfl) (by kernel_rfl) (by kernel_rfl) (by kernel_rfl) (fun _ _ _ h => h) (Or.inl ⟨by rfl, ?_⟩) (by assumption) ?_
      rotate_left
      · (intro w hSw; (try dsimp only at hSw); go_simp; try with_reducible rfl)
      try simp only [Act.put, List.setIfInBounds_toArray, List.set_cons_zero, List.set_cons_succ]
      refine AnyTill.take (i := 4) (v := ?_) (op_at rfl) (by kernel_rfl) (by kernel_rfl) (by kernel_rfl) (by kernel_rfl) (fun _ _ _ h => h) (Or.inl ⟨by rfl, ?_⟩) (by assumption) ?_
      rotate_left
      · (intro w hSw; (try dsimp only at hSw); go_simp; try with_reducible rfl)
      try simp only [Act.put, List.setIfInBounds_toArray, List.set_cons_zero, List.set_cons_succ]
      refine AnyTill.take (i := 5) (v := ?_) (op_at rfl) (by kernel_rfl) (by kernel_rfl) (by kernel_rfl) (by kernel_rfl) (fun _ _ _ h => h) (Or.inl ⟨by rfl, ?_⟩) (by assumption) ?_
      rotate_left
      · (intro w hSw; (try dsimp only at hSw); go_simp; try with_reducible rfl)
      try simp only [Act.put, List.setIfInBounds_toArray, List.set_cons_zero, List.set_cons_succ]
      refine AnyTill.next (i := 6) (by kernel_rfl) (op_at rfl) (by decide) (fun K hK => ?_)
      go_simp
      obtain ⟨W5, hW5⟩ : ∃ V, V = (W3.alloc (.cells #[.int .i64 2, .string A, .int .i64 0, .int .i64 a] 96)).drew := ⟨_, rfl⟩
      have B5 := Lib.hid (show Below W3.heap.size W3 W5 from hW5 ▸ bdrew (nbelow1 _ _))
      have hz5 : W5.heap.size = W3.heap.size + 1 := by rw [hW5]; show (W3.alloc _).heap.size = _; simp
      have N5 := Lib.hid (show ∀ j u, (tkCells (⟨2, A.data.toList, 0, a⟩ : Tk))[j]? = some u → W5.cell? ((⟨W3.heap.size, 0, none⟩ : Addr).add j) = some u from hW5 ▸ cells4_new W3 _ _ _ _ _)
      have O5 := Lib.hid (show W5.ownsRow (X + 1) 96 4 (.slice ao ts.length cp) ts.length (tksCells ts) from own_below HOW0.out B5.out)
      rw [← hW5]
      clear hW5
      refine hK.out _ _ ?_ (fun hHeld => ?_)
      · exact HSB.out W5 (fun b hb _ => B5.out.block b hb)
      clear hK K
      try simp only [Act.put, List.setIfInBounds_toArray, List.set_cons_zero, List.set_cons_succ]
      refine AnyTill.next (i := 7) (by kernel_rfl) (op_at rfl) (by decide) (fun K hK => ?_)
      refine step_append_lies _ rfl _ _ 87 rfl (X + 1) 96 i0 (.agg #[.int .i64 0, .string ⟨#[]⟩, .int .i64 0, .int .i64 0]) 4 40 Tryz.underlying87 HI0.out.1 HI0.out.2.1 HI0.out.2.2.1 HI0.out.2.2.2 rfl (by decide) _ _ _ rfl O5.out ⟨W3.heap.size, 0, none⟩ 1 1 (tkCells (⟨2, A.data.toList, 0, a⟩ : Tk)) rfl rfl N5.out (tk_one _) (by decide) (by unfold maxLen; omega) (by omega) (by omega) _ rfl ?_
      intro gb cap' w6 hown' hgrow' hat' hltg
      have HG6 := Lib.hid hgrow'
      have HO6 := Lib.hid hown'
      have HX6 := Lib.hid (show w6.heap[X]? = some (.cells #[.string s, .int .i64 a, .map (some M), .slice ao ts.length cp, .pointer none] 129 (0, 0)) from (hgrow'.block X (by omega) (fun e => by have := (HOW0.out.lt X e.symm).1; omega)).trans ((B5.out.block X hXW).trans HAT0.out))
      clear hown' hgrow' hat' hltg
      refine hK.out _ _ ?_ (fun hHeld => ?_)
      · exact HSB.out w6 (fun b hb hne => (HG6.out.block b (by omega) (fun e => hne e.symm)).trans (B5.out.block b hb))
      clear hK K
      try simp only [Act.put, List.setIfInBounds_toArray, List.set_cons_zero, List.set_cons_succ]
      refine AnyTill.next (i := 8) (by kernel_rfl) (op_at rfl) (by decide) (fun K hK => ?_)
      go_simp
      refine hK.out _ _ ?_ (fun hHeld => ?_)
      · exact hHeld
      clear hK K
      try simp only [Act.put, List.setIfInBounds_toArray, List.set_cons_zero, List.set_cons_succ]
      refine AnyTill.next (i := 9) (by kernel_rfl) (op_at rfl) (by decide) (fun K hK => ?_)
      go_simp
      refine hK.out _ _ ?_ (fun hHeld => ?_)
      · exact hHeld
      clear hK K
      try simp only [Act.put, List.setIfInBounds_toArray, List.set_cons_zero, List.set_cons_succ]
      have hX3 : w6.cell? ⟨X, 3, none⟩ = some (.slice ao ts.length cp) := by simp [World.cell?, HX6.out]
      have hf6 : w6.frozen? ⟨X, 3, none⟩ = false := by simp [World.frozen?, HX6.out]
      have hX6l : X < w6.heap.size := (Array.getElem?_eq_some_iff.1 HX6.out).1
      refine AnyTill.last (z := 10) (by kernel_rfl) (op_at rfl) (by kernel_rfl) (fun K hK => ?_)
      go_simp
      refine hK.out _ _ ?_
      clear hK K hHeld
      obtain ⟨W7, hW7⟩ : ∃ V, V = w6.setCell ⟨X, 3, none⟩ (.slice (some ⟨gb, 0, none⟩) (ts.length + 1) cap') := ⟨_, rfl⟩
      have Z7 := Lib.hid (show SC X M s a (ts ++ [(⟨2, A.data.toList, 0, a⟩ : Tk)]) W7 ∧ Below X W3 W7 from hW7 ▸ sc_append hMX hXW HOW0.out HKY0.out B5.out HX6.out HO6.out HG6.out)
      have HS7 := Lib.hid Z7.out.1
      have BX7 := Lib.hid Z7.out.2
      rw [← hW7]
      clear hW7 hX3 hf6 hX6l HX6 HO6 HG6 O5 N5 B5 HSB HSI HAT0 HOW0 HKY0 Z7
      have BX := Lib.hid (BX1.out.trans ((B13.out.mono (by omega)).trans BX7.out))
      by_cases h24 : 24 < (n : Int)
      · have R := Lib.hid (N.out.trans (if_pos (by omega)))
        go_wp2_with fail
        go_ret2
        exact tokQ_err R.out (by decide) BX.out HS7.out
      · have R := Lib.hid (N.out.trans (if_neg (by omega)))
        go_wp2_with fail
        go_ret2
        exact tokQ_ok R.out BX.out rfl rfl HS7.out
  have q1 : ((c.toNat : Int) != 46) = false := by rw [h46]; rfl
  have e46 : c = 46 := UInt8.toNat_inj.1 (Int.ofNat.inj h46)
  replace N := Lib.hid (N.out.trans (if_pos e46))
  replace C3 := Lib.hid (C3.out W1 HS1.out.sb)
  have hltn : a + n < s.size := HLT.out (by rw [e46]; decide)
  have hlm : a + n + 1 + m ≤ s.size := by omega
  clear h46 e46 HLT
  go_upto_region 12 with (first | ((with_reducible refine Calls.mono C2.out ?_); rintro e w1 ⟨rfl, hw⟩; rw [← hw]; clear hw w1) | ((with_reducible refine Calls.mono C3.out ?_); rintro e w1 ⟨rfl, hw⟩; rw [← hw]; clear hw w1))
  clear C2 C3
  go_quiet (fail)
  rw [← HB.out]
  obtain ⟨W2, hW2⟩ : ∃ W, W = W1.drewN nq := ⟨_, rfl⟩
  have HS2 := Lib.hid (show SC X M s a ts W2 from hW2 ▸ HS1.out.below (Go.Proofs.YtcndknkdhlmdnaaGreatDoor.below_drewN W1 nq))
  have BX2 := Lib.hid (show Below X W1 W2 from hW2 ▸ ((Go.Proofs.YtcndknkdhlmdnaaGreatDoor.below_drewN W1 nq).mono (Nat.le_of_lt HS1.out.lt.2)))
  rw [← hW2]
  clear hW2 hX0 hX1 HS1 HB
  have hs1 : ¬ 9223372036854775807 < A.size + 1 := by omega
  have hs2 : ¬ 9223372036854775807 < A.size + 1 + B.size := by omega
  go_upto_region 13 with fail
  obtain ⟨hMX, hXW⟩ := HS2.out.lt
  obtain ⟨ao, cp, hat0, how0⟩ := HS2.out.ex
  have HAT0 := Lib.hid hat0
  have HOW0 := Lib.hid how0
  have HKY0 := Lib.hid HS2.out.keys
  have HSI := Lib.hid (show (W2.cell? ⟨X, 3, none⟩ = some (.slice ao ts.length cp) ∧ W2.cell? ⟨X, 1, none⟩ = some (.int .i64 a) ∧ W2.cell? ⟨X, 0, none⟩ = some (.string s)) ∧ True from ⟨⟨by simp [World.cell?, hat0], by simp [World.cell?, hat0], by simp [World.cell?, hat0]⟩, trivial⟩)
  have HSB := Lib.hid (show ∀ vv : World, (∀ b, b < W2.heap.size → (Value.slice ao ts.length cp).ownBlock ≠ some b → vv.heap[b]? = W2.heap[b]?) → vv.cell? ⟨X, 3, none⟩ = some (.slice ao ts.length cp) ∧ vv.cell? ⟨X, 1, none⟩ = some (.int .i64 a) ∧ vv.cell? ⟨X, 0, none⟩ = some (.string s) from fun vv hv => by
    have hX : ∀ i, vv.cell? ⟨X, i, none⟩ = W2.cell? ⟨X, i, none⟩ := fun i => World.cell?_of_block (hv X hXW (fun e => by have := (how0.lt X e).1; omega))
    exact ⟨(hX 3).trans HSI.out.1.1, (hX 1).trans HSI.out.1.2.1, (hX 0).trans HSI.out.1.2.2⟩)
  clear hat0 how0
  refine wp_region_till (S := (fun cur : World => cur.cell? ⟨X, 3, none⟩ = some (.slice ao ts.length cp) ∧ cur.cell? ⟨X, 1, none⟩ = some (.int .i64 a) ∧ cur.cell? ⟨X, 0, none⟩ = some (.string s))) (z := 18) (by kernel_rfl) ?_ (fun hHeld => ?_)
  · exact HSB.out W2.drew (fun b _ _ => rfl)
  refine AnyTill.take (i := 0) (v := ?_) (op_at rfl) (by kernel_rfl) (by kernel_rfl) (by kernel_rfl) (by kernel_rfl) (fun _ _ _ h => h) (Or.inl ⟨by rfl, ?_⟩) (by assumption) ?_
  rotate_left
  · (intro w hSw; (try dsimp only at hSw); go_simp; try with_reducible rfl)
  try simp only [Act.put, List.setIfInBounds_toArray, List.set_cons_zero, List.set_cons_succ]
  refine AnyTill.take (i := 1) (v := ?_) (op_at rfl) (by kernel_rfl) (by kernel_rfl) (by kernel_rfl) (by kernel_rfl) (fun _ _ _ h => h) (Or.inl ⟨by rfl, ?_⟩) (by assumption) ?_
  rotate_left
  · (intro w hSw; (try dsimp only at hSw); go_simp; try with_reducible rfl)
  try simp only [Act.put, List.setIfInBounds_toArray, List.set_cons_zero, List.set_cons_succ]
  refine AnyTill.take (i := 2) (v := ?_) (op_at rfl) (by kernel_rfl) (by kernel_rfl) (by kernel_rfl) (by kernel_rfl) (fun _ _ _ h => h) (Or.inl ⟨by rfl, ?_⟩) (by assumption) ?_
  rotate_left
  · (intro w hSw; (try dsimp only at hSw); go_simp; try with_reducible rfl)
  try simp only [Act.put, List.setIfInBounds_toArray, List.set_cons_zero, List.set_cons_succ]
  refine AnyTill.take (i := 3) (v := ?_) (op_at rfl) (by kernel_rfl) (by kernel_rfl) (by kernel_rfl) (by kernel_rfl) (fun _ _ _ h => h) (Or.inl ⟨by rfl, ?_⟩) (by assumption) ?_
  rotate_left
  · (intro w hSw; (try dsimp only at hSw); go_simp; try with_reducible rfl)
  try simp only [Act.put, List.setIfInBounds_toArray, List.set_cons_zero, List.set_cons_succ]
  refine AnyTill.take (i := 4) (v := ?_) (op_at rfl) (by kernel_rfl) (by kernel_rfl) (by kernel_rfl) (by kernel_rfl) (fun _ _ _ h => h) (Or.inl ⟨by rfl, ?_⟩) (by assumption) ?_
  rotate_left
  · (intro w hSw; (try dsimp only at hSw); go_simp; try with_reducible rfl)
  try simp only [Act.put, List.setIfInBounds_toArray, List.set_cons_zero, List.set_cons_succ]
  refine AnyTill.take (i := 5) (v := ?_) (op_at rfl) (by kernel_rfl) (by kernel_rfl) (by kernel_rfl) (by kernel_rfl) (fun _ _ _ h => h) (Or.inl ⟨by rfl, ?_⟩) (by assumption) ?_
  rotate_left
  · (intro w hSw; (try dsimp only at hSw); go_simp; try with_reducible rfl)
  try simp only [Act.put, List.setIfInBounds_toArray, List.set_cons_zero, List.set_cons_succ]
  refine AnyTill.take (i := 6) (v := ?_) (op_at rfl) (by kernel_rfl) (by kernel_rfl) (by kernel_rfl) (by kernel_rfl) (fun _ _ _ h => h) (Or.inl ⟨by rfl, ?_⟩) (by assumption) ?_
  rotate_left
  · (intro w hSw; (try dsimp only at hSw); go_simp; try with_reducible rfl)
  try simp only [Act.put, List.setIfInBounds_toArray, List.set_cons_zero, List.set_cons_succ]
  refine AnyTill.take (i := 7) (v := ?_) (op_at rfl) (by kernel_rfl) (by kernel_rfl) (by kernel_rfl) (by kernel_rfl) (fun _ _ _ h => h) (Or.inl ⟨by rfl, ?_⟩) (by assumption) ?_
  rotate_left
  · (intro w hSw; (try dsimp only at hSw); go_simp; try with_reducible rfl)
  try simp only [Act.put, List.setIfInBounds_toArray, List.set_cons_zero, List.set_cons_succ]
  refine AnyTill.take (i := 8) (v := ?_) (op_at rfl) (by kernel_rfl) (by kernel_rfl) (by kernel_rfl) (by kernel_rfl) (fun _ _ _ h => h) (Or.inl ⟨by rfl, ?_⟩) (by assumption) ?_
  rotate_left
  · (intro w hSw; (try dsimp only at hSw); go_simp; try with_reducible rfl)
  try simp only [Act.put, List.setIfInBounds_toArray, List.set_cons_zero, List.set_cons_succ]
  refine AnyTill.take (i := 9) (v := ?_) (op_at rfl) (by kernel_rfl) (by kernel_rfl) (by kernel_rfl) (by kernel_rfl) (fun _ _ _ h => h) (Or.inl ⟨by rfl, ?_⟩) (by assumption) ?_
  rotate_left
  · (intro w hSw; (try dsimp only at hSw); go_simp; try with_reducible rfl)
  try simp only [Act.put, List.setIfInBounds_toArray, List.set_cons_zero, List.set_cons_succ]
  refine AnyTill.take (i := 10) (v := ?_) (op_at rfl) (by kernel_rfl) (by kernel_rfl) (by kernel_rfl) (by kernel_rfl) (fun _ _ _ h => h) (Or.inl ⟨by rfl, ?_⟩) (by assumption) ?_
  rotate_left
  · (intro w hSw; (try dsimp only at hSw); go_simp; try with_reducible rfl)
  try simp only [Act.put, List.setIfInBounds_toArray, List.set_cons_zero, List.set_cons_succ]
  refine AnyTill.take (i := 11) (v := ?_) (op_at rfl) (by kernel_rfl) (by kernel_rfl) (by kernel_rfl) (by kernel_rfl) (fun _ _ _ h => h) (Or.inl ⟨by rfl, ?_⟩) (by assumption) ?_
  rotate_left
  · (intro w hSw; (try dsimp only at hSw); go_simp; try with_reducible rfl)
  try simp only [Act.put, List.setIfInBounds_toArray, List.set_cons_zero, List.set_cons_succ]
  refine AnyTill.take (i := 12) (v := ?_) (op_at rfl) (by kernel_rfl) (by kernel_rfl) (by kernel_rfl) (by kernel_rfl) (fun _ _ _ h => h) (Or.inl ⟨by rfl, ?_⟩) (by assumption) ?_
  rotate_left
  · (intro w hSw; (try dsimp only at hSw); go_simp; try with_reducible rfl)
  try simp only [Act.put, List.setIfInBounds_toArray, List.set_cons_zero, List.set_cons_succ]
  refine AnyTill.take (i := 13) (v := ?_) (op_at rfl) (by kernel_rfl) (by kernel_rfl) (by kernel_rfl) (by kernel_rfl) (fun _ _ _ h => h) (Or.inl ⟨by rfl, ?_⟩) (by assumption) ?_
  rotate_left
  · (intro w hSw; (try dsimp only at hSw); go_simp; try with_reducible rfl)
  try simp only [Act.put, List.setIfInBounds_toArray, List.set_cons_zero, List.set_cons_succ]
  refine AnyTill.next (i := 14) (by kernel_rfl) (op_at rfl) (by decide) (fun K hK => ?_)
  go_simp
  obtain ⟨W5, hW5⟩ : ∃ V, V = (W2.alloc (.cells #[.int .i64 3, .string (A ++ ⟨#[46]⟩ ++ B), .int .i64 0, .int .i64 a] 96)).drew := ⟨_, rfl⟩
  have B5 := Lib.hid (show Below W2.heap.size W2 W5 from hW5 ▸ bdrew (nbelow1 _ _))
  have hz5 : W5.heap.size = W2.heap.size + 1 := by rw [hW5]; show (W2.alloc _).heap.size = _; simp
  have N5 := Lib.hid (show ∀ j u, (tkCells (⟨3, (A ++ ⟨#[46]⟩ ++ B).data.toList, 0, a⟩ : Tk))[j]? = some u → W5.cell? ((⟨W2.heap.size, 0, none⟩ : Addr).add j) = some u from hW5 ▸ cells4_new W2 _ _ _ _ _)
  have O5 := Lib.hid (show W5.ownsRow (X + 1) 96 4 (.slice ao ts.length cp) ts.length (tksCells ts) from own_below HOW0.out B5.out)
  rw [← hW5]
  clear hW5
  refine hK.out _ _ ?_ (fun hHeld => ?_)
  · exact HSB.out W5 (fun b hb _ => B5.out.block b hb)
  clear hK K
  try simp only [Act.put, List.setIfInBounds_toArray, List.set_cons_zero, List.set_cons_succ]
  refine AnyTill.next (i := 15) (by kernel_rfl) (op_at rfl) (by decide) (fun K hK => ?_)
  refine step_append_lies _ rfl _ _ 87 rfl (X + 1) 96 i0 (.agg #[.int .i64 0, .string ⟨#[]⟩, .int .i64 0, .int .i64 0]) 4 40 Tryz.underlying87 HI0.out.1 HI0.out.2.1 HI0.out.2.2.1 HI0.out.2.2.2 rfl (by decide) _ _ _ rfl O5.out ⟨W2.heap.size, 0, none⟩ 1 1 (tkCells (⟨3, (A ++ ⟨#[46]⟩ ++ B).data.toList, 0, a⟩ : Tk)) rfl rfl N5.out (tk_one _) (by decide) (by unfold maxLen; omega) (by omega) (by omega) _ rfl ?_
  intro gb cap' w6 hown' hgrow' hat' hltg
  have HG6 := Lib.hid hgrow'
  have HO6 := Lib.hid hown'
  have HX6 := Lib.hid (show w6.heap[X]? = some (.cells #[.string s, .int .i64 a, .map (some M), .slice ao ts.length cp, .pointer none] 129 (0, 0)) from (hgrow'.block X (by omega) (fun e => by have := (HOW0.out.lt X e.symm).1; omega)).trans ((B5.out.block X hXW).trans HAT0.out))
  clear hown' hgrow' hat' hltg
  refine hK.out _ _ ?_ (fun hHeld => ?_)
  · exact HSB.out w6 (fun b hb hne => (HG6.out.block b (by omega) (fun e => hne e.symm)).trans (B5.out.block b hb))
  clear hK K
  try simp only [Act.put, List.setIfInBounds_toArray, List.set_cons_zero, List.set_cons_succ]
  refine AnyTill.next (i := 16) (by kernel_rfl) (op_at rfl) (by decide) (fun K hK => ?_)
  go_simp
  refine hK.out _ _ ?_ (fun hHeld => ?_)
  · exact hHeld
  clear hK K
  try simp only [Act.put, List.setIfInBounds_toArray, List.set_cons_zero, List.set_cons_succ]
  refine AnyTill.next (i := 17) (by kernel_rfl) (op_at rfl) (by decide) (fun K hK => ?_)
  go_simp
  refine hK.out _ _ ?_ (fun hHeld => ?_)
  · exact hHeld
  clear hK K
  try simp only [Act.put, List.setIfInBounds_toArray, List.set_cons_zero, List.set_cons_succ]
  have hX3 : w6.cell? ⟨X, 3, none⟩ = some (.slice ao ts.length cp) := by simp [World.cell?, HX6.out]
  have hf6 : w6.frozen? ⟨X, 3, none⟩ = false := by simp [World.frozen?, HX6.out]
  have hX6l : X < w6.heap.size := (Array.getElem?_eq_some_iff.1 HX6.out).1
  refine AnyTill.last (z := 18) (by kernel_rfl) (op_at rfl) (by kernel_rfl) (fun K hK => ?_)
  go_simp
  refine hK.out _ _ ?_
  clear hK K hHeld
  obtain ⟨W7, hW7⟩ : ∃ V, V = w6.setCell ⟨X, 3, none⟩ (.slice (some ⟨gb, 0, none⟩) (ts.length + 1) cap') := ⟨_, rfl⟩
  have Z7 := Lib.hid (show SC X M s a (ts ++ [(⟨3, (A ++ ⟨#[46]⟩ ++ B).data.toList, 0, a⟩ : Tk)]) W7 ∧ Below X W2 W7 from hW7 ▸ sc_append hMX hXW HOW0.out HKY0.out B5.out HX6.out HO6.out HG6.out)
  have HS7 := Lib.hid Z7.out.1
  have BX7 := Lib.hid Z7.out.2
  rw [← hW7]
  clear hW7 hX3 hf6 hX6l HX6 HO6 HG6 O5 N5 B5 HSB HSI HAT0 HOW0 HKY0 Z7
  have BX := Lib.hid (BX1.out.trans (BX2.out.trans BX7.out))
  clear BX1 BX2 BX7 hs1 hs2 HS2 hXW hz5
  obtain ⟨hX0, hX1⟩ := HS7.out.sb
  have hX2 : W7.cell? ⟨X, 2, none⟩ = some (.map (some M)) := by obtain ⟨_, _, g, -⟩ := HS7.out.ex; simp [World.cell?, g]
  obtain ⟨v, hl1, hv1⟩ := HS7.out.keys.look A hAs
  obtain ⟨u, hl2, hv2⟩ := HS7.out.keys.look B hBs
  by_cases h1 : 24 < (n : Int)
  · have R := Lib.hid (N.out.trans (if_pos (.inl (by omega))))
    clear hv1 hv2
    go_wp2_with fail
    go_ret2
    exact tokQ_err R.out (by decide) BX.out HS7.out
  by_cases h2 : (m : Int) < 1
  · have R := Lib.hid (N.out.trans (if_pos (.inr (.inl (by omega)))))
    clear hv1 hv2
    go_wp2_with fail
    go_ret2
    exact tokQ_err R.out (by decide) BX.out HS7.out
  by_cases h3 : 24 < (m : Int)
  · have R := Lib.hid (N.out.trans (if_pos (.inr (.inr (.inl (by omega))))))
    clear hv1 hv2
    go_wp2_with fail
    go_ret2
    exact tokQ_err R.out (by decide) BX.out HS7.out
  cases hw : wordL A.data.toList
  case true =>
    have R := Lib.hid (N.out.trans (if_pos (.inr (.inr (.inr (.inl hw))))))
    rw [hw] at hv1
    have hv : 0 < v := by simpa using hv1
    clear hv1 hv2 hw
    go_wp2_with fail
    go_ret2
    exact tokQ_err R.out (by decide) BX.out HS7.out
  cases hw2 : wordL B.data.toList
  case true =>
    have R := Lib.hid (N.out.trans (if_pos (.inr (.inr (.inr (.inr hw2))))))
    rw [hw] at hv1
    rw [hw2] at hv2
    have hv : ¬ 0 < v := by simpa using hv1
    have hu : 0 < u := by simpa using hv2
    clear hv1 hv2 hw hw2
    go_wp2_with fail
    go_ret2
    exact tokQ_err R.out (by decide) BX.out HS7.out
  have R := Lib.hid (N.out.trans (if_neg (by rw [hw, hw2]; simp; omega)))
  rw [hw] at hv1
  rw [hw2] at hv2
  have hv : ¬ 0 < v := by simpa using hv1
  have hu : ¬ 0 < u := by simpa using hv2
  clear hv1 hv2 hw hw2
  go_wp2_with fail
  go_ret2
  exact tokQ_ok R.out BX.out (by omega) (by simp only [ByteArray.data_append, Array.toList_append]; simp) HS7.out
end Go.Proofs.YtcndknkdhlmdnaaGreatDoor
