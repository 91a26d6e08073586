/-
  Texts that the statements' proofs rest on, one behind another: DeepW.
-/
import Derived.Test.YtcndknkdhlmdnaaGreatDoorS26
import Derived.Test.YtcndknkdhlmdnaaGreatDoorS08
import Derived.Lib.AppendStr
namespace Go.Proofs.YtcndknkdhlmdnaaGreatDoor
open Go.RowKit
set_option maxRecDepth 100000

theorem own_shape {W : World} {B T n : Nat} {v : Value} {xs : List Value} (h : W.ownsRow B T 1 v n xs) : ∃ a cap, v = .slice a n cap := by
  obtain ⟨-, h2⟩ := h
  rcases h2 with ⟨e, rfl⟩ | ⟨g, cap, cur, e, -⟩
  · exact ⟨_, _, e⟩
  · exact ⟨_, cap, e⟩
theorem own_some {W : World} {B T n : Nat} {v : Value} {xs : List Value} (h : W.ownsRow B T 1 v n xs) (hx : n ≠ 0) : ∃ g cap, v = .slice (some ⟨g, 0, none⟩) n cap := by
  obtain ⟨-, h2⟩ := h
  rcases h2 with ⟨-, e⟩ | ⟨g, cap, cur, e, -⟩
  · exact absurd e hx
  · exact ⟨g, cap, e⟩
def byteV (l : List UInt8) : List Value := l.map fun b => .int .u8 (b.toNat : Int)
theorem str_byteV (s : ByteArray) : Lib.strCells s = byteV s.data.toList := by
  unfold Lib.strCells byteV
  first | rfl | simp
theorem byteV_app (a b : List UInt8) : byteV (a ++ b) = byteV a ++ byteV b := by unfold byteV; rw [List.map_append]
theorem flat_snoc (k : Nat) (a : List UInt8) : (List.replicate (k + 1) a).flatten = (List.replicate k a).flatten ++ a := by
  rw [List.replicate_succ', List.flatten_append]; simp
set_option maxHeartbeats 4000000 in
theorem opens_any (n : Nat) (A B : ByteArray) (w : World) (hn : n ≤ 400) (hA : A.size ≤ 4) (hB : B.size ≤ 4) :
    Calls Tryz.prog 31 #[.int .i64 n, .string A, .string B] w fun e w' => e = .returned (.string ⟨(opensL n A.data.toList B.data.toList).toArray⟩) ∧ Below w.heap.size w w' := by
  obtain ⟨i0, hi, hz0, hz1, hz2⟩ := info_parts (show (Tryz.prog.info? 5).map (fun i => (i.zero, i.size, i.bytes)) = some (some (.int .u8 0), 1, 1) by kernel_rfl)
  have HI0 := Lib.hid (show _ ∧ _ ∧ _ ∧ _ from ⟨hi, hz0, hz1, hz2⟩)
  clear hi hz0 hz1 hz2
  go_enter Tryz.func31, Tryz.ntmps31
  go_wp2
  go_loopw [7, 8] (fun v i wr => ∃ (k m : Nat), k ≤ n ∧ i = .int .i64 k ∧ Hid (m = k * A.size) ∧ Hid (wr.ownsRow w.heap.size 5 1 v m (byteV (List.replicate k A.data.toList).flatten)) ∧ Hid (Below w.heap.size w wr)) (fun _ i _ => (n - (intOf i).toNat))
  case atStart => exact ⟨0, 0, by omega, rfl, (Nat.zero_mul _).symm, World.ownsRow_nil _ _ _ _, Below.refl _ _⟩
  case round =>
    obtain ⟨k, m, hk, rfl, HM, HO, HBr⟩ := hrel
    obtain ⟨a0, c0, rfl⟩ := own_shape HO.out
    by_cases hlt : k < n
    · have hm : m ≤ 1600 := by rw [HM.out]; exact Nat.mul_le_mul (show k ≤ 400 by omega) hA
      have hsz := HBr.out.size
      go_wp2_with (at_builtin; refine Lib.wpList_append_own_string _ rfl _ _ 46 9 rfl w.heap.size 5 i0 Tryz.underlying46 Tryz.underlying9 HI0.out.1 HI0.out.2.1 HI0.out.2.2.1 HI0.out.2.2.2 _ _ _ rfl HO.out A rfl (by unfold maxLen; omega) (by omega) hsz ?_; intro v' w5 hown' hgrow' _)
      have HO5 := Lib.hid hown'
      have HG5 := Lib.hid hgrow'
      clear hown' hgrow'
      go_wp2
      go_roundw
      case rel => exact ⟨k + 1, m + A.size, by omega, by go_num, by show _ = _; rw [HM.out, Nat.succ_mul], by show World.ownsRow _ _ _ _ _ _ _; rw [flat_snoc, byteV_app, ← str_byteV]; exact HO5.out, HBr.out.grown HG5.out hsz (fun q hq => (HO.out.lt q hq).1)⟩
      case measure => simp [intOf]; omega
    · obtain rfl : k = n := by omega
      have hm : m ≤ 1600 := by rw [HM.out]; exact Nat.mul_le_mul hn hA
      have hsz := HBr.out.size
      go_wp2_with (at_builtin; refine Lib.wpList_append_own_string _ rfl _ _ 46 9 rfl w.heap.size 5 i0 Tryz.underlying46 Tryz.underlying9 HI0.out.1 HI0.out.2.1 HI0.out.2.2.1 HI0.out.2.2.2 _ _ _ rfl HO.out ⟨#[49]⟩ rfl (by unfold maxLen; show m + 1 ≤ _; omega) (by show m + 1 ≤ _; omega) hsz ?_; intro v' w5 hown' hgrow' _)
      have HO1 := Lib.hid (show w5.ownsRow w.heap.size 5 1 v' (m + 1) (byteV ((List.replicate k A.data.toList).flatten ++ [49])) from by rw [byteV_app]; exact hown')
      have HB1 := Lib.hid (HBr.out.grown hgrow' hsz (fun q hq => (HO.out.lt q hq).1))
      clear hown' hgrow' HO HBr hsz hlt hk HM
      go_wp2
      go_loopw [7, 9] (fun v i wr => ∃ (j l : Nat), j ≤ k ∧ i = .int .i64 j ∧ Hid (l = m + 1 + j * B.size) ∧ Hid (wr.ownsRow w.heap.size 5 1 v l (byteV (((List.replicate k A.data.toList).flatten ++ [49]) ++ (List.replicate j B.data.toList).flatten))) ∧ Hid (Below w.heap.size w wr)) (fun _ i _ => (k - (intOf i).toNat))
      case atStart => exact ⟨0, m + 1, by omega, rfl, by show _ = _; omega, by show World.ownsRow _ _ _ _ _ _ _; rw [show (List.replicate 0 B.data.toList).flatten = [] from rfl, List.append_nil]; exact HO1.out, HB1.out⟩
      case round =>
        obtain ⟨j, l, hj, rfl, HL, HO, HBr⟩ := hrel
        obtain ⟨a1, c1, rfl⟩ := own_shape HO.out
        have hsz := HBr.out.size
        by_cases hlt : j < k
        · have hm2 : j * B.size ≤ 1600 := Nat.mul_le_mul (show j ≤ 400 by omega) hB
          have hl : l ≤ 3201 := by rw [HL.out]; omega
          clear hm2
          go_wp2_with (at_builtin; refine Lib.wpList_append_own_string _ rfl _ _ 46 9 rfl w.heap.size 5 i0 Tryz.underlying46 Tryz.underlying9 HI0.out.1 HI0.out.2.1 HI0.out.2.2.1 HI0.out.2.2.2 _ _ _ rfl HO.out B rfl (by unfold maxLen; omega) (by omega) hsz ?_; intro v' w5 hown' hgrow' _)
          have HO5 := Lib.hid hown'
          have HG5 := Lib.hid hgrow'
          clear hown' hgrow'
          go_wp2
          go_roundw
          case rel => exact ⟨j + 1, l + B.size, by omega, by go_num, by show _ = _; rw [HL.out, Nat.succ_mul]; omega, by show World.ownsRow _ _ _ _ _ _ _; rw [flat_snoc, ← List.append_assoc, byteV_app, ← str_byteV]; exact HO5.out, HBr.out.grown HG5.out hsz (fun q hq => (HO.out.lt q hq).1)⟩
          case measure => simp [intOf]; omega
        · obtain rfl : j = k := by omega
          obtain ⟨g, c, e⟩ := own_some HO.out (by rw [HL.out]; omega)
          rw [e] at HO ⊢
          clear e
          have hlen : l = (opensL j A.data.toList B.data.toList).length := by
            have := HO.out.1
            unfold byteV at this
            rw [List.length_map, List.append_assoc] at this
            rw [Nat.mul_one] at this
            exact this.symm
          have hcell : ∀ i (hi : i < (opensL j A.data.toList B.data.toList).length), wr.cell? ((⟨g, 0, none⟩ : Addr).add i) = some (.int .u8 ((opensL j A.data.toList B.data.toList)[i].toNat : Int)) := by
            intro i hi
            refine HO.out.cells rfl i _ ?_
            unfold byteV
            rw [List.append_assoc, List.getElem?_map]
            rw [show (List.replicate j A.data.toList).flatten ++ ([49] ++ (List.replicate j B.data.toList).flatten) = opensL j A.data.toList B.data.toList from rfl, List.getElem?_eq_getElem hi]
            rfl
          have hc := run_convert_bytes_back (P := Tryz.prog) wr 46 9 5 ⟨g, 0, none⟩ c (opensL j A.data.toList B.data.toList) Tryz.underlying46 Tryz.underlying5 Tryz.underlying9 hcell
          rw [← hlen] at hc
          clear hcell hlen
          go_wp2
          go_ret
          exact ⟨rfl, HBr.out⟩
theorem deep_expr (n : Nat) (h : n ≤ 400) : exprR (opensL n [40] [41]) = if n + 1 ≤ 300 then .ok (mkN 5 [] 1000000 [] (0 + n)) else .error (75, 300) := by
  unfold exprR
  rw [deep_scan n h]
  show endX (rd .expr 0 _) = _
  rw [deep_read]
  split <;> rfl
theorem wide_expr (n : Nat) (h : n ≤ 400) : ∃ t, exprR (opensL n [49, 32, 43, 32] []) = if n + 1 ≤ 100 then .ok t else .error (75, 398) := by
  unfold exprR
  rw [wide_scan n h]
  have hs := sum_read n [⟨0, [], 0, 4 * n + 1⟩] (stop_fin _)
  by_cases hn : n + 1 ≤ 100
  · obtain ⟨t, ht⟩ := hs.1 hn
    refine ⟨t, ?_⟩
    rw [if_pos hn]
    show endX (rd .expr 0 _) = _
    rw [ht]
    rfl
  · refine ⟨nd0, ?_⟩
    rw [if_neg hn]
    show endX (rd .expr 0 _) = _
    rw [hs.2 (by omega)]
    rfl
theorem list_of (l : List UInt8) : (⟨l.toArray⟩ : ByteArray).data.toList = l := by simp
set_option maxHeartbeats 8000000 in
theorem deep_true (n : Int) (w : World) (ht : TabS w) :
    Calls Tryz.prog 8 #[.int .i64 n] w fun e W' => e = .returned (.bool true) ∧ Below w.heap.size w W' := by
  have C0 := Lib.hid (shown7_any w ht)
  have HT := Lib.hid ht
  clear ht
  go_enter Tryz.func8, Tryz.ntmps8
  go_wp2_with fail
  (with_reducible refine Calls.mono C0.out ?_)
  rintro e w1 ⟨rfl, hb⟩
  have HB := Lib.hid hb
  clear hb C0
  by_cases h0 : n < 0
  · go_wp2_with fail
    go_ret
    exact ⟨rfl, HB.out⟩
  by_cases h4 : 400 < n
  · go_wp2_with fail
    go_ret
    exact ⟨rfl, HB.out⟩
  obtain ⟨k, rfl⟩ : ∃ k : Nat, n = k := ⟨n.toNat, by omega⟩
  have hk : k ≤ 400 := by omega
  have L1 := Lib.hid (opens_any k ⟨#[40]⟩ ⟨#[41]⟩ w1 hk (by decide) (by decide))
  go_wp2_with fail
  (with_reducible refine Calls.mono L1.out ?_)
  rintro e w2 ⟨rfl, hb⟩
  replace HB := Lib.hid (HB.out.trans (hb.mono HB.out.size))
  clear hb L1
  have hl1 : (⟨(opensL k [40] [41]).toArray⟩ : ByteArray).size ≤ maxLen := by
    show (opensL k [40] [41]).toArray.size ≤ _
    rw [List.size_toArray]
    unfold opensL maxLen
    rw [one_flat, one_flat]
    simp
    omega
  have C1 := Lib.hid (qExpr_is ⟨(opensL k [40] [41]).toArray⟩ w2 hl1 (HT.out.below HB.out))
  rw [list_of, deep_expr k hk] at C1
  clear hl1
  go_wp2_with fail
  (with_reducible refine Calls.mono C1.out ?_)
  rintro e w3 ⟨t, a, cp, f, q, rfl, hb, hx⟩
  have HX1 := Lib.hid hx
  replace HB := Lib.hid (HB.out.trans (hb.mono HB.out.size))
  clear hb C1 hx
  have L2 := Lib.hid (show ∀ W, Calls Tryz.prog 31 #[.int .i64 k, .string ⟨#[49, 32, 43, 32]⟩, .string ⟨#[]⟩] W fun e w' => e = .returned (.string ⟨(opensL k [49, 32, 43, 32] []).toArray⟩) ∧ Below W.heap.size W w' from fun W => opens_any k ⟨#[49, 32, 43, 32]⟩ ⟨#[]⟩ W hk (by decide) (by decide))
  obtain ⟨W4, hW4⟩ : ∃ W, W = w3.alloc (.cells #[.int .i64 t.kind, .string t.text, .int .i64 t.n, .slice a t.kids.length cp, .int .i64 t.place] 24) := ⟨_, rfl⟩
  replace HB := Lib.hid (HB.out.trans ((show Below w3.heap.size w3 W4 from hW4 ▸ nbelow1 _ _).mono HB.out.size))
  unfold Nd.val
  go_upto_region 5 with fail
  rw [← hW4]
  clear hW4
  go_wp2_with fail
  (with_reducible refine Calls.mono (L2.out _) ?_)
  rintro e w5 ⟨rfl, hb⟩
  replace HB := Lib.hid (HB.out.trans (hb.mono HB.out.size))
  clear hb L2
  have hl1 : (⟨(opensL k [49, 32, 43, 32] []).toArray⟩ : ByteArray).size ≤ maxLen := by
    show (opensL k [49, 32, 43, 32] []).toArray.size ≤ _
    rw [List.size_toArray]
    unfold opensL maxLen
    rw [nil_flat]
    simp
    omega
  have C2 := Lib.hid (qExpr_is ⟨(opensL k [49, 32, 43, 32] []).toArray⟩ w5 hl1 (HT.out.below HB.out))
  obtain ⟨t2, ht2⟩ := wide_expr k hk
  rw [list_of, ht2] at C2
  clear hl1 ht2
  go_wp2_with fail
  (with_reducible refine Calls.mono C2.out ?_)
  rintro e w6 ⟨u, a2, cp2, f2, q2, rfl, hb, hx⟩
  have HX2 := Lib.hid hx
  replace HB := Lib.hid (HB.out.trans (hb.mono HB.out.size))
  clear hb C2 hx
  obtain ⟨W7, hW7⟩ : ∃ W, W = w6.alloc (.cells #[.int .i64 u.kind, .string u.text, .int .i64 u.n, .slice a2 u.kids.length cp2, .int .i64 u.place] 24) := ⟨_, rfl⟩
  replace HB := Lib.hid (HB.out.trans ((show Below w6.heap.size w6 W7 from hW7 ▸ nbelow1 _ _).mono HB.out.size))
  unfold Nd.val
  go_upto_region 6 with fail
  rw [← hW7]
  clear hW7
  by_cases h300 : k + 1 ≤ 300
  · rw [if_pos h300] at HX1
    obtain ⟨-, rfl, rfl, -⟩ := HX1.out
    have b1 : ((k : Int) + 1 ≤ 300) := by omega
    by_cases h100 : k + 1 ≤ 100
    · rw [if_pos h100] at HX2
      obtain ⟨-, rfl, rfl, -⟩ := HX2.out
      have b2 : ((k : Int) + 1 ≤ 100) := by omega
      go_wp2_with fail
      go_ret
      exact ⟨rfl, HB.out⟩
    · rw [if_neg h100] at HX2
      obtain ⟨rfl, rfl, -⟩ := HX2.out
      have b2 : ¬ ((k : Int) + 1 ≤ 100) := by omega
      have b3 : (100 < (k : Int) + 1) := by omega
      go_wp2_with fail
      go_ret
      exact ⟨rfl, HB.out⟩
  · rw [if_neg h300] at HX1
    obtain ⟨rfl, rfl, -⟩ := HX1.out
    have b1 : ¬ ((k : Int) + 1 ≤ 300) := by omega
    have b4 : (300 < (k : Int) + 1) := by omega
    have h100 : ¬ k + 1 ≤ 100 := by omega
    rw [if_neg h100] at HX2
    obtain ⟨rfl, rfl, -⟩ := HX2.out
    have b2 : ¬ ((k : Int) + 1 ≤ 100) := by omega
    have b3 : (100 < (k : Int) + 1) := by omega
    go_wp2_with fail
    go_ret
    exact ⟨rfl, HB.out⟩
end Go.Proofs.YtcndknkdhlmdnaaGreatDoor
