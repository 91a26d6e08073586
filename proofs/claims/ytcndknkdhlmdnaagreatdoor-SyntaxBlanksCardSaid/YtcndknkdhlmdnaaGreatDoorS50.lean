/-
  Complement: what one text more of BlanksW is rested on.
-/
import Derived.Test.YtcndknkdhlmdnaaGreatDoorS26
import Derived.Test.YtcndknkdhlmdnaaGreatDoorS47
import Derived.Test.YtcndknkdhlmdnaaGreatDoorS49
import Derived.Test.YtcndknkdhlmdnaaGreatDoorS09
import Derived.Test.YtcndknkdhlmdnaaGreatDoorS45
import Derived.Test.YtcndknkdhlmdnaaGreatDoorS02
import Derived.Test.YtcndknkdhlmdnaaGreatDoorS01
import Derived.Test.YtcndknkdhlmdnaaGreatDoorRows
import Derived.WalkKit
import Derived.Lib.LaidTab
import Derived.WalkSpells
import Derived.WalkLawsBesides
import Derived.IntWalk
import Derived.Lib.Hide
import Derived.Test.YtcndknkdhlmdnaaGreatDoorProg
import Derived.Deep.RegionWith
import Derived.Deep.RegionHeld3
import Derived.Lib.Strings
namespace Go.Proofs.YtcndknkdhlmdnaaGreatDoor
open Go.RowKit
set_option maxRecDepth 100000

def markI (k : Int) : Nat := (k % 5).toNat
theorem markI_is (k : Int) : (wrap64 (k.tmod 5 + 5)).tmod 5 = (markI k : Int) ∧ markI k < 5 := by
  have h1 : k.tmod 5 = k - 5 * k.tdiv 5 := by have := Int.tmod_add_mul_tdiv k 5; omega
  have h2 : -5 < k.tmod 5 ∧ k.tmod 5 < 5 := by
    rcases Int.le_total 0 k with hk | hk
    · rw [Int.tmod_eq_emod_of_nonneg hk]; omega
    · have := Int.neg_tmod (-k) 5
      rw [Int.neg_neg, Int.tmod_eq_emod_of_nonneg (a := -k) (by omega)] at this
      omega
  have h3 : wrap64 (k.tmod 5 + 5) = k.tmod 5 + 5 := by unfold wrap64; omega
  rw [h3, Int.tmod_eq_emod_of_nonneg (by omega)]
  unfold markI
  omega
set_option maxHeartbeats 4000000 in
theorem marks_any (k : Int) (w : World) :
    Calls Tryz.prog 29 #[.int .i64 k] w fun e w' => e = .returned (.string ⟨(markL (markI k)).toArray⟩) ∧ Below w.heap.size w w' := by
  obtain ⟨e, hj⟩ := markI_is k
  generalize markI k = j at e hj
  have hc : j = 0 ∨ j = 1 ∨ j = 2 ∨ j = 3 ∨ j = 4 := by omega
  go_enter Tryz.func29, Tryz.ntmps29
  rcases hc with rfl | rfl | rfl | rfl | rfl
  all_goals
    go_wp2_with fail
    go_ret
    exact ⟨rfl, nbelow1 _ _⟩
/-- memory holds these numbers -/
def Ints (W : World) (v : Value) (zs : List Int) : Prop := ∃ ao cap, v = .slice ao zs.length cap ∧ zs.length ≤ maxLen ∧ ∀ i (h : i < zs.length), ∃ b o, ao = some ⟨b, o, none⟩ ∧ b < W.heap.size ∧ W.cell? ⟨b, o + i, none⟩ = some (.int .i64 zs[i])
def mkOf (zs : List Int) (i : Nat) : Nat := if h : i < zs.length then (if i < 2000 then markI zs[i] else 4) else 4
theorem mk_len (k : Nat) : (markL k).length ≤ 11 := mark_cases (P := fun m => m.length ≤ 11) (by decide) (by decide) (by decide) (by decide) (by decide) k
theorem exprR_scan {l : List UInt8} {c p : Int} (h : scanT l = .error (c, p)) : exprR l = .error (c, p) := by unfold exprR; rw [h]
/-- what the loop holds -/
def BRel (s : ByteArray) (zs : List Int) (ts : List Tk) (w4 : World) (o i : Value) (wr : World) : Prop :=
  ∃ (j : Nat) (O : ByteArray) (X : List UInt8), j ≤ ts.length ∧ i = .int .i64 j ∧ o = .string O ∧ Hid (O.data.toList = 40 :: X) ∧ Hid (X ++ bl s.data.toList (mkOf zs) j (ts.drop j) = bl s.data.toList (mkOf zs) 0 ts) ∧ O.size ≤ 1 + 16395 * j ∧ Hid (Below w4.heap.size w4 wr)
section
variable {s : ByteArray} {zs : List Int} {ts : List Tk} {w4 w5 : World} {j a0 b0 : Nat} {O : ByteArray} {X : List UInt8}
theorem brel_step (hlt : j < ts.length) (ea : ts[j].pos = a0) (eb : nextP s.data.toList (ts.drop (j + 1)) = b0) (hb : b0 ≤ s.size) (hs : s.size ≤ 16384) (hO : Hid (O.data.toList = 40 :: X))
    (hX : Hid (X ++ bl s.data.toList (mkOf zs) j (ts.drop j) = bl s.data.toList (mkOf zs) 0 ts)) (hOs : O.size ≤ 1 + 16395 * j) {L : List UInt8} (hm : markL (mkOf zs j) = L) (hB : Below w4.heap.size w4 w5) :
    BRel s zs ts w4 (.string (O ++ ⟨L.toArray⟩ ++ s.extract a0 b0)) (.int .i64 ((j : Int) + 1)) w5 := by
  subst hm
  refine ⟨j + 1, _, X ++ (markL (mkOf zs j) ++ (s.data.toList.drop a0).take (b0 - a0)), hlt, by go_num, rfl, ?_, ?_, ?_, hB⟩
  · show _ = _
    rw [ByteArray.data_append, ByteArray.data_append, Array.toList_append, Array.toList_append, hO.out, ext_list]
    simp
  · show _ = _
    rw [← hX.out, bl_step s.data.toList (mkOf zs) ts j hlt, ea, eb]
    simp
  · rw [ByteArray.size_append, ByteArray.size_append, ext_size s a0 b0 hb]
    have := mk_len (mkOf zs j)
    show O.size + (markL (mkOf zs j)).toArray.size + (b0 - a0) ≤ _
    rw [List.size_toArray]
    omega
theorem brel_step0 (hlt : j < ts.length) (ea : ts[j].pos = a0) (eb : nextP s.data.toList (ts.drop (j + 1)) = b0) (hb : b0 ≤ s.size) (hs : s.size ≤ 16384) (hO : Hid (O.data.toList = 40 :: X))
    (hX : Hid (X ++ bl s.data.toList (mkOf zs) j (ts.drop j) = bl s.data.toList (mkOf zs) 0 ts)) (hOs : O.size ≤ 1 + 16395 * j) (hm : markL (mkOf zs j) = []) (hB : Below w4.heap.size w4 w5) :
    BRel s zs ts w4 (.string (O ++ s.extract a0 b0)) (.int .i64 ((j : Int) + 1)) w5 := by
  have := brel_step hlt ea eb hb hs hO hX hOs hm hB
  rwa [show O ++ (⟨([] : List UInt8).toArray⟩ : ByteArray) = O from ByteArray.append_empty] at this
end

set_option maxHeartbeats 8000000 in
theorem blanks_true (s : ByteArray) (v : Value) (zs : List Int) (w : World) (hs : s.size ≤ 140737488355328) (ht : TabS w) (hz : Ints w v zs) :
    Calls Tryz.prog 7 #[.string s, v] w fun e W' => e = .returned (.bool true) ∧ Below w.heap.size w W' := by
  obtain ⟨zo, zc, rfl, hzl, hzc⟩ := hz
  have HZ := Lib.hid hzc
  clear hzc
  have C0 := Lib.hid (shown7_any w ht)
  have HT := Lib.hid ht
  clear ht
  go_enter Tryz.func7, Tryz.ntmps7
  go_wp2_with fail
  (with_reducible refine Calls.mono C0.out ?_)
  rintro e w1 ⟨rfl, hb⟩
  have HB := Lib.hid hb
  clear hb C0
  have C1 := Lib.hid (qExpr_is s w1 (by unfold maxLen; omega) (HT.out.below HB.out))
  go_wp2_with fail
  (with_reducible refine Calls.mono C1.out ?_)
  rintro e w2 ⟨t, a, cp, f, k, rfl, hb, hx⟩
  have HX1 := Lib.hid hx
  replace HB := Lib.hid (HB.out.trans (hb.mono HB.out.size))
  clear hb C1 hx
  obtain ⟨W3, hW3⟩ : ∃ W, W = w2.alloc (.cells #[.int .i64 t.kind, .string t.text, .int .i64 t.n, .slice a t.kids.length cp, .int .i64 t.place] 24) := ⟨_, rfl⟩
  have N3 := Lib.hid (show NBox w2.heap.size t a cp W3 from hW3 ▸ NBox.make w2 t a cp)
  have B3 := Lib.hid (show Below w2.heap.size w2 W3 from hW3 ▸ nbelow1 _ _)
  have HB3 := Lib.hid (HB.out.trans (B3.out.mono HB.out.size))
  have C2 := Lib.hid (rScan_any s W3 (by unfold maxLen; omega))
  unfold Nd.val
  go_upto_region 3 with fail
  rw [← hW3]
  clear hW3
  go_wp2_with fail
  (with_reducible refine Calls.mono C2.out ?_)
  intro e w4 hsp
  obtain ⟨hb, hsp⟩ := hsp
  have B4 := Lib.hid hb
  have HB4 := Lib.hid (HB3.out.trans (hb.mono HB3.out.size))
  clear hb C2
  cases h1 : scanT s.data.toList with
  | error q =>
    obtain ⟨c, p⟩ := q
    rw [h1] at hsp
    obtain ⟨hc, rfl⟩ := hsp
    have hx := HX1.out
    rw [exprR_scan h1] at hx
    obtain ⟨rfl, -⟩ := hx
    have hk : (k != 0) = true := bne_iff_ne.2 hc
    clear hc h1
    go_wp2_with fail
    go_ret
    exact ⟨rfl, HB4.out⟩
  | ok ts =>
    rw [h1] at hsp
    obtain ⟨g, gc, rfl, how⟩ := hsp
    have HTS := Lib.hid (Toks.of_row how)
    have hg := how.lt g rfl
    clear how
    cases h2 : exprR s.data.toList with
    | error q =>
      obtain ⟨c, p⟩ := q
      have hx := HX1.out
      rw [h2] at hx
      obtain ⟨rfl, -⟩ := hx
      have hk : (k != 0) = true := bne_iff_ne.2 (exprR_err h2)
      clear h1 h2
      go_wp2_with fail
      go_ret
      exact ⟨rfl, HB4.out⟩
    | ok t' =>
      have hx := HX1.out
      rw [h2] at hx
      obtain ⟨rfl, -, rfl, hl1⟩ := hx
      have HO := Lib.hid (readR_ok (show readR (rd .expr 0) s.data.toList = .ok t' from h2))
      have HS := Lib.hid h1
      obtain ⟨hS, htl, hsl⟩ := scanT_of h1
      have HST := Lib.hid (scan_steps s.data.toList hS 0 rfl rfl (Nat.zero_le _))
      have HL1 := Lib.hid hl1
      clear h1 h2 hS hl1 HX1
      have HSZ := Lib.hid (show s.data.toList.length = s.size by rw [Array.length_toList]; rfl)
      rw [HSZ.out] at hsl
      have hg2 : g < w4.heap.size := hg.2
      go_wp2_with fail
      go_loopw [12, 13, 14] (fun o i _ wr => BRel s zs ts w4 o i wr) (fun _ i _ _ => (ts.length - (intOf i).toNat))
      case atStart => exact ⟨0, ⟨#[40]⟩, [], Nat.zero_le _, rfl, rfl, rfl, rfl, by decide, Below.refl _ _⟩
      case round =>
        obtain ⟨j, O, X, hj, rfl, rfl, HOl, HX, hOs, HBr⟩ := hrel
        by_cases hlt : j < ts.length
        · obtain ⟨a0, b0, ea, eb, hab, hbs, hn1, hn2⟩ := steps_get HST.out j hlt
          rw [HSZ.out] at hbs hn2
          have hTk := Lib.hid (HTS.out.below HBr.out hg2)
          have c3 := (hTk.out j hlt).2.2.2
          rw [ea, Nat.zero_add] at c3
          have EA := Lib.hid ea
          have EB := Lib.hid eb
          clear ea eb
          by_cases hnx : j + 1 < ts.length
          · have d3 := (hTk.out (j + 1) hnx).2.2.2
            rw [hn1 hnx, Nat.zero_add] at d3
            clear hn1 hn2
            by_cases hjz : j < zs.length
            · by_cases hj2 : j < 2000
              · have HM := Lib.hid (show markL (mkOf zs j) = markL (markI zs[j]) by unfold mkOf; rw [dif_pos hjz, if_pos hj2])
                obtain ⟨zb, zf, rfl, hzb, hzcl⟩ := HZ.out j hjz
                have z3 : wr.cell? ⟨zb, zf + j, none⟩ = some (.int .i64 zs[j]) := (HBr.out.cell (p := ⟨zb, zf + j, none⟩) (Nat.lt_of_lt_of_le hzb HB4.out.size)).trans ((HB4.out.cell (p := ⟨zb, zf + j, none⟩) hzb).trans hzcl)
                have C := Lib.hid (marks_any zs[j] wr)
                have hMl := mk_len (markI zs[j])
                have hk1 : ¬ 9223372036854775807 < O.size + (markL (markI zs[j])).length := by omega
                have hk2 : ¬ 9223372036854775807 < O.size + (markL (markI zs[j])).length + (b0 - a0) := by omega
                go_wp2_with (go_at_call 29; with_reducible refine Calls.mono C.out ?_)
                rintro e w5 ⟨rfl, hb⟩
                have B5 := Lib.hid (HBr.out.trans (hb.mono HBr.out.size))
                have c5 : w5.cell? ⟨g, j * 4 + 3, none⟩ = some (.int .i64 a0) := (hb.cell (p := ⟨g, j * 4 + 3, none⟩) (Nat.lt_of_lt_of_le hg2 HBr.out.size)).trans c3
                clear hb C z3
                go_wp2
                go_roundw
                case rel => exact brel_step hlt EA.out EB.out hbs hsl HOl HX hOs HM.out B5.out
                case measure => simp [intOf]; omega
              · have HM := Lib.hid (show markL (mkOf zs j) = [] by unfold mkOf; rw [dif_pos hjz, if_neg hj2]; rfl)
                have hk2 : ¬ 9223372036854775807 < O.size + (b0 - a0) := by omega
                go_wp2
                go_roundw
                case rel => exact brel_step0 hlt EA.out EB.out hbs hsl HOl HX hOs HM.out HBr.out
                case measure => simp [intOf]; omega
            · have HM := Lib.hid (show markL (mkOf zs j) = [] by unfold mkOf; rw [dif_neg hjz]; rfl)
              have hk2 : ¬ 9223372036854775807 < O.size + (b0 - a0) := by omega
              go_wp2
              go_roundw
              case rel => exact brel_step0 hlt EA.out EB.out hbs hsl HOl HX hOs HM.out HBr.out
              case measure => simp [intOf]; omega
          · have hb0 := hn2 hnx
            subst hb0
            clear hn1 hn2
            by_cases hjz : j < zs.length
            · by_cases hj2 : j < 2000
              · have HM := Lib.hid (show markL (mkOf zs j) = markL (markI zs[j]) by unfold mkOf; rw [dif_pos hjz, if_pos hj2])
                obtain ⟨zb, zf, rfl, hzb, hzcl⟩ := HZ.out j hjz
                have z3 : wr.cell? ⟨zb, zf + j, none⟩ = some (.int .i64 zs[j]) := (HBr.out.cell (p := ⟨zb, zf + j, none⟩) (Nat.lt_of_lt_of_le hzb HB4.out.size)).trans ((HB4.out.cell (p := ⟨zb, zf + j, none⟩) hzb).trans hzcl)
                have C := Lib.hid (marks_any zs[j] wr)
                have hMl := mk_len (markI zs[j])
                have hk1 : ¬ 9223372036854775807 < O.size + (markL (markI zs[j])).length := by omega
                have hk2 : ¬ 9223372036854775807 < O.size + (markL (markI zs[j])).length + (s.size - a0) := by omega
                go_wp2_with (go_at_call 29; with_reducible refine Calls.mono C.out ?_)
                rintro e w5 ⟨rfl, hb⟩
                have B5 := Lib.hid (HBr.out.trans (hb.mono HBr.out.size))
                have c5 : w5.cell? ⟨g, j * 4 + 3, none⟩ = some (.int .i64 a0) := (hb.cell (p := ⟨g, j * 4 + 3, none⟩) (Nat.lt_of_lt_of_le hg2 HBr.out.size)).trans c3
                clear hb C z3
                go_wp2
                go_roundw
                case rel => exact brel_step hlt EA.out EB.out hbs hsl HOl HX hOs HM.out B5.out
                case measure => simp [intOf]; omega
              · have HM := Lib.hid (show markL (mkOf zs j) = [] by unfold mkOf; rw [dif_pos hjz, if_neg hj2]; rfl)
                have hk2 : ¬ 9223372036854775807 < O.size + (s.size - a0) := by omega
                go_wp2
                go_roundw
                case rel => exact brel_step0 hlt EA.out EB.out hbs hsl HOl HX hOs HM.out HBr.out
                case measure => simp [intOf]; omega
            · have HM := Lib.hid (show markL (mkOf zs j) = [] by unfold mkOf; rw [dif_neg hjz]; rfl)
              have hk2 : ¬ 9223372036854775807 < O.size + (s.size - a0) := by omega
              go_wp2
              go_roundw
              case rel => exact brel_step0 hlt EA.out EB.out hbs hsl HOl HX hOs HM.out HBr.out
              case measure => simp [intOf]; omega
        · obtain rfl : j = ts.length := by omega
          have hX : X = bl s.data.toList (mkOf zs) 0 ts := by
            have := HX.out
            rw [List.drop_length, bl, List.append_nil] at this
            exact this
          have HPl := Lib.hid (show (O ++ ⟨#[10, 41]⟩ : ByteArray).data.toList = anewB s.data.toList (mkOf zs) ts by
            rw [ByteArray.data_append, Array.toList_append, HOl.out, hX]; rfl)
          have HPs := Lib.hid (show (O ++ ⟨#[10, 41]⟩ : ByteArray).size = O.size + 2 by rw [ByteArray.size_append]; rfl)
          have HBw := Lib.hid (HB4.out.trans (HBr.out.mono HB4.out.size))
          clear hX
          have hk : ¬ 9223372036854775807 < O.size + 2 := by omega
          by_cases hbig : 16384 < O.size + 2
          · go_wp2
            go_ret
            exact ⟨rfl, HBw.out⟩
          by_cases h8 : 8188 < ts.length
          · go_wp2
            go_ret
            exact ⟨rfl, HBw.out⟩
          have C3 := Lib.hid (qExpr_is (O ++ ⟨#[10, 41]⟩) wr (by rw [HPs.out]; unfold maxLen; omega) (HT.out.below HBw.out))
          rw [HPl.out] at C3
          have HLAW := Lib.hid (blanks_law (mkOf zs) HS.out HO.out (by rw [← HPl.out, Array.length_toList]; show (O ++ ⟨#[10, 41]⟩ : ByteArray).size ≤ _; rw [HPs.out]; omega) (by omega))
          go_wp2_with (go_at_call 27; with_reducible refine Calls.mono C3.out ?_)
          rintro e w6 ⟨m, a2, cp2, f2, k2, rfl, hb, hx⟩
          have HX2 := Lib.hid hx
          have HB6 := Lib.hid (HBw.out.trans (hb.mono HBw.out.size))
          have N6 := Lib.hid (((N3.out.below B4.out).below HBr.out).below hb)
          have B26 := Lib.hid (B3.out.trans ((B4.out.trans ((HBr.out.trans (hb.mono HBr.out.size)).mono B4.out.size)).mono B3.out.size))
          clear hb C3 hx
          obtain ⟨W7, hW7⟩ : ∃ W, W = w6.alloc (.cells #[.int .i64 m.kind, .string m.text, .int .i64 m.n, .slice a2 m.kids.length cp2, .int .i64 m.place] 24) := ⟨_, rfl⟩
          have M7 := Lib.hid (show NBox w6.heap.size m a2 cp2 W7 from hW7 ▸ NBox.make w6 m a2 cp2)
          have B7 := Lib.hid (show Below w6.heap.size w6 W7 from hW7 ▸ nbelow1 _ _)
          have N7 := Lib.hid (N6.out.below B7.out)
          have HB7 := Lib.hid (HB6.out.trans (B7.out.mono HB6.out.size))
          unfold Nd.val
          go_upto_region 20 with fail
          rw [← hW7]
          clear hW7
          rcases HLAW.out with ⟨v, hv, hsame⟩ | ⟨ts2, p2, hs2, hr2⟩
          · have hx := HX2.out
            rw [show exprR _ = _ from hv.readR] at hx
            obtain ⟨hvm, -, rfl, hl2⟩ := hx
            replace hvm := hvm.symm
            subst hvm
            obtain ⟨⟨n0, n1, n2, n3, n4⟩, -⟩ := N7.out.cells
            obtain ⟨⟨m0, m1, m2, m3, m4⟩, -⟩ := M7.out.cells
            have hlt0 : w2.heap.size < W7.heap.size := N7.out.lt
            have hml := M7.out.lt
            have HTh := Lib.hid (show t'.hold w6.heap.size w6 a cp from ((Nd.lies.hold t' (lies_move HL1.out (KeepsV.refl _ _) fun b hb => hb.2)).below B26.out).mono B26.out.size)
            have HMh := Lib.hid (show m.hold w6.heap.size w6 a2 cp2 from Nd.lies.hold m (lies_move hl2 (KeepsV.refl _ _) fun b hb => hb.2))
            have R := Lib.hid (show ∀ cur, Below W7.heap.size W7 cur → Calls Tryz.prog 30 #[.agg #[.int .i64 t'.kind, .string t'.text, .int .i64 t'.n, .slice a t'.kids.length cp, .int .i64 t'.place], .agg #[.int .i64 m.kind, .string m.text, .int .i64 m.n, .slice a2 m.kids.length cp2, .int .i64 m.place]] cur fun e W' => e = .returned (.bool (sameN t' m)) ∧ Below W7.heap.size W7 W' from fun cur hc =>
              (rSame_any t' m a cp a2 cp2 w6.heap.size cur (HTh.out.below (B7.out.trans (hc.mono B7.out.size))) (HMh.out.below (B7.out.trans (hc.mono B7.out.size))) (Nat.le_trans B7.out.size hc.size)).mono (by rintro e W' ⟨rfl, hb⟩; exact ⟨rfl, hc.trans (hb.mono hc.size)⟩))
            rw [hsame] at R
            clear hsame hv hl2 hlt hj hOs hk hbig h8
            have C4 := Lib.hid (R.out W7 (Below.refl _ _))
            clear R
            go_wp2_with (go_at_call 30; (with_reducible refine Calls.mono C4.out ?_); rintro e w8 ⟨rfl, hb⟩)
            go_ret
            exact ⟨rfl, HB7.out.trans (hb.mono HB7.out.size)⟩
          · have hx := HX2.out
            rw [show exprR (anewB s.data.toList (mkOf zs) ts) = .error (75, p2) by unfold exprR; rw [hs2]; show endX (rd .expr 0 ts2) = _; rw [hr2]; rfl] at hx
            obtain ⟨rfl, -⟩ := hx
            go_wp2_with fail
            go_ret
            exact ⟨rfl, HB7.out⟩
end Go.Proofs.YtcndknkdhlmdnaaGreatDoor
