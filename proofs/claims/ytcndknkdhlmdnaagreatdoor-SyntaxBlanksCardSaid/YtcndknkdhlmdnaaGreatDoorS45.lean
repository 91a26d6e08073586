/-
  Complement: what one text more of RefScan is rested on.
-/
import Derived.Test.YtcndknkdhlmdnaaGreatDoorS09
import Derived.Test.YtcndknkdhlmdnaaGreatDoorS43
import Derived.Test.YtcndknkdhlmdnaaGreatDoorS04
import Derived.Test.YtcndknkdhlmdnaaGreatDoorS01
import Derived.Test.YtcndknkdhlmdnaaGreatDoorRows
import Derived.WalkKit
import Derived.Lib.LaidTab
import Derived.Test.YtcndknkdhlmdnaaGreatDoorS02
import Derived.Lib.SlTrimSet
import Derived.Lib.Strings
import Derived.Lib.IndexMore
import Derived.Lib.IndexBytes
import Derived.Test.YtcndknkdhlmdnaaGreatDoorS29
import Derived.Test.YtcndknkdhlmdnaaGreatDoorS30
import Derived.Test.YtcndknkdhlmdnaaGreatDoorS35
import Derived.Test.YtcndknkdhlmdnaaGreatDoorS44
namespace Go.Proofs.YtcndknkdhlmdnaaGreatDoor
open Go.RowKit
set_option maxRecDepth 100000

/-- what a scan hands back -/
def ScanP (T : TypeId) (r : Except (Int × Int) (List Tk)) (w : World) (e : Ending) (w' : World) : Prop :=
  Below w.heap.size w w' ∧ match r with
    | .ok ts => ∃ g cap, e = .returned (.tuple #[.slice (some ⟨g, 0, none⟩) ts.length cap, .int .i64 0, .int .i64 0]) ∧ w'.ownsRow w.heap.size T 4 (.slice (some ⟨g, 0, none⟩) ts.length cap) ts.length (tksCells ts)
    | .error (c, p) => c ≠ 0 ∧ e = .returned (.tuple #[.slice none 0 0, .int .i64 p, .int .i64 c])
theorem scanP_err {T : TypeId} {r : Except (Int × Int) (List Tk)} {w w' : World} {c p : Int} (h : r = .error (c, p)) (hc : c ≠ 0) (hb : Below w.heap.size w w') : ScanP T r w (.returned (.tuple #[.slice none 0 0, .int .i64 p, .int .i64 c])) w' := by
  subst h; exact ⟨hb, hc, rfl⟩
theorem remR_of {s : ByteArray} {a b : Nat} (h1 : a + 1 ≤ b) (hb : b ≤ s.size) (h : ∀ j (hj : j < s.size), a ≤ j → j < b → s[j] ≠ 10) (h' : ∀ (hk : b < s.size), s[b] = 10) : remR (s.data.toList.drop (a + 1)) = b - (a + 1) := by
  have hl : (s.data.toList.drop (a + 1)).length = s.size - (a + 1) := by rw [List.length_drop, size_list]
  obtain ⟨d, rfl⟩ : ∃ d, b = a + 1 + d := ⟨b - (a + 1), by omega⟩
  rw [Nat.add_sub_cancel_left]
  refine takeWhile_len (· != 10) _ _ (by rw [hl]; omega) (fun j hj hjk => ?_) fun hj => ?_
  · rw [List.getElem_drop, bne_iff_ne]
    exact h (a + 1 + j) (by rw [hl] at hj; omega) (by omega) (by omega)
  · rw [List.getElem_drop]
    have := h' (by rw [hl] at hj; omega)
    rw [show s.data.toList[a + 1 + d]'(by rw [size_list]; rw [hl] at hj; omega) = 10 from this]; rfl
set_option maxHeartbeats 2000000 in
theorem rScan_any (s : ByteArray) (w : World) (hs : s.size ≤ maxLen) :
    Calls Tryz.prog 28 #[.string s] w (ScanP 39 (scanT s.data.toList) w) := by
  have hm := hs
  unfold maxLen at hm
  have HL := Lib.hid (size_list s)
  by_cases hbig : 16384 < (s.size : Int)
  · have R := Lib.hid (show scanT s.data.toList = .error (70, 0) by unfold scanT; rw [if_pos (by rw [HL.out]; omega)])
    go_enter Tryz.func28, Tryz.ntmps28
    go_wp2_with fail
    go_ret3
    exact scanP_err R.out (by decide) (Below.refl _ _)
  have hs2 : s.size ≤ 16384 := by omega
  have R := Lib.hid (show scanT s.data.toList = scanS s.data.toList 0 0 0 by unfold scanT; rw [if_neg (by rw [HL.out]; omega)])
  obtain ⟨i0, hi, hz0, hz1, hz2⟩ := info_parts (show (Tryz.prog.info? 39).map (fun i => (i.zero, i.size, i.bytes)) = some (some (.agg #[.int .i64 0, .string ⟨#[]⟩, .int .i64 0, .int .i64 0]), 4, 40) by kernel_rfl)
  have HI0 := Lib.hid (show _ ∧ _ ∧ _ ∧ _ from ⟨hi, hz0, hz1, hz2⟩)
  clear hi hz0 hz1 hz2
  go_enter Tryz.func28, Tryz.ntmps28
  go_wp2_with fail
  clear hbig
  go_loopw [5, 6, 7, 8, 9] (fun v i _ _ _ wr => ∃ (a : Nat) (ts : List Tk), a ≤ s.size ∧ i = .int .i64 a ∧ ts.length ≤ 8192 ∧ Hid (wr.ownsRow w.heap.size 39 4 v ts.length (tksCells ts)) ∧ (∃ ao cap, v = .slice ao ts.length cap) ∧ Hid (Below w.heap.size w wr) ∧ Hid (scanT s.data.toList = ahead ts (scanS (s.data.toList.drop a) a ts.length 0))) (fun _ i _ _ _ _ => s.size - (intOf i).toNat)
  case atStart => exact ⟨0, [], by omega, rfl, by decide, World.ownsRow_nil _ _ _ _, ⟨none, 0, rfl⟩, Below.refl _ _, by show _ = _; rw [ahead_nil]; exact R.out⟩
  case round =>
    obtain ⟨a, ts, ha, rfl, htl, HOW, ⟨ao, cp, rfl⟩, HBr, HSC⟩ := hrel
    by_cases hlt : a < s.size
    · have D := Lib.hid (drop_at hlt)
      have HC := Lib.hid HSC.out
      rw [D.out] at HC
      by_cases h32 : (s[a].toNat : Int) ≤ 32
      · have X := Lib.hid (show scanT s.data.toList = ahead ts (scanS (s.data.toList.drop (a + 1)) ((a + 1 : Nat) : Int) ts.length 0) by
          rw [HC.out, scan_blank ((u8_le _).2 h32), show (a : Int) + 1 = ((a + 1 : Nat) : Int) by omega])
        go_wp2_with fail
        go_roundw
        case rel => exact ⟨a + 1, ts, by omega, by go_num, htl, HOW, ⟨ao, cp, rfl⟩, HBr, X⟩
        case measure => simp [intOf]; omega
      have h32' := Lib.hid (show ¬ s[a].toNat ≤ 32 from fun h => h32 ((u8_le _).1 h))
      by_cases h35 : (s[a].toNat : Int) = 35
      · have e35 : ((s[a].toNat : Int) == 35) = true := by rw [h35]; rfl
        have e35' : s[a] = 35 := UInt8.toNat_inj.1 (Int.ofNat.inj h35)
        have X := Lib.hid (show scanT s.data.toList = ahead ts (scanS (s.data.toList.drop (a + 1 + remR (s.data.toList.drop (a + 1)))) ((a + 1 + remR (s.data.toList.drop (a + 1)) : Nat) : Int) ts.length 0) by
          rw [HC.out, scan_rem e35', List.drop_drop, show (a : Int) + 1 + (remR (s.data.toList.drop (a + 1)) : Nat) = ((a + 1 + remR (s.data.toList.drop (a + 1)) : Nat) : Int) by omega])
        have e10 : ((s[a].toNat : Int) != 10) = true := by rw [h35]; rfl
        have E10 := Lib.hid e10
        clear h35 e35' e10
        go_wp2_with fail
        have HOW' := HOW
        have HBr' := HBr
        clear HOW HBr
        generalize wr = wo at HOW' HBr' ⊢
        go_loop [6] (fun i => ∃ b : Nat, a ≤ b ∧ b ≤ s.size ∧ i = .int .i64 b ∧ Hid (∀ j (hj : j < s.size), a ≤ j → j < b → s[j] ≠ 10)) (fun i => s.size - (intOf i).toNat)
        case atStart => exact ⟨a, Nat.le_refl _, by omega, rfl, fun j hj h h' => by omega⟩
        case round =>
          obtain ⟨b, hab, hb, rfl, HAll⟩ := hrel
          have hgo : (∃ hlt : b < s.size, s[b] ≠ 10) ∨ (∃ hlt : b < s.size, s[b] = 10) ∨ ¬ b < s.size := by
            by_cases h : b < s.size
            · by_cases h' : s[b] = 10
              · exact .inr (.inl ⟨h, h'⟩)
              · exact .inl ⟨h, h'⟩
            · exact .inr (.inr h)
          rcases hgo with ⟨hlb, hg⟩ | ⟨hlb, hg⟩ | hlb
          · have q : ((s[b].toNat : Int) != 10) = true := by rw [bne_iff_ne]; exact fun e => hg (UInt8.toNat_inj.1 (Int.ofNat.inj e))
            have HG := Lib.hid hg
            clear hg
            go_wp2_with fail
            go_round
            case rel =>
              refine ⟨b + 1, by omega, by omega, by go_num, fun j hj h h' => ?_⟩
              by_cases e : j = b
              · subst e; exact HG.out
              · exact HAll.out j hj h (by omega)
            case measure => simp [intOf]; omega
          case' inr.inl =>
            have q : ((s[b].toNat : Int) != 10) = false := by rw [hg]; rfl
            have hne : a + 1 ≤ b := by
              rcases Nat.lt_or_ge a b with g | g
              · omega
              · exfalso
                obtain rfl : a = b := by omega
                have := E10.out
                rw [hg] at this; exact absurd this (by decide)
            have HR := Lib.hid (remR_of hne hb HAll.out fun _ => hg)
            clear hg
          case' inr.inr =>
            have q : True := trivial
            have hne : a + 1 ≤ b := by omega
            have HR := Lib.hid (remR_of hne hb HAll.out fun h => absurd h hlb)
          all_goals
            have X2 := Lib.hid (show scanT s.data.toList = ahead ts (scanS (s.data.toList.drop b) ((b : Nat) : Int) ts.length 0) by
              have := X.out
              rw [HR.out, show a + 1 + (b - (a + 1)) = b by omega] at this
              exact this)
            clear X HR HAll
            go_wp2_with fail
            go_roundw
            case rel => exact ⟨b, ts, by omega, rfl, htl, HOW', ⟨ao, cp, rfl⟩, HBr', X2⟩
            case measure => simp [intOf]; omega
      have e35 : ((s[a].toNat : Int) == 35) = false := beq_eq_false_iff_ne.2 h35
      have e35' := Lib.hid (show s[a] ≠ 35 from fun e => h35 (by rw [e]; rfl))
      have CT := Lib.hid (rtoken_any s a wr hs2 hlt)
      clear h35
      go_wp2_with fail
      (with_reducible refine Calls.mono CT.out ?_)
      rintro e w1 ⟨hb, hr⟩
      have HB1 := Lib.hid (HBr.out.trans (hb.mono HBr.out.size))
      have HO1 := Lib.hid (show w1.ownsRow w.heap.size 39 4 (.slice ao ts.length cp) ts.length (tksCells ts) from HOW.out.kept (row := none) ⟨hb.os, hb.tape, hb.output, hb.size, fun k hk _ => hb.block k hk⟩ (by cases hv : (Value.slice ao ts.length cp).ownBlock <;> simp))
      have hz1 : w.heap.size ≤ w1.heap.size := HB1.out.size
      cases hx : tokS s[a] (s.data.toList.drop (a + 1)) a with
      | error c =>
        rw [hx] at hr
        obtain ⟨hc, k', s', x', p', rfl⟩ := hr
        have X := Lib.hid (show scanT s.data.toList = .error (c, a) by rw [HC.out, scan_err h32'.out e35'.out hx]; rfl)
        have HC0 := Lib.hid hc
        have hc' : (c != 0) = true := by rw [bne_iff_ne]; exact hc
        have HB2 := Lib.hid (HB1.out.trans ((Below.refl w1.heap.size w1).mono hz1))
        clear hb hc hx
        go_wp2_with fail
        go_ret3
        exact scanP_err X.out HC0.out (HB2.out.alloc hz1 _)
      | ok q =>
        obtain ⟨t, n⟩ := q
        rw [hx] at hr
        have hln := tok_len hx
        have hln2 : n ≤ s.size - a := by
          have := hln.2
          rw [List.length_drop, HL.out] at this; omega
        replace hr : e = .returned (.tuple #[.agg #[.int .i64 t.kind, .string ⟨t.text.toArray⟩, .int .i64 t.n, .int .i64 t.pos], .int .i64 n, .int .i64 0]) := hr
        subst hr
        by_cases hk : ts.length = 8192
        · have X := Lib.hid (show scanT s.data.toList = .error (76, a) by rw [HC.out, scan_many h32'.out e35'.out hx hk]; rfl)
          have ek : ((ts.length : Int) == 8192) = true := by rw [hk]; rfl
          clear hb hx hk
          go_wp2_with fail
          go_ret3
          exact scanP_err X.out (by decide) (HB1.out.alloc hz1 _)
        · have X := Lib.hid (show scanT s.data.toList = ahead (ts ++ [t]) (scanS (s.data.toList.drop (a + n)) ((a + n : Nat) : Int) (ts ++ [t]).length 0) by
            rw [HC.out, scan_tok h32'.out e35'.out hx hk, ahead_app, ← D.out, List.drop_drop, List.length_append]
            congr 2)
          have ek : ((ts.length : Int) == 8192) = false := by rw [beq_eq_false_iff_ne]; omega
          obtain ⟨hn1, -⟩ := hln
          have htl8 : ts.length + 1 ≤ 8192 := by omega
          clear hb hx hk
          have hs1 : (w1.alloc (.cells #[.int .i64 t.kind, .string ⟨t.text.toArray⟩, .int .i64 t.n, .int .i64 t.pos] 39)).heap.size = w1.heap.size + 1 := by simp
          have HB2 := Lib.hid (HB1.out.alloc hz1 (.cells #[.int .i64 t.kind, .string ⟨t.text.toArray⟩, .int .i64 t.n, .int .i64 t.pos] 39))
          have HO2 := Lib.hid (HO1.out.alloc (.cells #[.int .i64 t.kind, .string ⟨t.text.toArray⟩, .int .i64 t.n, .int .i64 t.pos] 39))
          have hz2 : w.heap.size ≤ w1.heap.size + 1 := by omega
          go_wp2_with (at_builtin; refine wpList_append_lies _ rfl _ _ 35 rfl w.heap.size 39 i0 (.agg #[.int .i64 0, .string ⟨#[]⟩, .int .i64 0, .int .i64 0]) 4 40 Tryz.underlying35 HI0.out.1 HI0.out.2.1 HI0.out.2.2.1 HI0.out.2.2.2 rfl (by decide) _ _ _ rfl (HO2.out.alloc _) ⟨w1.heap.size + 1, 0, none⟩ 1 1 (tkCells t) rfl rfl (hs1 ▸ cells4_new _ _ _ _ _ _) (tk_one t) (by decide) (by unfold maxLen; omega) (by omega) (by simp; omega) _ rfl ?_; intro g cap' w5 hown' hgrow' hat hltg; have Z := Lib.hid (tok_append (HB2.out.alloc (by rw [hs1]; exact hz2) _) (HO2.out.alloc _) hown' hgrow' (by simp; omega)); clear hown' hgrow' hat hltg)
          go_roundw
          case rel =>
            have el : (ts ++ [t]).length = ts.length + 1 := by rw [List.length_append]; rfl
            have z := Z.out.2
            rw [el] at z
            refine ⟨a + n, ts ++ [t], by omega, by go_num, by rw [el]; exact htl8, by rw [el]; exact z, ⟨some ⟨g, 0, none⟩, cap', by rw [el]⟩, Z.out.1, X⟩
          case measure => simp [intOf]; omega
    · obtain rfl : a = s.size := by omega
      have X := Lib.hid (show scanT s.data.toList = .ok (ts ++ [⟨0, [], 0, s.size⟩]) by
        have := HSC.out
        rw [drop_end (Nat.le_refl _)] at this
        exact this)
      have hz0 : w.heap.size ≤ wr.heap.size := HBr.out.size
      go_wp2_with (at_builtin; refine wpList_append_lies _ rfl _ _ 35 rfl w.heap.size 39 i0 (.agg #[.int .i64 0, .string ⟨#[]⟩, .int .i64 0, .int .i64 0]) 4 40 Tryz.underlying35 HI0.out.1 HI0.out.2.1 HI0.out.2.2.1 HI0.out.2.2.2 rfl (by decide) _ _ _ rfl (HOW.out.alloc _) ⟨wr.heap.size, 0, none⟩ 1 1 (tkCells ⟨0, [], 0, s.size⟩) rfl rfl (cells4_new _ _ _ _ _ _) (tk_one _) (by decide) (by unfold maxLen; omega) (by omega) (by simp; omega) _ rfl ?_; intro g cap' w5 hown' hgrow' hat hltg; have Z := Lib.hid (tok_append (HBr.out.alloc hz0 _) (HOW.out.alloc _) hown' hgrow' (by simp; omega)); clear hown' hgrow' hat hltg)
      go_ret3
      refine ⟨Z.out.1, ?_⟩
      rw [X.out]
      exact ⟨g, cap', by rw [List.length_append]; rfl, Z.out.2⟩
end Go.Proofs.YtcndknkdhlmdnaaGreatDoor
