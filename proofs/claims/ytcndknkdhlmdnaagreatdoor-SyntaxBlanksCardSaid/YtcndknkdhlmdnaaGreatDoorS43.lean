/-
  Complement: what one text more of RefU7 is rested on.
-/
import Derived.Test.YtcndknkdhlmdnaaGreatDoorS09
import Derived.Test.YtcndknkdhlmdnaaGreatDoorS42
namespace Go.Proofs.YtcndknkdhlmdnaaGreatDoor
open Go.RowKit
set_option maxRecDepth 100000

theorem greR_of {s : ByteArray} {a n : Nat} (hk : a + n ≤ s.size) (h : ∀ j (hj : a + j < s.size), j < n → grC s[a + j] = true) (h' : ∀ (hk : a + n < s.size), grC s[a + n] = false) : greR (s.data.toList.drop a) = n := by
  have hl : (s.data.toList.drop a).length = s.size - a := by rw [List.length_drop, size_list]
  exact takeWhile_len grC _ _ (by rw [hl]; omega) (fun j hj hjk => by rw [List.getElem_drop]; exact h j (by rw [hl] at hj; omega) hjk) fun hj => by rw [List.getElem_drop]; exact h' (by rw [hl] at hj; omega)
def markF : ByteArray := ⟨#[40, 41, 44, 59, 61, 60, 43, 45, 42, 47]⟩
theorem markF_ext : ∀ (k : Nat) (h : k < 10), (markF.extract k (k + 1)).data.toList = [markF[k]'h] := by decide
theorem mark_no {c : UInt8} (h : ∀ j (hj : j < 10), (markF[j]'hj) ≠ c) : markTab.contains c = false := by
  rw [Bool.eq_false_iff]
  intro e
  obtain ⟨i, hi, he⟩ := List.getElem_of_mem (List.contains_iff_mem.1 e)
  exact h i hi he
theorem mark_yes {c : UInt8} {k : Nat} (h : k < 10) (e : (markF[k]'h) = c) : markTab.contains c = true := by
  rw [List.contains_iff_mem, ← e]
  exact List.getElem_mem (l := markTab) (n := k) h
set_option maxHeartbeats 4000000 in
theorem rtoken_any (s : ByteArray) (a : Nat) (w : World) (hs : s.size ≤ 16384) (ha : a < s.size) :
    Calls Tryz.prog 56 #[.string s, .int .i64 a] w (TokP (tokS s[a] (s.data.toList.drop (a + 1)) a) w) := by
  have D := Lib.hid (drop_at ha)
  have K := Lib.hid (tok_eq s[a] (s.data.toList.drop (a + 1)) a)
  rw [← D.out] at K
  obtain ⟨W, hW⟩ : ∃ W, W = w.alloc (.cells #[.int .i64 0, .string ⟨#[]⟩, .int .i64 0, .int .i64 0] 39) := ⟨_, rfl⟩
  have HB := Lib.hid (show Below w.heap.size w W from hW ▸ nbelow1 _ _)
  have Z0 := Lib.hid (show Zero w.heap.size W from hW ▸ Zero.make w)
  cases h1 : smI s[a].toNat
  case true =>
    have R0 := Lib.hid (show tokS s[a] (s.data.toList.drop (a + 1)) a = namedS (s.data.toList.drop a) a by rw [K.out, if_pos h1])
    have C := Lib.hid (rnamed_any s a W hs ha)
    go_enter Tryz.func56, Tryz.ntmps56
    go_wp2_with fail
    rw [← hW]
    clear hW
    go_wp2_with (first | (go_at_call 87; refine (rsmall_any _ _).mono ?_; rintro e w' ⟨rfl, rfl⟩; rw [h1]))
    (with_reducible refine Calls.mono C.out ?_)
    rintro e w1 ⟨hb, hr⟩
    have HC := Lib.hid (HB.out.trans (hb.mono HB.out.size))
    obtain ⟨c0, c1, c2, c3, f0, f1, f2, f3⟩ := (Z0.out.below hb).cells
    cases hx : namedS (s.data.toList.drop a) a with
    | error c =>
      rw [hx] at hr R0
      obtain ⟨hc, k', s', x', p', rfl⟩ := hr
      have HC0 := Lib.hid hc
      clear hb hc hx
      go_wp2_with fail
      exact bodyPost_ret (v := .tuple #[.agg #[.int .i64 k', .string s', .int .i64 x', .int .i64 p'], .int .i64 0, .int .i64 c]) (by simp [results, Tryz.results56, go_sem, c0, c1, c2, c3]) rfl (tokP_err R0.out HC0.out (below4 HC.out _ _ _ _))
    | ok q =>
      obtain ⟨t, n⟩ := q
      rw [hx] at hr R0
      replace hr : e = .returned (.tuple #[.agg #[.int .i64 t.kind, .string ⟨t.text.toArray⟩, .int .i64 t.n, .int .i64 t.pos], .int .i64 n, .int .i64 0]) := hr
      subst hr
      clear hb hx
      go_wp2_with fail
      exact bodyPost_ret (v := .tuple #[.agg #[.int .i64 t.kind, .string ⟨t.text.toArray⟩, .int .i64 t.n, .int .i64 t.pos], .int .i64 n, .int .i64 0]) (by simp [results, Tryz.results56, go_sem, c0, c1, c2, c3]) rfl (tokP_ok R0.out (below4 HC.out _ _ _ _) rfl rfl rfl rfl rfl)
  have n1 := Lib.hid (show ¬ smI s[a].toNat = true by rw [h1]; decide)
  cases h2 : dgI s[a].toNat
  case true =>
    have R0 := Lib.hid (show tokS s[a] (s.data.toList.drop (a + 1)) a = numS (s.data.toList.drop a) a by rw [K.out, if_neg n1.out, if_pos h2])
    have C := Lib.hid (rnumber_any s a W hs ha (by rw [dgC_I]; exact h2))
    go_enter Tryz.func56, Tryz.ntmps56
    go_wp2_with fail
    rw [← hW]
    clear hW
    go_wp2_with (first | (go_at_call 87; refine (rsmall_any _ _).mono ?_; rintro e w' ⟨rfl, rfl⟩; rw [h1]) | (go_at_call 89; refine (rdigit_any _ _).mono ?_; rintro e w' ⟨rfl, rfl⟩; rw [h2]))
    (with_reducible refine Calls.mono C.out ?_)
    rintro e w1 ⟨hb, hr⟩
    have HC := Lib.hid (HB.out.trans (hb.mono HB.out.size))
    obtain ⟨c0, c1, c2, c3, f0, f1, f2, f3⟩ := (Z0.out.below hb).cells
    cases hx : numS (s.data.toList.drop a) a with
    | error c =>
      rw [hx] at hr R0
      obtain ⟨hc, k', s', x', p', rfl⟩ := hr
      have HC0 := Lib.hid hc
      clear hb hc hx
      go_wp2_with fail
      exact bodyPost_ret (v := .tuple #[.agg #[.int .i64 k', .string s', .int .i64 x', .int .i64 p'], .int .i64 0, .int .i64 c]) (by simp [results, Tryz.results56, go_sem, c0, c1, c2, c3]) rfl (tokP_err R0.out HC0.out (below4 HC.out _ _ _ _))
    | ok q =>
      obtain ⟨t, n⟩ := q
      rw [hx] at hr R0
      replace hr : e = .returned (.tuple #[.agg #[.int .i64 t.kind, .string ⟨t.text.toArray⟩, .int .i64 t.n, .int .i64 t.pos], .int .i64 n, .int .i64 0]) := hr
      subst hr
      clear hb hx
      go_wp2_with fail
      exact bodyPost_ret (v := .tuple #[.agg #[.int .i64 t.kind, .string ⟨t.text.toArray⟩, .int .i64 t.n, .int .i64 t.pos], .int .i64 n, .int .i64 0]) (by simp [results, Tryz.results56, go_sem, c0, c1, c2, c3]) rfl (tokP_ok R0.out (below4 HC.out _ _ _ _) rfl rfl rfl rfl rfl)
  have n2 := Lib.hid (show ¬ dgI s[a].toNat = true by rw [h2]; decide)
  cases h3 : ((s[a].toNat : Int) == 34)
  case true =>
    have h3' := Lib.hid (beq_iff_eq.1 h3)
    have R0 := Lib.hid (show tokS s[a] (s.data.toList.drop (a + 1)) a = quotS (s.data.toList.drop (a + 1)) a by rw [K.out, if_neg n1.out, if_neg n2.out, if_pos h3'.out])
    have C := Lib.hid (rquoted_any s a W hs ha)
    go_enter Tryz.func56, Tryz.ntmps56
    go_wp2_with fail
    rw [← hW]
    clear hW
    go_wp2_with (first | (go_at_call 87; refine (rsmall_any _ _).mono ?_; rintro e w' ⟨rfl, rfl⟩; rw [h1]) | (go_at_call 89; refine (rdigit_any _ _).mono ?_; rintro e w' ⟨rfl, rfl⟩; rw [h2]))
    (with_reducible refine Calls.mono C.out ?_)
    rintro e w1 ⟨hb, hr⟩
    have HC := Lib.hid (HB.out.trans (hb.mono HB.out.size))
    obtain ⟨c0, c1, c2, c3, f0, f1, f2, f3⟩ := (Z0.out.below hb).cells
    cases hx : quotS (s.data.toList.drop (a + 1)) a with
    | error c =>
      rw [hx] at hr R0
      obtain ⟨hc, k', s', x', p', rfl⟩ := hr
      have HC0 := Lib.hid hc
      clear hb hc hx
      go_wp2_with fail
      exact bodyPost_ret (v := .tuple #[.agg #[.int .i64 k', .string s', .int .i64 x', .int .i64 p'], .int .i64 0, .int .i64 c]) (by simp [results, Tryz.results56, go_sem, c0, c1, c2, c3]) rfl (tokP_err R0.out HC0.out (below4 HC.out _ _ _ _))
    | ok q =>
      obtain ⟨t, n⟩ := q
      rw [hx] at hr R0
      replace hr : e = .returned (.tuple #[.agg #[.int .i64 t.kind, .string ⟨t.text.toArray⟩, .int .i64 t.n, .int .i64 t.pos], .int .i64 n, .int .i64 0]) := hr
      subst hr
      clear hb hx
      go_wp2_with fail
      exact bodyPost_ret (v := .tuple #[.agg #[.int .i64 t.kind, .string ⟨t.text.toArray⟩, .int .i64 t.n, .int .i64 t.pos], .int .i64 n, .int .i64 0]) (by simp [results, Tryz.results56, go_sem, c0, c1, c2, c3]) rfl (tokP_ok R0.out (below4 HC.out _ _ _ _) rfl rfl rfl rfl rfl)
  have n3 := Lib.hid (show ¬ (s[a].toNat : Int) = 34 from beq_eq_false_iff_ne.1 h3)
  cases h4 : grI s[a].toNat
  case true =>
    have R0 := Lib.hid (show tokS s[a] (s.data.toList.drop (a + 1)) a = if greR (s.data.toList.drop a) = 3 then .ok (⟨4, (s.data.toList.drop a).take 3, 0, a⟩, 3) else .error 73 by rw [K.out, if_neg n1.out, if_neg n2.out, if_neg n3.out, if_pos h4]; rfl)
    have H4 := Lib.hid (show grC s[a] = true from h4)
    obtain ⟨c0, c1, c2, c3, f0, f1, f2, f3⟩ := Z0.out.cells
    go_enter Tryz.func56, Tryz.ntmps56
    go_wp2_with fail
    rw [← hW]
    clear hW
    go_wp2_with (first | (go_at_call 87; refine (rsmall_any _ _).mono ?_; rintro e w' ⟨rfl, rfl⟩; rw [h1]) | (go_at_call 89; refine (rdigit_any _ _).mono ?_; rintro e w' ⟨rfl, rfl⟩; rw [h2]) | (go_at_call 92; refine (rgreat_any _ _).mono ?_; rintro e w' ⟨rfl, rfl⟩; rw [h4]))
    clear h1 h2 h3
    go_loop [8] (fun n => ∃ k : Nat, 1 ≤ k ∧ a + k ≤ s.size ∧ n = .int .i64 k ∧ Hid (∀ j (hj : a + j < s.size), j < k → grC s[a + j] = true)) (fun n => s.size - (intOf n).toNat)
    case atStart => exact ⟨1, by omega, by omega, rfl, fun j hj h => by obtain rfl : j = 0 := (by omega); exact H4.out⟩
    case round =>
      obtain ⟨k, hk1, hk, rfl, HAll⟩ := hrel
      have hgo : (∃ hlt : a + k < s.size, grC s[a + k] = true) ∨ (∃ hlt : a + k < s.size, grC s[a + k] = false) ∨ ¬ a + k < s.size := by
        by_cases h : a + k < s.size
        · cases h' : grC s[a + k]
          · exact .inr (.inl ⟨h, h'⟩)
          · exact .inl ⟨h, h'⟩
        · exact .inr (.inr h)
      rcases hgo with ⟨hlt, hg⟩ | ⟨hlt, hg⟩ | hlt
      · have h5 : grI s[a + k].toNat = true := hg
        have HG := Lib.hid hg
        clear hg h4
        go_wp2_with (first | (go_at_call 92; refine (rgreat_any _ _).mono ?_; rintro e w' ⟨rfl, rfl⟩; rw [h5]))
        go_round
        case rel =>
          refine ⟨k + 1, by omega, by omega, by go_num, fun j hj h => ?_⟩
          by_cases e : j = k
          · subst e; exact HG.out
          · exact HAll.out j hj (by omega)
        case measure => simp [intOf]; omega
      case' inr.inl =>
        have h5 : grI s[a + k].toNat = false := hg
        have HR := Lib.hid (greR_of hk HAll.out (fun _ => hg))
        clear hg
      case' inr.inr =>
        have h5 : True := trivial
        have HR := Lib.hid (greR_of hk HAll.out (fun h => absurd h hlt))
      all_goals
        by_cases hk3 : (k : Int) = 3
        · have hk' : k = 3 := by omega
          have e3 : ((k : Int) != 3) = false := by rw [hk3]; rfl
          have R := Lib.hid (R0.out.trans (if_pos (by rw [HR.out]; exact hk')))
          have T := Lib.hid (show (s.extract a (a + k)).data.toList = (s.data.toList.drop a).take 3 by rw [ext_list, Nat.add_sub_cancel_left, hk'])
          have HK3 := Lib.hid hk3
          clear hk3 h4 hk'
          go_wp2_with (first | (go_at_call 92; refine (rgreat_any _ _).mono ?_; rintro e w' ⟨rfl, rfl⟩; rw [h5]))
          exact bodyPost_ret (v := .tuple #[.agg #[.int .i64 4, .string (s.extract a (a + k)), .int .i64 0, .int .i64 a], .int .i64 k, .int .i64 0]) (by simp [results, Tryz.results56, go_sem, c0, c1, c2, c3]) rfl (tokP_ok R.out (below4 HB.out _ _ _ _) rfl T.out rfl rfl HK3.out)
        · have R := Lib.hid (R0.out.trans (if_neg (by rw [HR.out]; omega)))
          have e3 : ((k : Int) != 3) = true := by rw [bne_iff_ne]; exact hk3
          clear hk3 h4
          go_wp2_with (first | (go_at_call 92; refine (rgreat_any _ _).mono ?_; rintro e w' ⟨rfl, rfl⟩; rw [h5]))
          exact bodyPost_ret (v := .tuple #[.agg #[.int .i64 0, .string ⟨#[]⟩, .int .i64 0, .int .i64 0], .int .i64 0, .int .i64 73]) (by simp [results, Tryz.results56, go_sem, c0, c1, c2, c3]) rfl (tokP_err R.out (by decide) (below4 HB.out _ _ _ _))
  have R0 := Lib.hid (show tokS s[a] (s.data.toList.drop (a + 1)) a = markS s[a] (s.data.toList.drop (a + 1)) a by rw [K.out, if_neg n1.out, if_neg n2.out, if_neg n3.out, if_neg (by rw [h4]; decide)])
  rw [mark_eq] at R0
  obtain ⟨c0, c1, c2, c3, f0, f1, f2, f3⟩ := Z0.out.cells
  by_cases hle : (s[a].toNat : Int) = 60 ∧ ∃ h : a + 1 < s.size, (s[a + 1].toNat : Int) = 61
  · obtain ⟨h60, hlt, h61⟩ := hle
    have R := Lib.hid (R0.out.trans (if_pos ⟨h60, by rw [head_drop hlt]; exact h61⟩))
    have e60 : ((s[a].toNat : Int) == 60) = true := by rw [h60]; rfl
    have e61 : ((s[a + 1].toNat : Int) == 61) = true := by rw [h61]; rfl
    clear h60 h61
    go_enter Tryz.func56, Tryz.ntmps56
    go_wp2_with fail
    rw [← hW]
    clear hW
    go_wp2_with (first | (go_at_call 87; refine (rsmall_any _ _).mono ?_; rintro e w' ⟨rfl, rfl⟩; rw [h1]) | (go_at_call 89; refine (rdigit_any _ _).mono ?_; rintro e w' ⟨rfl, rfl⟩; rw [h2]) | (go_at_call 92; refine (rgreat_any _ _).mono ?_; rintro e w' ⟨rfl, rfl⟩; rw [h4]))
    exact bodyPost_ret (v := .tuple #[.agg #[.int .i64 8, .string ⟨#[60, 61]⟩, .int .i64 0, .int .i64 a], .int .i64 2, .int .i64 0]) (by simp [results, Tryz.results56, go_sem, c0, c1, c2, c3]) rfl (tokP_ok R.out (below4 HB.out _ _ _ _) rfl rfl rfl rfl rfl)
  have R1 := Lib.hid (R0.out.trans (if_neg fun h => hle ⟨h.1, by
    by_cases g : a + 1 < s.size
    · refine ⟨g, ?_⟩
      have := h.2
      rwa [head_drop g] at this
    · have := h.2
      rw [head_end (by omega)] at this
      exact absurd this (by decide)⟩))
  have hways : ((s[a].toNat : Int) == 60) = false ∨ (((s[a].toNat : Int) == 60) = true ∧ ¬ a + 1 < s.size) ∨ (((s[a].toNat : Int) == 60) = true ∧ ∃ h : a + 1 < s.size, ((s[a + 1].toNat : Int) == 61) = false) := by
    cases h : ((s[a].toNat : Int) == 60)
    · exact .inl rfl
    · by_cases g : a + 1 < s.size
      · exact .inr (.inr ⟨rfl, g, by rw [beq_eq_false_iff_ne]; exact fun e => hle ⟨beq_iff_eq.1 h, g, e⟩⟩)
      · exact .inr (.inl ⟨rfl, g⟩)
  clear hle
  go_enter Tryz.func56, Tryz.ntmps56
  go_wp2_with fail
  rw [← hW]
  clear hW
  rcases hways with e60 | ⟨e60, hg⟩ | ⟨e60, hg, e61⟩
  all_goals
    go_wp2_with (first | (go_at_call 87; refine (rsmall_any _ _).mono ?_; rintro e w' ⟨rfl, rfl⟩; rw [h1]) | (go_at_call 89; refine (rdigit_any _ _).mono ?_; rintro e w' ⟨rfl, rfl⟩; rw [h2]) | (go_at_call 92; refine (rgreat_any _ _).mono ?_; rintro e w' ⟨rfl, rfl⟩; rw [h4]))
    clear h1 h2 h3 h4
    go_loop [10] (fun i => ∃ k : Nat, k ≤ 10 ∧ i = .int .i64 k ∧ Hid (∀ j (hj : j < 10), j < k → (markF[j]'hj) ≠ s[a])) (fun i => 10 - (intOf i).toNat)
    case atStart => exact ⟨0, by omega, rfl, fun j hj h => by omega⟩
    case round =>
      obtain ⟨k, hk, rfl, HAll⟩ := hrel
      by_cases hlt : k < 10
      · by_cases hm : (markF[k]'hlt) = s[a]
        · have q : (((markF[k]'hlt).toNat : Int) == s[a].toNat) = true := by rw [hm, beq_self_eq_true]
          have R := Lib.hid (R1.out.trans (if_pos (mark_yes hlt hm)))
          have T := Lib.hid (show (markF.extract k (k + 1)).data.toList = [s[a]] by rw [markF_ext k hlt, hm])
          unfold markF at q T
          clear hm
          go_wp2_with fail
          exact bodyPost_ret (v := .tuple #[.agg #[.int .i64 8, .string ((⟨#[40, 41, 44, 59, 61, 60, 43, 45, 42, 47]⟩ : ByteArray).extract k (k + 1)), .int .i64 0, .int .i64 a], .int .i64 1, .int .i64 0]) (by simp [results, Tryz.results56, go_sem, c0, c1, c2, c3]) rfl (tokP_ok R.out (below4 HB.out _ _ _ _) rfl T.out rfl rfl rfl)
        · have q : (((markF[k]'hlt).toNat : Int) == s[a].toNat) = false := by rw [beq_eq_false_iff_ne]; exact fun e => hm (UInt8.toNat_inj.1 (Int.ofNat.inj e))
          have HM := Lib.hid hm
          unfold markF at q
          clear hm
          go_wp2_with fail
          go_round
          case rel =>
            refine ⟨k + 1, by omega, by go_num, fun j hj h => ?_⟩
            by_cases e : j = k
            · subst e; exact HM.out
            · exact HAll.out j hj (by omega)
          case measure => simp [intOf]; omega
      · have R := Lib.hid (R1.out.trans (if_neg (by rw [mark_no fun j hj => HAll.out j hj (by omega)]; decide)))
        go_wp2_with fail
        exact bodyPost_ret (v := .tuple #[.agg #[.int .i64 0, .string ⟨#[]⟩, .int .i64 0, .int .i64 0], .int .i64 0, .int .i64 71]) (by simp [results, Tryz.results56, go_sem, c0, c1, c2, c3]) rfl (tokP_err R.out (by decide) (below4 HB.out _ _ _ _))
end Go.Proofs.YtcndknkdhlmdnaaGreatDoor
