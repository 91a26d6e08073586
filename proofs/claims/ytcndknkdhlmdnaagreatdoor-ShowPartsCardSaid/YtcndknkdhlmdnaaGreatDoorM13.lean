/-
  Texts that the statements' proofs rest on, one behind another: SynF, ShowH, DateF.
-/
import Derived.Test.YtcndknkdhlmdnaaGreatDoorM12
import Derived.Test.YtcndknkdhlmdnaaGreatDoorM05
import Derived.Test.YtcndknkdhlmdnaaGreatDoorM09
import Derived.Test.YtcndknkdhlmdnaaGreatDoorM08
import Derived.Test.YtcndknkdhlmdnaaGreatDoorM06
import Derived.Deep.DrawnRows
import Derived.Test.YtcndknkdhlmdnaaGreatDoorM01
import Derived.WalkSmall

/-
  Scanning a right expression's form gives its tokens (no program in sight): whole trees.
-/
namespace Go.Proofs.YtcndknkdhlmdnaaGreatDoor

/-- its form gives its tokens, whatever stands behind it -/
def FS (u : Nd) : Prop := ∀ rest, brk rest → Sc (formN u) (toksN u) rest
theorem FS.part {u : Nd} (h : FS u) {rest : List UInt8} (hr : brk rest) : Sc (partL u.kind (formN u)) (partT u.kind (toksN u)) rest := by
  unfold partL partT
  split
  · show Sc (40 :: (formN u ++ [41])) ([tS tOpen] ++ (toksN u ++ [tS tShut])) rest
    exact Sc.cons (sc_sign (by decide) (fun e => by cases e)) (Sc.app (h _ (brk_cons rfl _)) (sc_sign (by decide) (fun e => by cases e)))
  · exact h rest hr
theorem comma_scan : ∀ (ks : List Nd) (rest : List UInt8), (∀ k ∈ ks, FS k) → Sc (commaL (ks.map formN) ++ [41]) (commaT (ks.map toksN) ++ [tS tShut]) rest
  | [], rest, _ => sc_sign (by decide) (fun e => by cases e)
  | k :: ks, rest, h => by
    show Sc (44 :: (32 :: (formN k ++ commaL (ks.map formN))) ++ [41]) (([tS tComma] ++ (toksN k ++ commaT (ks.map toksN))) ++ [tS tShut]) rest
    have hk := h k (List.mem_cons_self ..)
    have hc := comma_scan ks rest fun k hk => h k (List.mem_cons_of_mem _ hk)
    rw [List.append_assoc, List.append_assoc, show 44 :: (32 :: (formN k ++ commaL (ks.map formN))) ++ [41] = 44 :: (32 :: (formN k ++ (commaL (ks.map formN) ++ [41]))) by simp]
    refine Sc.cons (sc_sign (by decide) (fun e => by cases e)) (Sc.skip (by decide) (Sc.app (hk _ ?_) hc))
    cases ks with
    | nil => exact brk_cons rfl _
    | cons k ks => exact brk_cons (c := 44) rfl _
theorem list_scan {ks : List Nd} (hne : ks ≠ []) (rest : List UInt8) (h : ∀ k ∈ ks, FS k) : Sc (listL (ks.map formN)) (listT (ks.map toksN)) rest := by
  cases ks with
  | nil => exact absurd rfl hne
  | cons k ks =>
    have hc := comma_scan ks rest fun k hk => h k (List.mem_cons_of_mem _ hk)
    show Sc ([40] ++ formN k ++ commaL (ks.map formN) ++ [41]) ([tS tOpen] ++ (toksN k ++ (commaT (ks.map toksN) ++ [tS tShut]))) rest
    rw [List.append_assoc, List.append_assoc]
    refine Sc.app (sc_sign (by decide) (fun e => by cases e)) (Sc.app (h k (List.mem_cons_self ..) _ ?_) hc)
    cases ks with
    | nil => exact brk_cons rfl _
    | cons k ks => exact brk_cons (c := 44) rfl _
theorem quote_scan {s w : List UInt8} (hn : nameL s = true) (hw : wordL w = true) (hw' : nameL w = true) {bs rest : List UInt8} {T : List Tk} (h : Sc bs T rest) : Sc (w ++ (32 :: 34 :: (s ++ [34]) ++ bs)) (tW w :: ⟨7, s, 0, 0⟩ :: T) rest := by
  show Sc (w ++ (32 :: (34 :: (s ++ [34])) ++ bs)) ([tW w] ++ ([⟨7, s, 0, 0⟩] ++ T)) rest
  exact Sc.app (sc_word hw' hw (brk_cons rfl _)) (Sc.skip (by decide) (Sc.app (sc_quote hn _) h))
theorem op_scan {s : List UInt8} (h : signL s = true) {c : UInt8} (hc : c.toNat ≤ 32) (rest : List UInt8) : Sc s [opTk s] (c :: rest) := by
  have hb : wordC c = false := by
    have := u8_each (p := fun c => !decide (c.toNat ≤ 32) || !wordC c) (by decide +kernel) c
    rw [decide_eq_true hc] at this
    simpa using this
  have h61 : ∀ d : UInt8, d = 60 → (c :: rest).headD 0 ≠ 61 := fun d _ e => by
    replace e : c = 61 := e
    subst e
    exact absurd hc (by decide)
  rcases sign_cases h with rfl | rfl | rfl | rfl | rfl | rfl | rfl | rfl | rfl
  · exact sc_word (by decide) (by decide) (brk_cons hb _)
  · exact sc_word (by decide) (by decide) (brk_cons hb _)
  · exact sc_sign (by decide) (h61 _)
  · exact sc_least _
  · exact sc_sign (by decide) (h61 _)
  · exact sc_sign (by decide) (h61 _)
  · exact sc_sign (by decide) (h61 _)
  · exact sc_sign (by decide) (h61 _)
  · exact sc_sign (by decide) (h61 _)

theorem form_scan' (N : Nat) : ∀ (u : Nd) (d : Int), SizeOf.sizeOf u < N → rightN u d = true → FS u := by
  induction N with
  | zero => intro u d h; omega
  | succ N ih =>
  intro u d hu h rest hr
  have hkids : ∀ k ∈ u.kids, FS k := fun k hk => by
    have hp := (right_parts h).2.2.2
    rw [rightKs_iff] at hp
    exact ih k (d + 1) (size_kid hu hk) (List.all_eq_true.1 hp k hk)
  obtain ⟨hk, ht, hn, -⟩ := right_parts h
  have hkk := kids_kind hk
  have ef := form_eq u
  have et := toks_eq u
  rcases (show u.kind = 5 ∨ u.kind = 6 ∨ u.kind = 7 ∨ u.kind = 8 ∨ u.kind = 9 ∨ u.kind = 10 ∨ u.kind = 11 ∨ u.kind = 12 ∨ u.kind = 13 ∨ u.kind = 14 ∨ u.kind = 15 by omega) with e | e | e | e | e | e | e | e | e | e | e
  · rw [e] at ef et hn
    replace ef : formN u = showI u.n := ef
    replace et : toksN u = [⟨6, [], u.n, 0⟩] := et
    have hb : 0 ≤ u.n ∧ u.n ≤ 1000000000000000 := by unfold numOk at hn; simpa using hn
    rw [ef, et]
    exact sc_num hb.1 hb.2 hr
  · rw [e] at ef et hn
    replace ef : formN u = dateT u.n := ef
    replace et : toksN u = [⟨5, [], u.n, 0⟩] := et
    have hb : 0 ≤ u.n ∧ u.n ≤ 73048 := by unfold numOk at hn; simpa using hn
    rw [ef, et]
    exact sc_date hb.1 hb.2 hr
  · rw [kids_0 h (by omega)] at ef et
    rw [e] at ef et ht
    replace ef : formN u = u.text.data.toList := ef
    replace et : toksN u = [⟨4, u.text.data.toList, 0, 0⟩] := et
    rw [ef, et]
    exact sc_cur ht hr
  · rw [e] at ef et
    replace ef : formN u = if u.n = 1 then tTrue else tFalse := ef
    replace et : toksN u = [tW (if u.n = 1 then tTrue else tFalse)] := et
    rw [ef, et]
    split
    · exact sc_word (by decide) (by decide) hr
    · exact sc_word (by decide) (by decide) hr
  · rw [e] at ef et ht
    replace ef : formN u = [102, 101, 101, 100, 32, 34] ++ u.text.data.toList ++ [34] := ef
    replace et : toksN u = [tW tFeed, ⟨7, u.text.data.toList, 0, 0⟩] := et
    rw [ef, et]
    have := quote_scan (s := u.text.data.toList) (w := tFeed) ht (by decide) (by decide) (Sc.nil rest)
    rw [List.append_nil] at this
    exact this
  · rw [kids_0 h (by omega)] at ef et
    rw [e] at ef et ht
    replace ef : formN u = u.text.data.toList := ef
    replace et : toksN u = [nameTk u.text.data.toList] := et
    rw [ef, et]
    exact sc_name ht hr
  · have hp := kids_pos h (.inl e)
    rw [e] at ef et ht
    replace ef : formN u = u.text.data.toList ++ listL ((formKs u.kids).map (·.2)) := ef
    replace et : toksN u = [nameTk u.text.data.toList] ++ listT ((toksKs u.kids).map (·.2)) := et
    rw [ef, et, formKs_snd, toksKs_snd]
    refine Sc.app (sc_name ht ?_) (list_scan hp rest hkids)
    obtain ⟨x, hx⟩ := list_head (u.kids.map formN)
    rw [hx]
    exact brk_cons rfl _
  · obtain ⟨s, k, p, rfl, hs, hrk⟩ := right_una h e
    have hK := hkids k (by simp [Nd.kids])
    rw [form_una, et]
    show Sc _ ((if s.data.toList = [45] then tS tMinus else tW tNot) :: partT k.kind (toksN k)) rest
    have hP := hK.part hr
    rcases hs with hs | hs
    · rw [hs, if_pos rfl, if_pos rfl]
      exact Sc.app (T := [tS tMinus]) (sc_sign (by decide) (fun e => by cases e)) hP
    · rw [hs, if_neg (by decide), if_neg (by decide)]
      exact Sc.app (a := tNot) (T := [tW tNot]) (sc_word (by decide) (by decide) (brk_cons rfl _)) (Sc.skip (by decide) hP)
  · obtain ⟨s, k, v, p, rfl, hs, hrk, hrv⟩ := right_bin h e
    have hK := (hkids k (by simp [Nd.kids])).part (rest := 32 :: (s.data.toList ++ 32 :: partL v.kind (formN v)) ++ rest) (brk_cons rfl _)
    have hV := (hkids v (by simp [Nd.kids])).part hr
    rw [form_bin, et]
    show Sc _ (partT k.kind (toksN k) ++ ([opTk s.data.toList] ++ partT v.kind (toksN v))) rest
    exact Sc.app hK (Sc.skip (by decide) (Sc.app (op_scan hs (by decide) _) (Sc.skip (by decide) hV)))
  · obtain ⟨s, a, b, c, p, rfl, hs, -⟩ := right_if h e
    have hA := hkids a (by simp [Nd.kids])
    have hB := hkids b (by simp [Nd.kids])
    have hC := hkids c (by simp [Nd.kids])
    rw [form_if, et]
    show Sc (tIf ++ 32 :: (formN a ++ 32 :: (tThen ++ 32 :: (formN b ++ 32 :: (tElse ++ 32 :: formN c))))) ([tW tIf] ++ (toksN a ++ ([tW tThen] ++ (toksN b ++ ([tW tElse] ++ toksN c))))) rest
    exact Sc.app (sc_word (by decide) (by decide) (brk_cons rfl _)) (Sc.skip (by decide) (Sc.app (hA _ (brk_cons rfl _)) (Sc.skip (by decide) (Sc.app (sc_word (by decide) (by decide) (brk_cons rfl _)) (Sc.skip (by decide)
      (Sc.app (hB _ (brk_cons rfl _)) (Sc.skip (by decide) (Sc.app (sc_word (by decide) (by decide) (brk_cons rfl _)) (Sc.skip (by decide) (hC _ hr))))))))))
  · have hp := kids_pos h (.inr e)
    rw [e] at ef et ht
    replace ef : formN u = [112, 105, 99, 107, 32, 34] ++ u.text.data.toList ++ [34] ++ listL ((formKs u.kids).map (·.2)) := ef
    replace et : toksN u = tW tPick :: ⟨7, u.text.data.toList, 0, 0⟩ :: listT ((toksKs u.kids).map (·.2)) := et
    rw [ef, et, formKs_snd, toksKs_snd]
    have := quote_scan (s := u.text.data.toList) (w := tPick) ht (by decide) (by decide) (list_scan hp rest hkids)
    simpa [tPick] using this
/-- a right expression's form gives its tokens -/
theorem form_scan {u : Nd} {d : Int} (h : rightN u d = true) : FS u := form_scan' _ u d (Nat.lt_succ_self _) h

/-- a text's tokens, if it has any, of a right expression's form -/
theorem form_toks {u : Nd} (h : rightN u 1 = true) {l : List Tk} (hl : scanT (formN u) = .ok l) : ∃ t, Sp (toksN u) l [t] ∧ t.kind = 0 := by
  unfold scanT at hl
  split at hl
  · cases hl
  · have := form_scan h [] brk_nil 0 0 l (by rw [List.append_nil]; exact hl)
    obtain ⟨ts, l', rfl, e, p, k, hs⟩ := this
    replace hs : Except.ok [(⟨0, [], 0, p⟩ : Tk)] = Except.ok (ε := Int × Int) l' := hs
    cases hs
    exact ⟨⟨0, [], 0, p⟩, ⟨ts, rfl, e⟩, rfl⟩
/-- a right expression's form is read as that expression -/
theorem form_back {u : Nd} (h : rightN u 1 = true) {l : List Tk} (hl : scanT (formN u) = .ok l) : ∃ t e, e.kind = 0 ∧ rd .expr 0 l = .ok (t, [e]) ∧ strN false t = strN false u := by
  obtain ⟨e, hs, he⟩ := form_toks h hl
  obtain ⟨t, ht, hst⟩ := form_reads h hs (fun w hw => by unfold isT hd; simp [he])
  exact ⟨t, e, he, ht, hst⟩

end Go.Proofs.YtcndknkdhlmdnaaGreatDoor

/-
  num.Show: a number's text.
-/
namespace Go.Proofs.YtcndknkdhlmdnaaGreatDoor
open Go.RowKit Go.Shelf
set_option maxRecDepth 100000

set_option maxHeartbeats 400000 in
theorem nclamp_any (a : Int) (w : World) : Calls Tryz.prog 189 #[.int .i64 a] w fun e w' => e = .returned (.int .i64 (clampI a)) ∧ w = w' := by
  go_enter Tryz.func189, Tryz.ntmps189
  go_wp2
  go_ret
  exact ⟨nretI (by unfold clampI; (repeat' split) <;> omega), by first | rfl | trivial⟩
theorem ret_ub {a : Int} {b : Nat} {c d : Bool} (h : a = b) (h' : c = d) : Ending.returned (.tuple #[.int .u64 a, .bool c]) = .returned (.tuple #[.int .u64 b, .bool d]) := by rw [h, h']
set_option maxHeartbeats 400000 in
theorem nsplit_any (a : Int) (w : World) : Calls Tryz.prog 165 #[.int .i64 a] w fun e w' => e = .returned (.tuple #[.int .u64 ((clampI a).natAbs : Nat), .bool (decide (clampI a < 0))]) ∧ w = w' := by
  obtain ⟨b1, b2⟩ := clamp_bd a
  go_enter Tryz.func165, Tryz.ntmps165
  go_wp2_with (go_at_call 189; refine (nclamp_any a _).mono ?_; rintro e w' ⟨rfl, rfl⟩)
  go_wp2
  all_goals go_ret2
  · exact ⟨ret_ub (by omega) (decide_eq_true (by omega)).symm, by first | rfl | trivial⟩
  · exact ⟨ret_ub (by omega) (decide_eq_false (by omega)).symm, by first | rfl | trivial⟩

/-- a text that grows at its beginning, and what is left of a number -/
structure Dg (h : Nat) (s : ByteArray) (n : Nat) (w : World) : Prop where
  lt : h < w.heap.size
  c0 : w.cell? ⟨h, 0, none⟩ = some (.string s)
  c1 : w.cell? ⟨h, 1, none⟩ = some (.int .u64 n)
  f0 : w.frozen? ⟨h, 0, none⟩ = false
  f1 : w.frozen? ⟨h, 1, none⟩ = false
theorem enc_dig (n : Nat) : Utf8.encode (48 + (n : Int) % 10) = ⟨#[dig n]⟩ := by
  have h : n % 10 < 10 := Nat.mod_lt _ (by decide)
  have : ∀ d : Fin 10, Utf8.encode (48 + ((d.val : Nat) : Int)) = ⟨#[UInt8.ofNat (48 + d.val)]⟩ := by decide +kernel
  have e : (n : Int) % 10 = ((n % 10 : Nat) : Int) := by omega
  rw [e]
  exact this ⟨n % 10, h⟩
set_option maxHeartbeats 1000000 in
theorem nnext_any (h : Nat) (s : ByteArray) (n : Nat) (hn : n ≤ 1000000000000000) (hs : s.size ≤ 100) (w : World) (D : Dg h s n w) : Calls Tryz.prog 166 #[.pointer (some ⟨h, 0, none⟩)] w fun e w' => e = .returned (.tuple #[]) ∧ Dg h (⟨#[dig n]⟩ ++ s) (n / 10) w' ∧ Below h w w' := by
  obtain ⟨lt, c0, c1, f0, f1⟩ := D
  have mixed : Tryz.prog.follows .mixedOrders = true := by kernel_rfl
  go_enter Tryz.func166, Tryz.ntmps166
  have hz : (Utf8.encode (48 + (n : Int) % 10)).size = 1 := by rw [enc_dig]; rfl
  go_wp2
  go_region
  rw [enc_dig]
  have ND : Dg h (⟨#[dig n]⟩ ++ s) n (w.setCell ⟨h, 0, none⟩ (.string (⟨#[dig n]⟩ ++ s))).drew :=
    ⟨by simpa [World.setCell] using lt, World.cell?_setCell_same' _ _ _ (by rw [c0]; rfl), (World.cell?_setCell_other _ _ _ _ (by simp)).trans c1, (World.frozen?_setCell _ _ _ _).trans f0, (World.frozen?_setCell _ _ _ _).trans f1⟩
  have NB := Lib.hid (show Below h w (w.setCell ⟨h, 0, none⟩ (.string (⟨#[dig n]⟩ ++ s))).drew from (fun b => ⟨b.os, b.tape, b.output, b.size, b.block⟩ : Below h w (w.setCell ⟨h, 0, none⟩ (.string (⟨#[dig n]⟩ ++ s))) → _) ((Below.refl h w).setCell (p := ⟨h, 0, none⟩) (Nat.le_refl _) _))
  generalize (w.setCell ⟨h, 0, none⟩ (.string (⟨#[dig n]⟩ ++ s))).drew = W1 at ND NB ⊢
  clear c0 c1 f0 f1 lt hz
  have HD := Lib.hid ND
  obtain ⟨lt, c0, c1, f0, f1⟩ := ND
  go_wp2
  refine bodyPost_end (results_none rfl _ _ _) rfl ?_
  have ed : Value.int IntKind.u64 ((n : Int) / 10) = .int .u64 ((n / 10 : Nat) : Int) := by congr 1
  rw [ed]
  refine ⟨rfl, ⟨by simpa [World.setCell] using lt, (World.cell?_setCell_other _ _ _ _ (by simp)).trans c0, World.cell?_setCell_same' _ _ _ (by rw [c1]; rfl), (World.frozen?_setCell _ _ _ _).trans f0, (World.frozen?_setCell _ _ _ _).trans f1⟩, ?_⟩
  exact NB.out.setCell (p := ⟨h, 1, none⟩) (Nat.le_refl _) _

theorem decL_app (n : Nat) (h : n < 10 ^ 20) : n ≠ 0 → decL n = decF 20 n [] := fun h0 => decL_eq n h0 h
set_option maxHeartbeats 2000000 in
theorem nShow_any (a : Int) (w : World) : Calls Tryz.prog 139 #[.int .i64 a] w fun e w' => e = .returned (.string ⟨(showI a).toArray⟩) ∧ Below w.heap.size w w' := by
  have E := Lib.hid (showI_eq a)
  obtain ⟨b1, b2⟩ := clamp_bd a
  have eg := enters_of Tryz.func166 (by kernel_rfl) rfl
  go_enter Tryz.func139, Tryz.ntmps139
  go_wp2_with fail
  refine Calls.mono (nsplit_any a _) ?_
  rintro e w' ⟨rfl, rfl⟩
  generalize hc : clampI a = c at b1 b2 E ⊢
  generalize hx : c.natAbs = x at E ⊢
  have hxb : x ≤ 1000000000000000 := by omega
  go_wp2_with fail
  have D0 : Dg w.heap.size ⟨#[]⟩ x (w.alloc (.cells #[.string ⟨#[]⟩, .int .u64 x] 160)) := by
    refine ⟨?_, ?_, ?_, ?_, ?_⟩ <;> simp
  have HB := Lib.hid (nbelow1 w (.cells #[.string ⟨#[]⟩, .int .u64 x] 160))
  have HD := Lib.hid D0
  clear D0
  generalize (w.alloc (.cells #[.string ⟨#[]⟩, .int .u64 x] 160)) = W1 at HB HD ⊢
  go_loopw [19] (fun i wr => ∃ (k : Nat) (s : ByteArray) (n : Nat), i = .int .i64 k ∧ k ≤ 6 ∧ s.size ≤ 6 ∧ s.size = k ∧ n ≤ 1000000000000000 ∧ Hid (n = x / 10 ^ k ∧ lowF (6 - k) n s.data.toList = lowF 6 x []) ∧ Hid (Dg w.heap.size s n wr) ∧ Hid (Below w.heap.size w wr)) (fun i _ => (6 - (intOf i).toNat))
  case atStart => exact ⟨0, ⟨#[]⟩, x, rfl, by omega, by decide, rfl, hxb, ⟨by simp, rfl⟩, HD, HB⟩
  case round =>
    obtain ⟨k, s, n, rfl, hk, hs6, hsk, hn, HI, DR, BR⟩ := hrel
    by_cases hlt : k < 6
    · go_wp2_with fail
      refine Calls.mono (nnext_any w.heap.size s n hn (by omega) _ DR.out) ?_
      rintro e w' ⟨rfl, hd, hb⟩
      have D2 := Lib.hid hd
      have B2 := Lib.hid (BR.out.trans hb)
      clear hd hb
      go_wp2_with fail
      go_roundw
      case rel =>
        refine ⟨k + 1, ⟨#[dig n]⟩ ++ s, n / 10, by go_num, by omega, by rw [ByteArray.size_append]; show 1 + s.size ≤ 6; omega, by rw [ByteArray.size_append]; show 1 + s.size = k + 1; omega, by omega, ⟨?_, ?_⟩, D2, B2⟩
        · rw [HI.out.1, Nat.div_div_eq_div_mul, Nat.pow_succ]
        · rw [← HI.out.2, show 6 - k = (6 - (k + 1)) + 1 by omega, lowF]
          simp
      case measure => simp [intOf]; omega
    · obtain rfl : k = 6 := by omega
      have HX := Lib.hid (show s.data.toList = lowF 6 x [] from HI.out.2)
      have HN := Lib.hid (show n = x / 1000000 from HI.out.1)
      clear HI
      obtain ⟨lt, c0, c1, f0, f1⟩ := DR.out
      go_wp2_with fail
      refine Calls.mono (Tryz.strings_TrimRight_one s 48 (by decide) _ (by omega)) ?_
      rintro e w' ⟨rfl, rfl⟩
      obtain ⟨T, hTe, hTl, hTs⟩ : ∃ T : ByteArray, T = ⟨(Lib.trimRightB s.data.toList 48).toArray⟩ ∧ Hid (T.data.toList = trimZ (lowF 6 x [])) ∧ T.size ≤ 6 := by
        have e1 : Lib.trimRightB s.data.toList 48 = trimZ (lowF 6 x []) := by rw [HX.out]; rfl
        refine ⟨_, rfl, e1, ?_⟩
        show (Lib.trimRightB s.data.toList 48).toArray.size ≤ 6
        rw [e1, List.size_toArray]
        have := trimZ_len (lowF 6 x [])
        rw [lowF_length] at this
        exact this
      rw [show (⟨(Lib.trimRightB s.data.toList (48 : UInt8)).toArray⟩ : ByteArray) = T from hTe.symm]
      clear hTe
      have ND : Hid (Dg w.heap.size ⟨#[]⟩ n (w'.setCell ⟨w.heap.size, 0, none⟩ (.string ⟨#[]⟩))) :=
        ⟨by simpa [World.setCell] using lt, World.cell?_setCell_same' _ _ _ (by rw [c0]; rfl), (World.cell?_setCell_other _ _ _ _ (by simp)).trans c1, (World.frozen?_setCell _ _ _ _).trans f0, (World.frozen?_setCell _ _ _ _).trans f1⟩
      have NB := Lib.hid (BR.out.setCell (p := ⟨w.heap.size, 0, none⟩) (Nat.le_refl _) (.string ⟨#[]⟩))
      clear DR BR HX hs6 hsk hlt hk
      go_wp2_with fail
      generalize (w'.setCell ⟨w.heap.size, 0, none⟩ (.string ⟨#[]⟩)) = W2 at ND NB ⊢
      clear c0 c1 f0 f1 lt
      go_loopw [32] (fun _ wr => ∃ (k : Nat) (s : ByteArray) (f : Nat), k ≤ n ∧ k < 10 ^ f ∧ s.size + f ≤ 18 ∧ Hid ((s = ⟨#[]⟩ ∧ k = n ∧ f = 17) ∨ (0 < s.size ∧ decF 20 k s.data.toList = decL n)) ∧ Hid (Dg w.heap.size s k wr) ∧ Hid (Below w.heap.size w wr)) (fun _ wr => 20 - strLen ((wr.cell? ⟨w.heap.size, 0, none⟩).getD undef))
      case atStart => exact ⟨n, ⟨#[]⟩, 17, Nat.le_refl _, by omega, by decide, .inl ⟨rfl, rfl, rfl⟩, ND, NB⟩
      case round =>
        obtain ⟨k, s, f, hkn, hk, hsf, HI, DR, BR⟩ := hrel
        obtain ⟨lt, c0, c1, f0, f1⟩ := DR.out
        by_cases he : s = ⟨#[]⟩
        · have HE : Hid (k = n ∧ f = 17) := by
            rcases HI.out with h | h
            · exact h.2
            · rw [he] at h; exact absurd h.1 (by decide)
          subst he
          clear HI
          go_wp2_with fail
          refine Calls.mono (nnext_any w.heap.size ⟨#[]⟩ k (by omega) (by decide) _ DR.out) ?_
          rintro e w3 ⟨rfl, hd, hb⟩
          have D2 := Lib.hid hd
          have B2 := Lib.hid (BR.out.trans hb)
          clear hd hb
          go_wp2_with fail
          go_roundw
          case rel =>
            obtain ⟨rfl, rfl⟩ := HE.out
            exact ⟨k / 10, ⟨#[dig k]⟩ ++ ⟨#[]⟩, 16, by omega, by omega, by rw [ByteArray.size_append]; show 1 + 0 + 16 ≤ 18; decide, .inr ⟨by rw [ByteArray.size_append]; show 0 < 1 + 0; decide, rfl⟩, D2, B2⟩
          case measure =>
            rw [D2.out.c0, c0]
            show 20 - (⟨#[dig k]⟩ ++ ⟨#[]⟩ : ByteArray).size < 20 - 0
            rw [ByteArray.size_append]
            show 20 - (1 + 0) < 20 - 0
            decide
        · have h0 : 0 < s.size := by
            rcases Nat.eq_zero_or_pos s.size with h | h
            · exact absurd (by cases s with | mk d => simp only [ByteArray.mk.injEq]; exact Array.eq_empty_of_size_eq_zero h) he
            · exact h
          have HD : Hid (decF 20 k s.data.toList = decL n) := by
            rcases HI.out with h | h
            · exact absurd h.1 he
            · exact h.2
          have e1 : ¬ s.toList = [] := fun e => by
            rw [Lib.toList_data] at e; have := size_list s; rw [e] at this; simp at this; omega
          have e2 : s.toList.isEmpty = false := by simpa using e1
          clear he HI
          by_cases hz : k = 0
          · subst hz
            have E3 : Hid (s.data.toList = decL (x / 1000000)) := by
              show _ = _
              have := HD.out
              rw [decF_zero] at this
              rw [this, HN.out]
            have tn := tail_nil x
            have hsl : s.size ≤ 18 := by omega
            clear hk hsf HD
            by_cases ht : T.toList = []
            · have EE : Hid (showI a = (if c < 0 then [45] else []) ++ s.data.toList) := by
                show _ = _
                rw [E.out, E3.out]
                unfold showU
                have : trimZ (lowF 6 x []) = [] := by rw [← hTl.out, ← Lib.toList_data, ht]
                simp only [if_pos this, List.append_nil]
              have ht2 : T.toList.isEmpty = true := by rw [ht]; rfl
              clear tn
              by_cases hcn : c < 0
              · have ER := Lib.hid (str_of (s := (⟨#[45]⟩ : ByteArray) ++ s) (show showI a = _ by rw [EE.out, if_pos hcn]; simp))
                go_wp2_with fail
                go_ret
                exact ⟨by rw [ER.out]; rfl, BR.out⟩
              · have ER := Lib.hid (str_of (s := s) (show showI a = _ by rw [EE.out, if_neg hcn]; rfl))
                go_wp2_with fail
                go_ret
                exact ⟨by rw [ER.out]; rfl, BR.out⟩
            · have EE : Hid (showI a = (if c < 0 then [45] else []) ++ (s.data.toList ++ 46 :: T.data.toList)) := by
                show _ = _
                rw [E.out, E3.out, hTl.out]
                unfold showU
                have : ¬ trimZ (lowF 6 x []) = [] := by rw [← hTl.out, ← Lib.toList_data]; exact ht
                simp only [if_neg this]
              have ht2 : T.toList.isEmpty = false := by simpa using ht
              clear tn
              by_cases hcn : c < 0
              · have ER := Lib.hid (str_of (s := (⟨#[45]⟩ : ByteArray) ++ (s ++ (⟨#[46]⟩ ++ T))) (show showI a = _ by rw [EE.out, if_pos hcn]; simp))
                go_wp2_with fail
                go_ret
                exact ⟨by rw [ER.out]; rfl, BR.out⟩
              · have ER := Lib.hid (str_of (s := s ++ (⟨#[46]⟩ ++ T)) (show showI a = _ by rw [EE.out, if_neg hcn]; simp))
                go_wp2_with fail
                go_ret
                exact ⟨by rw [ER.out]; rfl, BR.out⟩
          · cases f with
            | zero => omega
            | succ f =>
            have hk' : k / 10 < 10 ^ f := by rw [Nat.pow_succ] at hk; omega
            have hz2 : k < 10 ^ 20 := by omega
            clear hk
            go_wp2_with fail
            refine Calls.mono (nnext_any w.heap.size s k (by omega) (by omega) _ DR.out) ?_
            rintro e w3 ⟨rfl, hd, hb⟩
            have D2 := Lib.hid hd
            have B2 := Lib.hid (BR.out.trans hb)
            clear hd hb
            go_wp2_with fail
            go_roundw
            case rel =>
              refine ⟨k / 10, ⟨#[dig k]⟩ ++ s, f, by omega, hk', by rw [ByteArray.size_append]; show 1 + s.size + f ≤ 18; omega, .inr ⟨by rw [ByteArray.size_append]; show 0 < 1 + s.size; omega, ?_⟩, D2, B2⟩
              rw [← HD.out, decF_step k _ hz hz2]
              simp
            case measure =>
              rw [D2.out.c0, c0]
              show 20 - (⟨#[dig k]⟩ ++ s : ByteArray).size < 20 - s.size
              rw [ByteArray.size_append]
              show 20 - (1 + s.size) < 20 - s.size
              omega

end Go.Proofs.YtcndknkdhlmdnaaGreatDoor

/-
  The walks of a date's text, written: of the program and of the document's answer.
-/
namespace Go.Proofs.YtcndknkdhlmdnaaGreatDoor
open Go.RowKit
set_option maxRecDepth 100000

theorem bytes_ext {a b : ByteArray} (h : a.data.toList = b.data.toList) : a = b := by
  cases a; cases b; simp only [ByteArray.mk.injEq]; exact Array.toList_inj.1 h

/-- the library's table of powers is as it was laid -/
def Tab (w : World) : Prop := Lib.TabIs Tryz.prog w "internal/strconv.uint64pow10" .u64 Lib.pow10Tab
theorem Tab.below {w w' : World} (h : Tab w) (hb : Below w.heap.size w w') : Tab w' := by
  have hg : Tryz.prog.globalNamed "internal/strconv.uint64pow10" = some 3 := by kernel_rfl
  unfold Tab Lib.TabIs World.var? at *
  rw [hg] at h ⊢
  simp only [Option.bind_some] at h ⊢
  have hlt : 3 < w.heap.size := by
    rcases Nat.lt_or_ge 3 w.heap.size with h' | h'
    · exact h'
    · rw [Array.getElem?_eq_none h'] at h; cases h
  rw [hb.block _ hlt]
  exact h

theorem below_grows (w : World) (k : Nat) (os : Array Obj) : Below w.heap.size w (Sort.grow (w.drewN k) os) :=
  ⟨rfl, rfl, rfl, by rw [Sort.size_grow]; exact Nat.le_add_right _ _, fun i hi => Sort.heap_grow_old (w.drewN k) os hi⟩

theorem itoa_any (n : Int) (w : World) (ht : Hid (Tab w)) (h0 : -9223372036854775808 ≤ n) (h1 : n ≤ 9223372036854775807) :
    Calls Tryz.prog 170 #[.int .i64 n] w fun e w' => e = .returned (.string ⟨(Lib.itoa n).toArray⟩) ∧ Below w.heap.size w w' := by
  refine (Tryz.strconv_Itoa n h0 h1 w ht.out).mono ?_
  rintro e w' ⟨rfl, k, os, rfl⟩
  exact ⟨rfl, below_grows w k os⟩

set_option maxHeartbeats 400000 in
theorem show1_any (n : Int) (w : World) (ht : Hid (Tab w)) (h0 : 0 ≤ n) (h1 : n < 100) :
    Calls Tryz.prog 169 #[.int .i64 n] w fun e w' => e = .returned (.string ⟨(Cal.dig2 n.toNat).toArray⟩) ∧ Below w.heap.size w w' := by
  have hlen := Cal.itoa3_len h0 h1
  have hcut : (ByteArray.mk (Lib.itoa (100 + n)).toArray).extract 1 3 = ⟨(Cal.dig2 n.toNat).toArray⟩ := by
    rw [← Cal.itoa3 h0 h1]
    refine bytes_ext ?_
    rw [Lib.extract_data]
    rw [List.take_of_length_le (by simp [hlen])]
  have HC := Lib.hid hcut
  clear hcut
  go_enter Tryz.func169, Tryz.ntmps169
  go_wp2_with (go_at_call 170; refine (itoa_any _ _ ht (by omega) (by omega)).mono ?_; rintro e w' ⟨rfl, hb⟩)
  go_ret
  exact ⟨congrArg (fun x => Ending.returned (.string x)) HC.out, hb⟩

theorem dig2_toNat {n : Int} (h0 : 0 ≤ n) (h1 : n < 100) : (UInt8.ofNat (48 + n.toNat / 10)).toNat = 48 + n.toNat / 10 ∧ (UInt8.ofNat (48 + n.toNat % 10)).toNat = 48 + n.toNat % 10 := by
  constructor <;> simp only [UInt8.toNat_ofNat'] <;> omega
theorem two_back {n : Int} (h0 : 0 ≤ n) (h1 : n < 100) (w : World) :
    (convert 46 9 (.slice (some ⟨w.heap.size, 0, none⟩) 2 2)).run Tryz.prog (w.alloc (.cells #[.int .u8 (48 + n / 10), .int .u8 (48 + n % 10)] 5)) = .ok (.string ⟨(Cal.dig2 n.toNat).toArray⟩) (w.alloc (.cells #[.int .u8 (48 + n / 10), .int .u8 (48 + n % 10)] 5)) := by
  refine run_convert_bytes_back _ 46 9 5 ⟨w.heap.size, 0, none⟩ 2 (Cal.dig2 n.toNat) (by kernel_rfl) (by kernel_rfl) (by kernel_rfl) ?_
  obtain ⟨a, b⟩ := dig2_toNat h0 h1
  intro j hj
  match j, hj with
  | 0, _ => rw [show ((Cal.dig2 n.toNat)[0]).toNat = 48 + n.toNat / 10 from a]; simp [Addr.add]; omega
  | 1, _ => rw [show ((Cal.dig2 n.toNat)[1]).toNat = 48 + n.toNat % 10 from b]; simp [Addr.add]; omega

set_option maxHeartbeats 400000 in
theorem two_any (n : Int) (w : World) (h0 : 0 ≤ n) (h1 : n < 100) :
    Calls Tryz.prog 110 #[.int .i64 n] w fun e w' => e = .returned (.string ⟨(Cal.dig2 n.toNat).toArray⟩) ∧ Below w.heap.size w w' := by
  have hb := two_back h0 h1 w
  go_enter Tryz.func110, Tryz.ntmps110
  go_wp2
  go_ret
  exact ⟨rfl, below1 _ _⟩

/-- a date's text, as the program's string -/
def textS (y m d : Int) : ByteArray := ⟨(Cal.text y m d).toArray⟩

set_option maxHeartbeats 1000000 in
theorem show_ok (y m d k : Int) (w : World) (ht : Tab w) (h : Cal.ok y m d) (hk : Cal.num y m d = k) :
    Calls Tryz.prog 140 #[.int .i64 k] w fun e w' => e = .returned (.tuple #[.string (textS y m d), .int .i64 0]) ∧ Below w.heap.size w w' := by
  have H := Lib.hid h
  have K := Lib.hid hk
  clear hk
  obtain ⟨h1, h2, h3, h4, h5, h6⟩ := h
  have ml := Cal.mlen_bd y m
  have HB : Hid (Below w.heap.size w w ∧ Tab w) := ⟨Below.refl _ _, ht⟩
  clear ht
  have hi := Lib.hid (Cal.itoa4 (y := y) (by omega) (by omega))
  have l4 : (Lib.itoa y).length = 4 := by rw [hi.out]; rfl
  have l2 : (Cal.dig2 m.toNat).length = 2 := rfl
  have l2' : (Cal.dig2 d.toNat).length = 2 := rfl
  have HT : Hid ((ByteArray.mk (Lib.itoa y).toArray ++ ByteArray.mk #[45] ++ ByteArray.mk (Cal.dig2 m.toNat).toArray ++ ByteArray.mk #[45] ++ ByteArray.mk (Cal.dig2 d.toNat).toArray) = textS y m d) := by
    refine bytes_ext ?_
    rw [hi.out]
    simp [textS, Cal.text, ByteArray.data_append]
  go_enter Tryz.func140, Tryz.ntmps140
  go_wp2_with (first
    | (go_at_call 168; refine (parts_ok _ _ _ _ _ H.out K.out).mono ?_; rintro e w' ⟨rfl, hb⟩; replace HB := Lib.hid (And.intro (HB.out.1.trans (hb.mono HB.out.1.size)) (HB.out.2.below hb)); clear hb)
    | (go_at_call 170; refine (itoa_any _ _ (Lib.hid HB.out.2) (by omega) (by omega)).mono ?_; rintro e w' ⟨rfl, hb⟩; replace HB := Lib.hid (And.intro (HB.out.1.trans (hb.mono HB.out.1.size)) (HB.out.2.below hb)); clear hb)
    | (go_at_call 169; refine (show1_any _ _ (Lib.hid HB.out.2) (by omega) (by omega)).mono ?_; rintro e w' ⟨rfl, hb⟩; replace HB := Lib.hid (And.intro (HB.out.1.trans (hb.mono HB.out.1.size)) (HB.out.2.below hb)); clear hb))
  go_ret2
  exact ⟨congrArg (fun x => Ending.returned (.tuple #[.string x, .int .i64 0])) HT.out, HB.out.1⟩

set_option maxHeartbeats 400000 in
theorem show_bad (k : Int) (w : World) (h : k < 0 ∨ 73048 < k) :
    Calls Tryz.prog 140 #[.int .i64 k] w fun e w' => e = .returned (.tuple #[.string ⟨#[]⟩, .int .i64 30]) ∧ Below w.heap.size w w' := by
  have H := Lib.hid h
  clear h
  go_enter Tryz.func140, Tryz.ntmps140
  go_wp2_with (go_at_call 168; refine (parts_bad _ _ H.out).mono ?_; rintro e w' ⟨rfl, hb⟩)
  go_ret2
  exact ⟨rfl, hb⟩

set_option maxHeartbeats 1000000 in
theorem rshow_ok (y m d k : Int) (w : World) (h : Cal.ok y m d) (hk : Cal.num y m d = k) :
    Calls Tryz.prog 69 #[.int .i64 k] w fun e w' => e = .returned (.tuple #[.string (textS y m d), .int .i64 0]) ∧ Below w.heap.size w w' := by
  have H := Lib.hid h
  have K := Lib.hid hk
  clear hk
  obtain ⟨h1, h2, h3, h4, h5, h6⟩ := h
  have ml := Cal.mlen_bd y m
  have HB : Hid (Below w.heap.size w w) := Below.refl _ _
  have l2 : (Cal.dig2 m.toNat).length = 2 := rfl
  have l2' : (Cal.dig2 d.toNat).length = 2 := rfl
  have l4 : (Cal.dig2 (y / 100).toNat).length = 2 := rfl
  have l4' : (Cal.dig2 (y % 100).toNat).length = 2 := rfl
  have HT : Hid ((ByteArray.mk (Cal.dig2 (y / 100).toNat).toArray ++ ByteArray.mk (Cal.dig2 (y % 100).toNat).toArray ++ ByteArray.mk #[45] ++ ByteArray.mk (Cal.dig2 m.toNat).toArray ++ ByteArray.mk #[45] ++ ByteArray.mk (Cal.dig2 d.toNat).toArray) = textS y m d) := by
    refine bytes_ext ?_
    rw [show (y / 100).toNat = y.toNat / 100 by omega, show (y % 100).toNat = y.toNat % 100 by omega]
    simp [textS, Cal.text, ByteArray.data_append]
  go_enter Tryz.func69, Tryz.ntmps69
  go_wp2_with (first
    | (go_at_call 109; refine (rparts_ok _ _ _ _ _ H.out K.out).mono ?_; rintro e w' ⟨rfl, hb⟩; replace HB := Lib.hid (HB.out.trans (hb.mono HB.out.size)); clear hb)
    | (go_at_call 110; refine (two_any _ _ (by omega) (by omega)).mono ?_; rintro e w' ⟨rfl, hb⟩; replace HB := Lib.hid (HB.out.trans (hb.mono HB.out.size)); clear hb))
  go_ret2
  exact ⟨congrArg (fun x => Ending.returned (.tuple #[.string x, .int .i64 0])) HT.out, HB.out⟩

set_option maxHeartbeats 400000 in
theorem rshow_bad (k : Int) (w : World) (h : k < 0 ∨ 73048 < k) :
    Calls Tryz.prog 69 #[.int .i64 k] w fun e w' => e = .returned (.tuple #[.string ⟨#[]⟩, .int .i64 30]) ∧ Below w.heap.size w w' := by
  have H := Lib.hid h
  clear h
  go_enter Tryz.func69, Tryz.ntmps69
  go_wp2_with (go_at_call 109; refine (rparts_bad _ _ H.out).mono ?_; rintro e w' ⟨rfl, hb⟩)
  go_ret2
  exact ⟨rfl, hb⟩

end Go.Proofs.YtcndknkdhlmdnaaGreatDoor
