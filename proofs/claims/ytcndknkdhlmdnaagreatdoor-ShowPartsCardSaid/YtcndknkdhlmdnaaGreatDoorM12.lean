/-
  Texts that the statements' proofs rest on, one behind another: ParD, SynD, SynE.
-/
import Derived.Test.YtcndknkdhlmdnaaGreatDoorM05
import Derived.Test.YtcndknkdhlmdnaaGreatDoorM11
import Derived.Test.YtcndknkdhlmdnaaGreatDoorM01

/-
  usanceref07's Depth.
-/
namespace Go.Proofs.YtcndknkdhlmdnaaGreatDoor
open Go.RowKit
set_option maxRecDepth 100000

theorem depthKs_step (ks : List Nd) (k : Nat) (h : k < ks.length) : depthKs (ks.drop k) = max (depthN ks[k]) (depthKs (ks.drop (k + 1))) := by
  rw [List.drop_eq_getElem_cons h, depthKs]
theorem depthKs_end (ks : List Nd) (k : Nat) (h : ¬ k < ks.length) : depthKs (ks.drop k) = 0 := by
  rw [List.drop_eq_nil_of_le (by omega), depthKs]

set_option maxHeartbeats 4000000 in
theorem rDepth_any' (N : Nat) : ∀ (t : Nd), SizeOf.sizeOf t < N → ∀ (a : Option Addr) (cap n₀ : Nat) (w : World), t.hold n₀ w a cap → n₀ ≤ w.heap.size → depthN t ≤ 1000 →
    Calls Tryz.prog 160 #[.agg #[.int .i64 t.kind, .string t.text, .int .i64 t.n, .slice a t.kids.length cap, .int .i64 t.place]] w fun e w' => e = .returned (.int .i64 (depthN t)) ∧ Below w.heap.size w w' := by
  induction N with
  | zero => intro t ht; omega
  | succ N ih =>
  intro t ht
  cases t with
  | mk kind s n ks p =>
  intro a cap n₀ w hh hn h0
  show Calls Tryz.prog 160 #[.agg #[.int .i64 kind, .string s, .int .i64 n, .slice a ks.length cap, .int .i64 p]] w _
  have hkl : ks.length ≤ cap ∧ cap ≤ maxLen := ⟨hh.2.2.2.2.1, hh.2.2.2.2.2.1⟩
  have hm := hkl
  unfold maxLen at hm
  have HH := Lib.hid hh
  have IH := Lib.hid ih
  have HT := Lib.hid ht
  clear hh ih ht
  have E := Lib.hid (show depthN (.mk kind s n ks p) = depthKs ks + 1 by rw [depthN])
  have h9 : depthKs ks ≤ 999 := by rw [E.out] at h0; omega
  clear h0
  go_enter Tryz.func160, Tryz.ntmps160
  go_wp2
  obtain ⟨W1, hW1⟩ : ∃ W1, W1 = w.alloc (.cells #[.int .i64 kind, .string s, .int .i64 n, .slice a ks.length cap, .int .i64 p] 24) := ⟨_, rfl⟩
  have HB := Lib.hid (show Below w.heap.size w W1 from hW1 ▸ nbelow1 _ _)
  have hsz : W1.heap.size = w.heap.size + 1 := by rw [hW1]; simp
  have D3 := Lib.hid (show W1.cell? ⟨w.heap.size, 3, none⟩ = some (.slice a ks.length cap) from hW1 ▸ (nbox w _ _ _ _ _).2.2.2.1)
  rw [← hW1]
  clear hW1
  go_loopw [3, 4] (fun x i wr => ∃ (k y : Nat), k ≤ ks.length ∧ i = .int .i64 k ∧ x = .int .i64 y ∧ y ≤ 999 ∧ Hid (max y (depthKs (ks.drop k)) = depthKs ks) ∧ Hid (Below W1.heap.size W1 wr)) (fun _ i _ => (ks.length - (intOf i).toNat))
  case atStart => exact ⟨0, 0, Nat.zero_le _, rfl, rfl, by omega, by show _ = _; rw [Nat.zero_max]; rfl, Below.refl _ _⟩
  case round =>
    obtain ⟨k, y, hk, rfl, rfl, hy0, HI, HBr⟩ := hrel
    have d3 := (HBr.out.cell (p := ⟨w.heap.size, 3, none⟩) (by show w.heap.size < W1.heap.size; omega)).trans D3.out
    have HW := Lib.hid (HB.out.trans (HBr.out.mono HB.out.size))
    by_cases hlt : k < ks.length
    · obtain ⟨b, off, a', cap', A⟩ := (HH.out.below (HW.out.mono hn)).kid k hlt
      obtain ⟨rfl, hb, c0, c1, c2, c3, c4, hk1⟩ := A
      have HK := Lib.hid hk1
      clear hk1
      have S := Lib.hid (depthKs_step ks k hlt)
      have hd : depthN ks[k] ≤ 999 := by
        have := HI.out
        rw [S.out] at this
        omega
      go_wp2_with (go_at_call 160; refine (IH.out _ (nkid_size hlt HT.out) a' cap' n₀ _ HK.out (Nat.le_trans hn HW.out.size) (by omega)).mono ?_; rintro e w' ⟨rfl, hb⟩)
      go_roundw
      case rel => exact ⟨k + 1, max y (depthN ks[k]), by omega, by go_num, by go_num, by omega, by show _ = _; rw [← HI.out, S.out, Nat.max_assoc], HBr.out.trans (hb.mono HBr.out.size)⟩
      case measure => simp [intOf]; omega
    · have S := Lib.hid (depthKs_end ks k hlt)
      go_wp2
      go_ret
      exact ⟨nretI (by rw [E.out, ← HI.out, S.out]; omega), HW.out⟩
theorem rDepth_any (t : Nd) (a : Option Addr) (cap n₀ : Nat) (w : World) (hh : t.hold n₀ w a cap) (hn : n₀ ≤ w.heap.size) (hd : depthN t ≤ 1000) :
    Calls Tryz.prog 160 #[.agg #[.int .i64 t.kind, .string t.text, .int .i64 t.n, .slice a t.kids.length cap, .int .i64 t.place]] w fun e w' => e = .returned (.int .i64 (depthN t)) ∧ Below w.heap.size w w' :=
  rDepth_any' _ t (Nat.lt_succ_self _) a cap n₀ w hh hn hd

end Go.Proofs.YtcndknkdhlmdnaaGreatDoor

/-
  A right expression's tokens are read as that expression: signs and words (no program in sight).
-/
namespace Go.Proofs.YtcndknkdhlmdnaaGreatDoor

section
variable {nest : Nat} {l x : List Tk} {u : Nd}
theorem Reads.climb1 (h : Reads (.chain 1) (nest + 1) l x u) (h3 : isT tIf l = false) (hx : StopE x) (hn : nest + 1 ≤ 300) : Reads .expr nest l x u := (Reads.chain (lv := 0) h (hx.any (signs_ops 0))).expr h3 hn
theorem Reads.climbN (h : Reads .not (nest + 1) l x u) (h3 : isT tIf l = false) (hx : StopE x) (hn : nest + 1 ≤ 300) : Reads .expr nest l x u := (Reads.chain (lv := 1) h (hx.any (signs_ops 1))).climb1 h3 hx hn
theorem Reads.climb2 (h : Reads (.chain 2) (nest + 1) l x u) (h2 : isT tNot l = false) (h3 : isT tIf l = false) (hx : StopE x) (hn : nest + 1 ≤ 300) : Reads .expr nest l x u := (h.not h2 (hx.any (by decide))).climbN h3 hx hn
theorem Reads.climb3 (h : Reads (.chain 3) (nest + 1) l x u) (h2 : isT tNot l = false) (h3 : isT tIf l = false) (hx : StopE x) (hn : nest + 1 ≤ 300) : Reads .expr nest l x u := (Reads.chain (lv := 2) h (hx.any (signs_ops 2))).climb2 h2 h3 hx hn
theorem Reads.climbU (h : Reads .unary (nest + 1) l x u) (h2 : isT tNot l = false) (h3 : isT tIf l = false) (hx : StopE x) (hn : nest + 1 ≤ 300) : Reads .expr nest l x u := (Reads.chain (lv := 3) h (hx.any (signs_ops 3))).climb3 h2 h3 hx hn
end
theorem op_is {s : List UInt8} {T l x : List Tk} (h : Sp (opTk s :: T) l x) : (∀ v, isT v l = (s == v)) ∧ Sp T (stepL l) x ∧ (hd l).text = s := by
  unfold opTk at h
  split at h
  · exact ⟨h.word, h.wordStep, h.head.2.1⟩
  · exact ⟨h.sign, h.signStep, h.head.2.1⟩
theorem bin_reads {lv n : Nat} {l y x : List Tk} {k w u : Nd} {s : List UInt8} (hk : Reads (lower lv) n l y k) (hy : anyT (signsT lv) y = true) (hs : (hd y).text = s) (hw : Reads (lower lv) n (stepL y) x w) (hx : anyT (signsT lv) x = false)
    (hu : u.kind = 13 ∧ u.text.data.toList = s ∧ u.n = 0 ∧ u.kids = [k, w]) (hd : depthN u ≤ 100) : Reads (.chain lv) n l x u := by
  obtain ⟨tk, rk, sk⟩ := hk
  obtain ⟨tw, rw', sw⟩ := hw
  have hsm : strN false (mkN 13 (Proofs.YtcndknkdhlmdnaaGreatDoor.hd y).text 0 [tk, tw] (Proofs.YtcndknkdhlmdnaaGreatDoor.hd y).pos) = strN false u := strN_of hu.1 (hu.2.1.trans hs.symm) hu.2.2.1 (by rw [hu.2.2.2, List.map_cons, List.map_cons, sk, sw]; rfl)
  refine ⟨_, ?_, hsm⟩
  rw [rd_eq]
  show (rd (lower lv) n l).then _ = _
  rw [rk, then_ok, rd_eq]
  show (if _ then _ else _) = _
  rw [if_pos hy, rw', then_ok, made_ok (by have := depth_same hsm; omega), then_ok, rd_eq]
  show (if _ then _ else _) = _
  rw [hx, if_neg (by decide)]
theorem cmp_reads {n : Nat} {l y x : List Tk} {k w u : Nd} {s : List UInt8} (hl : isT tNot l = false) (hk : Reads (.chain 2) n l y k) (hy : anyT cmpT y = true) (hs : (hd y).text = s) (hw : Reads (.chain 2) n (stepL y) x w)
    (hu : u.kind = 13 ∧ u.text.data.toList = s ∧ u.n = 0 ∧ u.kids = [k, w]) (hd : depthN u ≤ 100) : Reads .not n l x u := by
  obtain ⟨tk, rk, sk⟩ := hk
  obtain ⟨tw, rw', sw⟩ := hw
  have hsm : strN false (mkN 13 (Proofs.YtcndknkdhlmdnaaGreatDoor.hd y).text 0 [tk, tw] (Proofs.YtcndknkdhlmdnaaGreatDoor.hd y).pos) = strN false u := strN_of hu.1 (hu.2.1.trans hs.symm) hu.2.2.1 (by rw [hu.2.2.2, List.map_cons, List.map_cons, sk, sw]; rfl)
  refine ⟨_, ?_, hsm⟩
  rw [rd_eq]
  show (if _ then _ else _) = _
  rw [hl, if_neg (by decide), rk, then_ok, if_pos hy, rw', then_ok, made_ok (by have := depth_same hsm; omega)]
theorem sign_cases {s : List UInt8} (h : signL s = true) : s = [111, 114] ∨ s = [97, 110, 100] ∨ s = [60] ∨ s = [60, 61] ∨ s = [61] ∨ s = [43] ∨ s = [45] ∨ s = [42] ∨ s = [47] := by
  have := List.contains_iff_mem.1 h
  simpa [signTab] using this

theorem expr_reads (N : Nat) : ∀ (u : Nd) (d : Int), SizeOf.sizeOf u < N → rightN u d = true → 1 ≤ d → RE u ∧ RA u := by
  induction N with
  | zero => intro u d h; omega
  | succ N ih =>
  intro u d hsz h hd0
  have hkk : ∀ k ∈ u.kids, SizeOf.sizeOf k < N := fun k hk => size_kid hsz hk
  have hdep := right_depth u d h
  have hkr : ∀ k ∈ u.kids, rightN k (d + 1) = true := by
    have h4 := (right_parts h).2.2.2
    intro k hk
    obtain ⟨i, hi, rfl⟩ := List.getElem_of_mem hk
    rcases hc : rightN u.kids[i] (d + 1) with _ | _
    · rw [rightKs_not hi hc] at h4; cases h4
    · rfl
  have ihk : ∀ k ∈ u.kids, RE k ∧ RA k := fun k hk => ih k (d + 1) (hkk k hk) (hkr k hk) (by omega)
  have hA : RA u := atom_reads h hd0 fun k hk => (ihk k hk).1
  refine ⟨?_, hA⟩
  intro nest l x hl hx hn
  have hxo := hx tOpen (by decide)
  have hdk := depth_kids u
  by_cases hw : wrapK u.kind = true
  case neg =>
    have hp : Sp (partT u.kind (toksN u)) l x := by unfold partT; rw [if_neg hw]; exact hl
    obtain ⟨h1, h2, h3⟩ := part_head h hp
    exact (hA hw (nest + 1) l x hl hxo (by omega)).climb h1 h2 h3 hx (by omega)
  have hk3 : u.kind = 12 ∨ u.kind = 13 ∨ u.kind = 14 := by
    unfold wrapK at hw
    simpa [or_assoc] using hw
  rcases hk3 with e | e | e
  · obtain ⟨s, k, p, rfl, hs, hrk⟩ := right_una h e
    have hke := ihk k (List.mem_cons_self ..)
    have d1 := depth_kid [k] k (List.mem_cons_self ..)
    replace hdk : depthN (.mk 12 s 0 [k] p) = depthKs [k] + 1 := hdk
    have hl' : Sp ((if s.data.toList = [45] then tS tMinus else tW tNot) :: partT k.kind (toksN k)) l x := by
      rw [toksN, toksKs_map] at hl; exact hl
    rcases hs with hs | hs
    · rw [if_pos hs] at hl'
      have hp := hl'.signStep
      obtain ⟨h1, h2, h3⟩ := part_head hrk hp
      obtain ⟨t, rt, st⟩ := (part_reads hke.1 hke.2 (nest := nest + 1 + 1) hp hxo (by omega)).unary h1
      have hsm : strN false (mkN 12 (hd l).text 0 [t] (hd l).pos) = strN false (.mk 12 s 0 [k] p) := strN_of rfl (by rw [hl'.head.2.1]; exact hs) rfl (by rw [List.map_cons, st]; rfl)
      have hR : Reads .unary (nest + 1) l x (.mk 12 s 0 [k] p) := by
        refine ⟨_, ?_, hsm⟩
        rw [rd_eq]
        show (if _ then _ else _) = _
        rw [if_pos (by rw [hl'.sign]; decide), nest_ok (by omega), rt, then_ok]
        exact made_ok (by have := depth_same hsm; omega)
      exact hR.climbU (by rw [hl'.sign]; decide) (by rw [hl'.sign]; decide) hx (by omega)
    · rw [if_neg (by rw [hs]; decide)] at hl'
      have hp := hl'.wordStep
      obtain ⟨h1, h2, h3⟩ := part_head hrk hp
      obtain ⟨t, rt, st⟩ := Reads.not (Reads.chain (lv := 2) (Reads.chain (lv := 3) ((part_reads hke.1 hke.2 (nest := nest + 1 + 1) hp hxo (by omega)).unary h1) (hx.any (signs_ops 3))) (hx.any (signs_ops 2))) h2 (hx.any (by decide))
      have hsm : strN false (mkN 12 (hd l).text 0 [t] (hd l).pos) = strN false (.mk 12 s 0 [k] p) := strN_of rfl (by rw [hl'.head.2.1]; exact hs) rfl (by rw [List.map_cons, st]; rfl)
      have hR : Reads .not (nest + 1) l x (.mk 12 s 0 [k] p) := by
        refine ⟨_, ?_, hsm⟩
        rw [rd_eq]
        show (if _ then _ else _) = _
        rw [if_pos (by rw [hl'.word]; decide), nest_ok (by omega), rt, then_ok]
        exact made_ok (by have := depth_same hsm; omega)
      exact hR.climbN (by rw [hl'.word]; decide) hx (by omega)
  · obtain ⟨s, k, w, p, rfl, hs, hrk, hrw⟩ := right_bin h e
    have hke := ihk k (by simp [Nd.kids])
    have hwe := ihk w (by simp [Nd.kids])
    have d1 := depth_kid [k, w] k (by simp)
    have d2 := depth_kid [k, w] w (by simp)
    replace hdk : depthN (.mk 13 s 0 [k, w] p) = depthKs [k, w] + 1 := hdk
    have hl' : Sp (partT k.kind (toksN k) ++ opTk s.data.toList :: partT w.kind (toksN w)) l x := by
      rw [toksN, toksKs_map] at hl; exact hl
    obtain ⟨y, g1, g2⟩ := hl'.app
    obtain ⟨hy, g3, hyt⟩ := op_is g2
    obtain ⟨h1, h2, h3⟩ := part_head hrk g1
    obtain ⟨i1, i2, i3⟩ := part_head hrw g3
    have hyo : isT tOpen y = false := by
      rw [hy, beq_eq_false_iff_ne]
      rintro e
      rw [e] at hs; exact absurd hs (by decide)
    have ra := (part_reads hke.1 hke.2 (nest := nest + 1) g1 hyo (by omega)).unary h1
    have rb := (part_reads hwe.1 hwe.2 (nest := nest + 1) g3 hxo (by omega)).unary i1
    have hu : (Nd.mk 13 s 0 [k, w] p).kind = 13 ∧ (Nd.mk 13 s 0 [k, w] p).text.data.toList = s.data.toList ∧ (Nd.mk 13 s 0 [k, w] p).n = 0 ∧ (Nd.mk 13 s 0 [k, w] p).kids = [k, w] := ⟨rfl, rfl, rfl, rfl⟩
    have hd100 : depthN (.mk 13 s 0 [k, w] p) ≤ 100 := by omega
    have an : ∀ {ws : List (List UInt8)}, (ws.any fun v => s.data.toList == v) = true → anyT ws y = true := fun {ws} h => by
      unfold anyT
      rw [show (fun w => isT w y) = fun v => s.data.toList == v from funext hy]
      exact h
    have no : ∀ {ws : List (List UInt8)}, (ws.any fun v => s.data.toList == v) = false → anyT ws y = false := fun {ws} h => by
      unfold anyT
      rw [show (fun w => isT w y) = fun v => s.data.toList == v from funext hy]
      exact h
    have a3 : anyT (signsT 3) y = false → Reads (.chain 3) (nest + 1) l y k := fun g => Reads.chain (lv := 3) ra g
    have a2 : anyT (signsT 3) y = false → anyT (signsT 2) y = false → Reads (.chain 2) (nest + 1) l y k := fun g g' => Reads.chain (lv := 2) (a3 g) g'
    have b3 := Reads.chain (lv := 3) rb (hx.any (signs_ops 3))
    have b2 := Reads.chain (lv := 2) b3 (hx.any (signs_ops 2))
    have bN := b2.not i2 (hx.any (by decide))
    have b1 := Reads.chain (lv := 1) bN (hx.any (signs_ops 1))
    rcases sign_cases hs with e | e | e | e | e | e | e | e | e
    · have aN := (a2 (no (by rw [e]; decide)) (no (by rw [e]; decide))).not h2 (no (by rw [e]; decide))
      have a1 := Reads.chain (lv := 1) aN (no (by rw [e]; decide))
      exact (bin_reads (lv := 0) a1 (an (by rw [e]; decide)) hyt b1 (hx.any (signs_ops 0)) hu hd100).expr h3 (by omega)
    · have aN := (a2 (no (by rw [e]; decide)) (no (by rw [e]; decide))).not h2 (no (by rw [e]; decide))
      exact (bin_reads (lv := 1) aN (an (by rw [e]; decide)) hyt bN (hx.any (signs_ops 1)) hu hd100).climb1 h3 hx (by omega)
    · exact (cmp_reads h2 (a2 (no (by rw [e]; decide)) (no (by rw [e]; decide))) (an (by rw [e]; decide)) hyt b2 hu hd100).climbN h3 hx (by omega)
    · exact (cmp_reads h2 (a2 (no (by rw [e]; decide)) (no (by rw [e]; decide))) (an (by rw [e]; decide)) hyt b2 hu hd100).climbN h3 hx (by omega)
    · exact (cmp_reads h2 (a2 (no (by rw [e]; decide)) (no (by rw [e]; decide))) (an (by rw [e]; decide)) hyt b2 hu hd100).climbN h3 hx (by omega)
    · exact (bin_reads (lv := 2) (a3 (no (by rw [e]; decide))) (an (by rw [e]; decide)) hyt b3 (hx.any (signs_ops 2)) hu hd100).climb2 h2 h3 hx (by omega)
    · exact (bin_reads (lv := 2) (a3 (no (by rw [e]; decide))) (an (by rw [e]; decide)) hyt b3 (hx.any (signs_ops 2)) hu hd100).climb2 h2 h3 hx (by omega)
    · exact (bin_reads (lv := 3) ra (an (by rw [e]; decide)) hyt rb (hx.any (signs_ops 3)) hu hd100).climb3 h2 h3 hx (by omega)
    · exact (bin_reads (lv := 3) ra (an (by rw [e]; decide)) hyt rb (hx.any (signs_ops 3)) hu hd100).climb3 h2 h3 hx (by omega)
  · obtain ⟨s, k, v, w, p, rfl, hs, hrk, hrv, hrw⟩ := right_if h e
    have hke := ihk k (by simp [Nd.kids])
    have hve := ihk v (by simp [Nd.kids])
    have hwe := ihk w (by simp [Nd.kids])
    have d1 := depth_kid [k, v, w] k (by simp)
    have d2 := depth_kid [k, v, w] v (by simp)
    have d3 := depth_kid [k, v, w] w (by simp)
    replace hdk : depthN (.mk 14 s 0 [k, v, w] p) = depthKs [k, v, w] + 1 := hdk
    have hl' : Sp (tW tIf :: (toksN k ++ tW tThen :: (toksN v ++ tW tElse :: toksN w))) l x := by
      rw [toksN, toksKs_map] at hl; exact hl
    obtain ⟨y, g1, g2⟩ := hl'.wordStep.app
    obtain ⟨z, g3, g4⟩ := g2.wordStep.app
    obtain ⟨ta, ra, sa⟩ := hke.1 (nest + 1) _ _ g1 (stop_word' (by decide) g2) (by omega)
    obtain ⟨tb, rb, sb⟩ := hve.1 (nest + 1) _ _ g3 (stop_word' (by decide) g4) (by omega)
    obtain ⟨tc, rc, sc⟩ := hwe.1 (nest + 1) _ _ g4.wordStep hx (by omega)
    have hsm : strN false (mkN 14 [] 0 [ta, tb, tc] (hd l).pos) = strN false (.mk 14 s 0 [k, v, w] p) := strN_of rfl hs rfl (by rw [List.map_cons, List.map_cons, List.map_cons, sa, sb, sc]; rfl)
    refine ⟨_, ?_, hsm⟩
    rw [rd_eq]
    show nestT nest l _ = _
    rw [nest_ok (by omega), if_pos (by rw [hl'.word]; decide), ra, then_ok, want_word g2, rb, then_ok, want_word g4, rc, then_ok]
    exact made_ok (by have := depth_same hsm; omega)

/-- a right expression's tokens are read as that expression -/
theorem form_reads {u : Nd} (h : rightN u 1 = true) {l x : List Tk} (hl : Sp (toksN u) l x) (hx : StopE x) : Reads .expr 0 l x u :=
  (expr_reads _ u 1 (Nat.lt_succ_self _) h (by decide)).1 0 l x hl hx (by have := right_depth u 1 h; omega)

end Go.Proofs.YtcndknkdhlmdnaaGreatDoor

/-
  Scanning a right expression's form gives its tokens (no program in sight).
-/
namespace Go.Proofs.YtcndknkdhlmdnaaGreatDoor

/-- what may stand behind a word: none of a word's bytes -/
def brk (r : List UInt8) : Prop := ∀ c l, r = c :: l → wordC c = false
theorem brk_nil : brk [] := fun _ _ h => by cases h
theorem brk_cons {c : UInt8} (h : wordC c = false) (r : List UInt8) : brk (c :: r) := fun _ _ e => (List.cons.inj e).1 ▸ h
/-- where a scan comes to an end, these bytes give these tokens -/
def Sc (bs : List UInt8) (T : List Tk) (rest : List UInt8) : Prop := ∀ (pos : Int) (k : Nat) (l : List Tk), scanS (bs ++ rest) pos k 0 = .ok l → ∃ ts l', l = ts ++ l' ∧ ts.map (strT false) = T ∧ ∃ pos' k', scanS rest pos' k' 0 = .ok l'
theorem Sc.nil (r : List UInt8) : Sc [] [] r := fun pos k l h => ⟨[], l, rfl, rfl, pos, k, h⟩
theorem Sc.app {a b r : List UInt8} {T U : List Tk} (h : Sc a T (b ++ r)) (h' : Sc b U r) : Sc (a ++ b) (T ++ U) r := by
  intro pos k l hl
  rw [List.append_assoc] at hl
  obtain ⟨ts, l', rfl, e, p, k', h2⟩ := h pos k l hl
  obtain ⟨us, l'', rfl, e', p', k'', h3⟩ := h' p k' l' h2
  exact ⟨ts ++ us, l'', by rw [List.append_assoc], by rw [List.map_append, e, e'], p', k'', h3⟩
theorem Sc.cons {c : UInt8} {b r : List UInt8} {T U : List Tk} (h : Sc [c] T (b ++ r)) (h' : Sc b U r) : Sc (c :: b) (T ++ U) r := Sc.app (a := [c]) h h'
theorem Sc.blank {c : UInt8} (h : c.toNat ≤ 32) (r : List UInt8) : Sc [c] [] r := fun pos k l hl => ⟨[], l, rfl, rfl, pos + 1, k, by rw [← scan_blank h]; exact hl⟩
theorem Sc.skip {c : UInt8} {b r : List UInt8} {T : List Tk} (hc : c.toNat ≤ 32) (h : Sc b T r) : Sc (c :: b) T r := Sc.cons (T := []) (Sc.blank hc _) h
theorem Sc.tok {c : UInt8} {r rest : List UInt8} {T : Tk} (hc : ¬ c.toNat ≤ 32) (hc' : c ≠ 35) (ht : ∀ pos t n, tokS c (r ++ rest) pos = .ok (t, n) → strT false t = T ∧ n = r.length + 1) : Sc (c :: r) [T] rest := by
  intro pos k l hl
  rw [List.cons_append] at hl
  cases hx : tokS c (r ++ rest) pos with
  | error e => rw [scan_err hc hc' hx] at hl; cases hl
  | ok p =>
    obtain ⟨t, n⟩ := p
    obtain ⟨e1, rfl⟩ := ht pos t n hx
    by_cases hk : k = 8192
    · rw [scan_many hc hc' hx hk] at hl; cases hl
    · rw [scan_tok hc hc' hx hk] at hl
      have e : (c :: (r ++ rest)).drop (r.length + 1) = rest := by simp
      rw [e] at hl
      cases hs : scanS rest (pos + ((r.length + 1 : Nat) : Int)) (k + 1) 0 with
      | error e => rw [hs] at hl; cases hl
      | ok l' =>
        rw [hs] at hl
        have : l = [t] ++ l' := (Except.ok.inj hl).symm
        subst this
        exact ⟨[t], l', rfl, by rw [List.map_singleton, e1], _, _, hs⟩

/-! ### signs -/
theorem mark_nos : ∀ c ∈ markTab, (smC c = false ∧ dgC c = false) ∧ (c ≠ 34 ∧ grC c = false) ∧ ¬ c.toNat ≤ 32 ∧ c ≠ 35 ∧ markTab.contains c = true := by decide
theorem sc_sign {c : UInt8} (hc : c ∈ markTab) {rest : List UInt8} (h : c = 60 → rest.headD 0 ≠ 61) : Sc [c] [tS [c]] rest := by
  obtain ⟨⟨h1, h2⟩, ⟨h3, h4⟩, h5, h6, h7⟩ := mark_nos c hc
  refine Sc.tok h5 h6 fun pos t n ht => ?_
  rw [List.nil_append] at ht
  unfold tokS markS at ht
  rw [if_neg (by rw [h1]; decide), if_neg (by rw [h2]; decide), if_neg h3, if_neg (by rw [h4]; decide), if_neg (fun e => h e.1 e.2), if_pos h7] at ht
  cases ht
  exact ⟨rfl, rfl⟩
theorem sc_least (rest : List UInt8) : Sc [60, 61] [tS [60, 61]] rest := by
  refine Sc.tok (by decide) (by decide) fun pos t n ht => ?_
  unfold tokS markS at ht
  rw [if_neg (by decide), if_neg (by decide), if_neg (by decide), if_neg (by decide), if_pos ⟨rfl, rfl⟩] at ht
  cases ht
  exact ⟨rfl, rfl⟩

/-! ### names and words -/
theorem name_small {l : List UInt8} (h : nameL l = true) : ∃ c r, l = c :: r ∧ smC c = true ∧ r.all inC = true ∧ l.length ≤ 24 := by
  have hn := h
  rw [← nameR_eq] at hn
  unfold nameR at hn
  simp only [Bool.and_eq_true, decide_eq_true_eq] at hn
  cases l with
  | nil => exact absurd hn.1.1 (by decide)
  | cons c r =>
    have hs : (if smC c = true then 1 + (r.takeWhile inC).length else 0) = r.length + 1 := hn.2
    by_cases hc : smC c = true
    · rw [if_pos hc] at hs
      exact ⟨c, r, rfl, hc, (takeWhile_all inC r).1 (by omega), hn.1.2⟩
    · rw [if_neg hc] at hs; omega
theorem inner_in (c : UInt8) (h : wordC c = false) : inC c = false ∧ c ≠ 46 ∧ dgC c = false ∧ grC c = false := by
  have := u8_each (p := fun c => wordC c || (!inC c && (c != 46) && !dgC c && !grC c)) (by decide +kernel) c
  rw [h] at this
  simpa [and_assoc] using this
theorem takeWhile_app {p : UInt8 → Bool} {a r : List UInt8} (ha : a.all p = true) (hr : ∀ c l, r = c :: l → p c = false) : (a ++ r).takeWhile p = a := by
  induction a with
  | nil =>
    cases r with
    | nil => rfl
    | cons c l => rw [List.nil_append, List.takeWhile_cons, if_neg (by rw [hr c l rfl]; decide)]
  | cons c a ih =>
    rw [List.all_cons, Bool.and_eq_true] at ha
    rw [List.cons_append, List.takeWhile_cons, if_pos ha.1, ih ha.2]
theorem span_app {s r : List UInt8} (h : nameL s = true) (hr : ∀ c l, r = c :: l → inC c = false) : spanL (s ++ r) = s.length := by
  obtain ⟨c, t, rfl, hc, ht, -⟩ := name_small h
  show (if smC c then 1 + ((t ++ r).takeWhile inC).length else 0) = t.length + 1
  rw [if_pos hc, takeWhile_app ht hr, Nat.add_comm]
theorem brk_in {r : List UInt8} (h : brk r) : ∀ c l, r = c :: l → inC c = false := fun c l e => (inner_in c (h c l e)).1
theorem brk_head {r : List UInt8} (h : brk r) : r.headD 0 ≠ 46 := by
  cases r with
  | nil => decide
  | cons c l => exact (inner_in c (h c l rfl)).2.1
theorem drop_len {a r : List UInt8} : (a ++ r).drop a.length = r := List.drop_left
theorem small_byte (c : UInt8) (h : smC c = true) : ¬ c.toNat ≤ 32 ∧ c ≠ 35 := by
  have := u8_each (p := fun c => !smC c || (!decide (c.toNat ≤ 32) && (c != 35))) (by decide +kernel) c
  rw [h] at this
  simpa using this
theorem sc_near {s rest : List UInt8} (h : nameL s = true) (hr : brk rest) : Sc s [⟨if wordL s = true then 2 else 1, s, 0, 0⟩] rest := by
  have hsp := span_app h (brk_in hr)
  have h46 := brk_head hr
  obtain ⟨c, t, rfl, hc, ht, hl⟩ := name_small h
  refine Sc.tok (small_byte c hc).1 (small_byte c hc).2 fun pos u n hu => ?_
  unfold tokS at hu
  rw [if_pos hc] at hu
  unfold namedS at hu
  rw [← List.cons_append, hsp] at hu
  simp only [drop_len, List.take_left'] at hu
  rw [if_neg h46, if_neg (by omega)] at hu
  cases hu
  exact ⟨rfl, rfl⟩
theorem sc_word {s rest : List UInt8} (h : nameL s = true) (hw : wordL s = true) (hr : brk rest) : Sc s [tW s] rest := by
  have := sc_near h hr
  rw [if_pos hw] at this
  exact this
theorem near_not {s : List UInt8} (h : nearL s = true) : ¬ wordL s = true := by
  unfold nearL at h
  rw [Bool.and_eq_true] at h
  simpa using h.2
theorem sc_name {s rest : List UInt8} (h : anyL s = true) (hr : brk rest) : Sc s [nameTk s] rest := by
  unfold nameTk
  unfold anyL at h
  rw [Bool.and_eq_true] at h
  cases hc : (Lib.cut s [46]).2.2 with
  | false =>
    have h1 := h.1
    rw [cut_no hc] at h1
    have := sc_near (near_name h1) hr
    rw [if_neg (near_not h1)] at this
    rw [if_neg (by decide)]
    exact this
  | true =>
    rw [hc] at h
    have h2 : nearL (Lib.cut s [46]).2.1 = true := by simpa using h.2
    have h1 := h.1
    have e := cut_app hc
    rw [if_pos rfl]
    generalize (Lib.cut s [46]).1 = x at *
    generalize (Lib.cut s [46]).2.1 = y at *
    subst e
    have s1 := span_app (near_name h1) (r := 46 :: (y ++ rest)) (fun c l e => by rw [← (List.cons.inj e).1]; rfl)
    have s2 := span_app (near_name h2) (brk_in hr)
    have n1 := near_not h1
    have n2 := near_not h2
    obtain ⟨c, t, rfl, hc', ht, hl⟩ := name_small (near_name h1)
    refine Sc.tok (r := t ++ 46 :: y) (small_byte c hc').1 (small_byte c hc').2 fun pos u n hu => ?_
    unfold tokS at hu
    rw [if_pos hc'] at hu
    unfold namedS at hu
    rw [show c :: (t ++ 46 :: y ++ rest) = (c :: t) ++ 46 :: (y ++ rest) by simp, s1] at hu
    have hdd : ((c :: t) ++ 46 :: (y ++ rest)).drop ((c :: t).length + 1) = y ++ rest := by rw [← List.drop_drop, drop_len]; rfl
    simp only [hdd, drop_len, List.take_left' rfl] at hu
    rw [if_pos (show (46 :: (y ++ rest)).headD 0 = (46 : UInt8) from rfl), s2] at hu
    simp only [List.take_left' rfl] at hu
    split at hu
    · cases hu
    · cases hu
      refine ⟨rfl, ?_⟩
      simp only [List.length_append, List.length_cons]
      omega

/-! ### strings and currencies -/
theorem inner_quo (c : UInt8) (h : isInner c = true) : quoC c = true := by
  have := u8_each (p := fun c => !isInner c || quoC c) (by decide +kernel) c
  rw [h] at this
  simpa using this
theorem sc_quote {s : List UInt8} (h : nameL s = true) (rest : List UInt8) : Sc (34 :: (s ++ [34])) [⟨7, s, 0, 0⟩] rest := by
  refine Sc.tok (by decide) (by decide) fun pos t n ht => ?_
  have hq : ((s ++ [34]) ++ rest).takeWhile quoC = s := by
    rw [List.append_assoc]
    exact takeWhile_app (List.all_eq_true.2 fun c hc => inner_quo c (name_inner h c hc)) (fun c l e => by rw [← (List.cons.inj e).1]; rfl)
  unfold tokS at ht
  rw [if_neg (by decide), if_neg (by decide), if_pos rfl] at ht
  unfold quotS at ht
  have hr : quoR ((s ++ [34]) ++ rest) = s.length := by unfold quoR; rw [hq]
  rw [hr, List.append_assoc] at ht
  simp only [drop_len, List.take_left' rfl] at ht
  rw [if_neg (fun hh => hh rfl), if_pos h] at ht
  cases ht
  exact ⟨rfl, by simp⟩
theorem great_gr (c : UInt8) : isGreat c = grC c := great_eq c
theorem great_byte (c : UInt8) (h : isGreat c = true) : ¬ c.toNat ≤ 32 ∧ c ≠ 35 ∧ smC c = false ∧ dgC c = false ∧ c ≠ 34 ∧ grC c = true := by
  have := u8_each (p := fun c => !isGreat c || (!decide (c.toNat ≤ 32) && (c != 35) && !smC c && !dgC c && (c != 34) && grC c)) (by decide +kernel) c
  rw [h] at this
  simpa [and_assoc] using this
theorem sc_cur {s rest : List UInt8} (h : curL s = true) (hr : brk rest) : Sc s [⟨4, s, 0, 0⟩] rest := by
  unfold curL at h
  simp only [Bool.and_eq_true, decide_eq_true_eq] at h
  obtain ⟨h3, hg⟩ := h
  cases s with
  | nil => exact absurd h3 (by decide)
  | cons c s =>
    have hc := great_byte c (List.all_eq_true.1 hg c (List.mem_cons_self ..))
    have hgr : (c :: s).all grC = true := by rw [show grC = isGreat from funext fun c => (great_gr c).symm]; exact hg
    have hq : ((c :: s) ++ rest).takeWhile grC = c :: s := takeWhile_app hgr (fun c l e => (inner_in c (hr c l e)).2.2.2)
    refine Sc.tok hc.1 hc.2.1 fun pos t n ht => ?_
    unfold tokS at ht
    rw [if_neg (by rw [hc.2.2.1]; decide), if_neg (by rw [hc.2.2.2.1]; decide), if_neg hc.2.2.2.2.1, if_pos hc.2.2.2.2.2] at ht
    unfold curS greR at ht
    rw [← List.cons_append, hq, if_pos h3] at ht
    cases ht
    refine ⟨?_, by rw [← h3]; rfl⟩
    show (⟨4, ((c :: s) ++ rest).take 3, 0, 0⟩ : Tk) = _
    rw [← h3, List.take_left' rfl]

/-! ### numbers -/
theorem val_vR : ∀ (l : List UInt8) (a : Int), l.all dgC = true → l.foldl (fun n c => 10 * n + ((c.toNat : Int) - 48)) a = a * 10 ^ l.length + vR l
  | [], a, _ => by simp [vR]
  | c :: l, a, h => by
    rw [List.all_cons, Bool.and_eq_true] at h
    rw [List.foldl_cons, val_vR l _ h.2, vR, List.length_cons, Int.pow_succ]
    have := dig_toNat h.1
    have e1 : (((c.toNat - 48) * 10 ^ l.length + vR l : Nat) : Int) = ((c.toNat : Int) - 48) * 10 ^ l.length + vR l := by
      rw [Int.natCast_add, Int.natCast_mul, Int.natCast_pow, Int.natCast_sub (by omega)]; rfl
    rw [e1, Int.add_mul, Int.mul_comm 10 a, Int.mul_assoc, Int.mul_comm 10, Int.add_assoc]
theorem vR_app : ∀ (a b : List UInt8), vR (a ++ b) = vR a * 10 ^ b.length + vR b
  | [], b => by simp [vR]
  | c :: a, b => by
    rw [List.cons_append, vR, vR_app a b, vR, List.length_append, Nat.pow_add, Nat.add_mul, Nat.mul_assoc, Nat.add_assoc]
theorem vR_decL {k : Nat} (hk : k < 10 ^ 20) : vR (decL k) = k := by
  unfold decL
  rw [vR_dec 20 _ _ (by omega)]
  show k / 10 * 10 ^ 1 + ((dig k).toNat - 48) * 10 ^ 0 + 0 = k
  rw [dig_nat]
  omega
theorem vR_low : ∀ (k n : Nat), vR (lowF k n []) = n % 10 ^ k
  | 0, n => by rw [lowF, vR]; simp [Nat.mod_one]
  | k + 1, n => by
    rw [lowF, lowF_app k _ [dig n], vR_app, vR_low k]
    show n / 10 % 10 ^ k * 10 ^ 1 + ((dig n).toNat - 48) * 10 ^ 0 + 0 = _
    rw [dig_nat, show (10 : Nat) ^ (k + 1) = 10 * 10 ^ k by rw [Nat.pow_succ, Nat.mul_comm], Nat.mod_mul]
    omega
theorem numU_show {v : Int} {n : Nat} (hn : n < 10 ^ 20) (h : numU (showU n) = some v) : v = n := by
  have e : showU n = decL (n / 1000000) ++ tailU n := rfl
  have hw : (showU n).takeWhile dgC = decL (n / 1000000) := by
    rw [e]
    exact takeWhile_app (List.all_eq_true.2 (decL_dg _)) (tailU_stop n)
  unfold numU at h
  rw [hw] at h
  have hdr : (showU n).drop (decL (n / 1000000)).length = tailU n := by rw [e, drop_len]
  simp only [hdr] at h
  split at h
  · have h := Option.some.inj h
    rw [← h]
    obtain ⟨k, hk⟩ := trimZ_app (lowF 6 n [])
    have hlen := congrArg List.length hk
    rw [lowF_length, List.length_append, List.length_replicate] at hlen
    have ht : (tailU n).tail = trimZ (lowF 6 n []) := by
      unfold tailU
      split
      · rename_i c; rw [c]; rfl
      · rfl
    rw [ht, show 6 - (trimZ (lowF 6 n [])).length = k by have : ([] : List UInt8).length = 0 := rfl; omega, List.append_assoc, ← hk]
    unfold Cal.val
    rw [val_vR _ _ (List.all_eq_true.2 fun c hc => by
      rcases List.mem_append.1 hc with hc | hc
      · exact decL_dg _ c hc
      · exact lowF_dg 6 _ c hc), vR_app, vR_decL (by omega), vR_low, lowF_length]
    show (0 : Int) * _ + ((n / 1000000 * 1000000 + n % 1000000 : Nat) : Int) = n
    omega
  · cases h
theorem head_app {a r : List UInt8} (h : a ≠ []) : (a ++ r).headD 0 = a.headD 0 := by
  cases a with
  | nil => exact absurd rfl h
  | cons c a => rfl
theorem numR_show (n : Nat) {rest : List UInt8} (hr : brk rest) : numR (showU n ++ rest) = (showU n).length := by
  have e : showU n = decL (n / 1000000) ++ tailU n := rfl
  have hd : ∀ r, (∀ c l, r = c :: l → dgC c = false) → digR (decL (n / 1000000) ++ r) = (decL (n / 1000000)).length := fun r h => by
    unfold digR
    rw [takeWhile_app (List.all_eq_true.2 (decL_dg _)) h]
  have hs : ∀ c l, tailU n ++ rest = c :: l → dgC c = false := fun c l h => by
    cases ht : tailU n with
    | nil => rw [ht] at h; exact (inner_in c (hr c l h)).2.2.1
    | cons a b =>
      rw [ht] at h
      rw [← (List.cons.inj h).1]
      exact tailU_stop n a b ht
  unfold numR
  rw [e, List.append_assoc, hd _ hs, drop_len]
  cases ht : tailU n with
  | nil =>
    rw [List.nil_append, if_neg (fun h => brk_head hr h.1), List.append_nil]
  | cons a b =>
    have hab : a = 46 ∧ b = trimZ (lowF 6 n []) ∧ b ≠ [] := by
      unfold tailU at ht
      split at ht
      · cases ht
      · rename_i hne
        obtain ⟨rfl, rfl⟩ := List.cons.inj ht
        exact ⟨rfl, rfl, hne⟩
    obtain ⟨rfl, hb, hne⟩ := hab
    have hbd : b.all dgC = true := List.all_eq_true.2 fun c hc => lowF_dg 6 n c (trimZ_sub _ c (hb ▸ hc))
    have hdd : (decL (n / 1000000) ++ (46 :: b ++ rest)).drop ((decL (n / 1000000)).length + 1) = b ++ rest := by
      rw [← List.drop_drop, drop_len]; rfl
    have hbh : dgC ((b ++ rest).headD 0) = true := by
      rw [head_app hne]
      cases b with
      | nil => exact absurd rfl hne
      | cons c b => exact List.all_eq_true.1 hbd c (List.mem_cons_self ..)
    rw [hdd, if_pos ⟨rfl, hbh⟩]
    unfold digR
    rw [takeWhile_app hbd (fun c l e => (inner_in c (hr c l e)).2.2.1), List.length_append, List.length_cons]
    omega
theorem date_no {n : Nat} {rest : List UInt8} (h : (45 : UInt8) ∉ showU n) (hr : brk rest) : dateAt (showU n ++ rest) = false := by
  rw [Bool.eq_false_iff]
  intro hd
  unfold dateAt at hd
  simp only [Bool.and_eq_true, decide_eq_true_eq] at hd
  obtain ⟨h10, hf, -⟩ := hd
  have hl : ((showU n ++ rest).take 10).length = 10 := by rw [List.length_take]; omega
  have at' : ∀ j (hj : j < 10), Cal.fits j ((showU n ++ rest)[j]'(by omega)) = true := fun j hj => by
    have := hf j (by omega)
    rw [List.getElem_take] at this
    exact this
  rcases Nat.lt_or_ge 4 (showU n).length with g | g
  · have h4 := at' 4 (by omega)
    rw [Cal.fits_dash (.inl rfl), decide_eq_true_eq] at h4
    rw [List.getElem_append_left g] at h4
    have : (showU n)[4] = 45 := UInt8.toNat_inj.1 (Int.ofNat.inj h4)
    exact h (this ▸ List.getElem_mem g)
  · have hm := at' (showU n).length (by omega)
    rw [List.getElem_append_right (Nat.le_refl _)] at hm
    simp only [Nat.sub_self] at hm
    cases hrest : rest with
    | nil => rw [hrest, List.append_nil] at h10; omega
    | cons c l =>
      have hw := hr c l hrest
      subst hrest
      replace hm : Cal.fits (showU n).length c = true := hm
      rcases Nat.lt_or_ge (showU n).length 4 with g' | g'
      · rw [Cal.fits_dig (by omega) (by omega)] at hm
        have := dg_word c (isDig_dg c hm)
        rw [hw] at this; cases this
      · rw [Cal.fits_dash (.inl (by omega)), decide_eq_true_eq] at hm
        have : c = 45 := UInt8.toNat_inj.1 (Int.ofNat.inj hm)
        subst this
        cases hw
theorem dg_byte (c : UInt8) (h : dgC c = true) : ¬ c.toNat ≤ 32 ∧ c ≠ 35 ∧ smC c = false := by
  have := u8_each (p := fun c => !dgC c || (!decide (c.toNat ≤ 32) && (c != 35) && !smC c)) (by decide +kernel) c
  rw [h] at this
  simpa [and_assoc] using this
theorem sc_num {n : Int} {rest : List UInt8} (h : 0 ≤ n) (h' : n ≤ 1000000000000000) (hr : brk rest) : Sc (showI n) [⟨6, [], n, 0⟩] rest := by
  obtain ⟨hd, hne, hw, h45⟩ := showI_num h h'
  rw [showI_pos h h'] at hd hne hw h45 ⊢
  have hR := numR_show n.natAbs hr
  have hD := date_no h45 hr
  have hv := numU_show (n := n.natAbs) (v := (numU (showU n.natAbs)).getD 0) (by omega)
  generalize showU n.natAbs = s at *
  cases s with
  | nil => exact absurd rfl hne
  | cons c s =>
    replace hd : dgC c = true := hd
    refine Sc.tok (dg_byte c hd).1 (dg_byte c hd).2.1 fun pos t k ht => ?_
    unfold tokS at ht
    rw [if_neg (by rw [(dg_byte c hd).2.2]; decide), if_pos hd] at ht
    unfold numS at ht
    rw [← List.cons_append, hD, if_neg (by decide), hR, List.take_left' rfl] at ht
    have hp : ∀ v, numP (c :: s) = some v → v = n := fun v hv' => by
      rw [numP_pos (show (c :: s).headD 0 ≠ 45 from dg_45 hd)] at hv'
      cases hu : numU (c :: s) with
      | none => rw [hu] at hv'; cases hv'
      | some u =>
        rw [hu] at hv' hv
        have hun := hv rfl
        replace hun : u = (n.natAbs : Int) := hun
        replace hv' : (if 1000000000000000 < u then none else some u) = some v := hv'
        by_cases hu' : 1000000000000000 < u
        · rw [if_pos hu'] at hv'; cases hv'
        · rw [if_neg hu'] at hv'
          have := Option.some.inj hv'
          omega
    cases hn : numP (c :: s) with
    | none => rw [hn] at ht; cases ht
    | some v =>
      rw [hn] at ht
      have := hp v hn
      subst this
      replace ht : (if numEnd ((List.drop (c :: s).length ((c :: s) ++ rest)).headD 0) = true then Except.ok (⟨6, [], v, pos⟩, (c :: s).length) else .error 72 : Except Int (Tk × Nat)) = Except.ok (t, k) := ht
      split at ht
      · cases ht
        exact ⟨rfl, rfl⟩
      · cases ht

/-! ### dates -/
theorem sc_date {n : Int} {rest : List UInt8} (h : 0 ≤ n) (h' : n ≤ 73048) (hr : brk rest) : Sc (dateT n) [⟨5, [], n, 0⟩] rest := by
  obtain ⟨hd, hne, hw, -⟩ := dateT_num h h'
  obtain ⟨y, m, d, ho, hnum, et⟩ := dateT_of h h'
  have hlen : (dateT n).length = 10 := by rw [et]; exact Cal.text_len y m d
  have hf : ∀ j (hj : j < (dateT n).length), Cal.fits j (dateT n)[j] = true := by rw [et]; exact Cal.text_form ho
  have hvals := Cal.text_vals ho
  rw [← et] at hvals
  generalize dateT n = s at *
  have hD : dateAt (s ++ rest) = true := by
    unfold dateAt
    rw [show (s ++ rest).take 10 = s by rw [← hlen, List.take_left' rfl], show (s ++ rest).drop 10 = rest by rw [← hlen, drop_len]]
    rw [decide_eq_true (show 10 ≤ (s ++ rest).length by rw [List.length_append]; omega), decide_eq_true hf]
    have : dgC (rest.headD 0) = false := by
      cases rest with
      | nil => rfl
      | cons c l => exact (inner_in c (hr c l rfl)).2.2.1
    rw [this]; rfl
  have hP : dayP s = some n := by
    unfold dayP
    rw [hvals.1, hvals.2.1, hvals.2.2, if_pos ⟨hlen, hf, ho⟩, hnum]
  cases s with
  | nil => exact absurd rfl hne
  | cons c s =>
    replace hd : dgC c = true := hd
    refine Sc.tok (dg_byte c hd).1 (dg_byte c hd).2.1 fun pos t k ht => ?_
    unfold tokS at ht
    rw [if_neg (by rw [(dg_byte c hd).2.2]; decide), if_pos hd] at ht
    unfold numS at ht
    rw [← List.cons_append, hD, if_pos rfl, show ((c :: s) ++ rest).take 10 = c :: s by rw [← hlen, List.take_left' rfl], hP] at ht
    replace ht : (if numEnd ((List.drop 10 ((c :: s) ++ rest)).headD 0) = true then Except.ok (⟨5, [], n, pos⟩, 10) else .error 72 : Except Int (Tk × Nat)) = Except.ok (t, k) := ht
    split at ht
    · cases ht
      exact ⟨rfl, hlen.symm⟩
    · cases ht

end Go.Proofs.YtcndknkdhlmdnaaGreatDoor
