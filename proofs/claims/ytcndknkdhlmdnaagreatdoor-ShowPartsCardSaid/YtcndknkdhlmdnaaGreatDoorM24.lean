/-
  Texts that the statements' proofs rest on, one behind another: PartsLaw, ShowL, ShowM.
-/
import Derived.Test.YtcndknkdhlmdnaaGreatDoorM23
import Derived.Test.YtcndknkdhlmdnaaGreatDoorM05
import Derived.Test.YtcndknkdhlmdnaaGreatDoorM04
import Derived.Outline

/-
  ShowParts: a call's form, an if's form, by the kids' forms (no program in sight).
-/
namespace Go.Proofs.YtcndknkdhlmdnaaGreatDoor

mutual
theorem right_mono : ∀ (t : Nd) {d d' : Int}, d' ≤ d → rightN t d = true → rightN t d' = true
  | .mk kind s n ks p, d, d', h, hr => by
    rw [rightN] at hr ⊢
    simp only [Bool.and_eq_true, decide_eq_true_eq] at hr ⊢
    exact ⟨⟨⟨⟨by omega, hr.1.1.1.2⟩, hr.1.1.2⟩, hr.1.2⟩, rightKs_mono ks (by omega) hr.2⟩
theorem rightKs_mono : ∀ (ks : List Nd) {d d' : Int}, d' ≤ d → rightKs ks d = true → rightKs ks d' = true
  | [], _, _, _, _ => rfl
  | k :: ks, d, d', h, hr => by
    rw [rightKs, Bool.and_eq_true] at hr ⊢
    exact ⟨right_mono k h hr.1, rightKs_mono ks h hr.2⟩
end
theorem right_kids {t : Nd} {d : Int} (h : rightN t d = true) : rightKs t.kids (d + 1) = true ∧ kidsOk t.kind t.kids.length = true := by
  cases t with
  | mk kind s n ks p =>
    rw [rightN] at h
    simp only [Bool.and_eq_true] at h
    exact ⟨h.2, h.1.1.1.2⟩
theorem kid_right {t k : Nd} (h : rightE t = true) (hk : k ∈ t.kids) : rightE k = true := by
  unfold rightE at h ⊢
  rw [Bool.and_eq_true] at h ⊢
  refine ⟨small_kid h.1 hk, ?_⟩
  have := (right_kids h.2).1
  rw [rightKs_iff, List.all_eq_true] at this
  exact right_mono k (by omega) (this k hk)
theorem exprE_ok {t : Nd} (h : rightE t = true) : exprE t = 0 := if_pos h
theorem exprS_ok {t : Nd} (h : rightE t = true) : exprS t = formN t := if_pos h
theorem exprE_not {t : Nd} (h : ¬ rightE t = true) : exprE t = 90 := if_neg h
theorem right_len {t : Nd} (h : rightE t = true) : (formN t).length ≤ 1048576 := by
  unfold rightE at h
  rw [Bool.and_eq_true] at h
  exact small_form h.1 h.2
theorem call_form {t : Nd} (h : t.kind = 11) : formN t = t.text.data.toList ++ listL (t.kids.map formN) := by
  rw [form_eq', ← formKs_snd]
  unfold formOf
  rw [if_neg (by omega), if_neg (by omega), if_neg (by omega), if_neg (by omega), if_pos h]
theorem if_kids {t : Nd} (h : rightE t = true) (hk : t.kind = 14) : t.kids.length = 3 := by
  unfold rightE at h
  rw [Bool.and_eq_true] at h
  have := (right_kids h.2).2
  rw [hk] at this
  simpa [kidsOk] using this
theorem if_form {t : Nd} (h : t.kind = 14) (hl : t.kids.length = 3) : formN t = ([105, 102, 32] : List UInt8) ++ formN (t.kids[0]'(by omega)) ++ ([32, 116, 104, 101, 110, 32] : List UInt8) ++ formN (t.kids[1]'(by omega)) ++ ([32, 101, 108, 115, 101, 32] : List UInt8) ++ formN (t.kids[2]'(by omega)) := by
  cases t with
  | mk kind s n ks p =>
    replace h : kind = 14 := h
    subst h
    match ks, hl with
    | [a, b, c], _ =>
      rw [form_if]
      show _ = ([105, 102, 32] : List UInt8) ++ formN a ++ ([32, 116, 104, 101, 110, 32] : List UInt8) ++ formN b ++ ([32, 101, 108, 115, 101, 32] : List UInt8) ++ formN c
      simp
theorem call_len {t : Nd} (h : rightE t = true) (hk : t.kind = 11) : t.kids.length ≤ 8 ∧ 1 ≤ t.kids.length := by
  unfold rightE at h
  rw [Bool.and_eq_true] at h
  have := (right_kids h.2).2
  rw [hk] at this
  unfold kidsOk at this
  rw [if_neg (by decide), if_pos rfl] at this
  simp only [Bool.and_eq_true, decide_eq_true_eq] at this
  omega
theorem apart_forms (t u : Nd) : (exprE t = 90 ∧ True) ∨ (exprE t = 0 ∧ exprE u = 90 ∧ True) ∨ (exprE t = 0 ∧ exprE u = 0 ∧ ((exprS t == exprS u) == (smallN t && smallN u && sameN t u)) = true) := by
  by_cases ht : rightE t = true
  · by_cases hu : rightE u = true
    · refine .inr (.inr ⟨exprE_ok ht, exprE_ok hu, ?_⟩)
      rw [exprS_ok ht, exprS_ok hu]
      have ht' := ht
      have hu' := hu
      unfold rightE at ht' hu'
      rw [Bool.and_eq_true] at ht' hu'
      rw [ht'.1, hu'.1, Bool.true_and, Bool.true_and]
      have ha := apart ht'.2 hu'.2
      by_cases h : formN t = formN u
      · rw [ha.1 h, h]; simp
      · have hs : sameN t u = false := Bool.eq_false_iff.2 fun e => h (ha.2 e)
        rw [hs, beq_eq_false_iff_ne.2 h]; rfl
    · exact .inr (.inl ⟨exprE_ok ht, exprE_not hu, trivial⟩)
  · exact .inl ⟨exprE_not ht, trivial⟩

end Go.Proofs.YtcndknkdhlmdnaaGreatDoor

/-
  show.let: a definition written.
-/
namespace Go.Proofs.YtcndknkdhlmdnaaGreatDoor
open Go.RowKit Go.Shelf
set_option maxRecDepth 100000

theorem Bld.after {B b : Nat} {l : List UInt8} {w w' : World} (h : Bld B b l w) (hb : Below w.heap.size w w') : Bld B b l w' := by
  have one : ∀ p, Lib.BuilderAtF 48 5 B b p (Lib.byteCells l) w → Lib.BuilderAtF 48 5 B b p (Lib.byteCells l) w' := fun p k => by
    have hlt := k.lt
    obtain ⟨hB, v, hbk, hown, hne⟩ := k
    exact ⟨hB, v, (hb.block b hlt).trans hbk, hown.kept (grown_below hb) (by cases hv : v.ownBlock <;> simp), hne⟩
  exact h.elim (fun k => .inl (one _ k)) fun k => .inr (one _ k)
theorem Aft.after {B b : Nat} {l : List UInt8} {w w1 w2 : World} (h : Aft B b l w w1) (hB : B ≤ w.heap.size) (hb : Below w1.heap.size w1 w2) : Aft B b l w w2 :=
  ⟨h.bld.after hb, h.below.trans (hb.mono (h.size hB)), fun k o hk e1 e2 => (hb.block k (heap_lt (h.keeps k o hk e1 e2))).trans (h.keeps k o hk e1 e2)⟩
theorem set_heap {W : World} {h : Nat} {x0 x1 : Value} {T : TypeId} (hh : W.heap[h]? = some (.cells #[x0, x1] T (0, 0))) (v : Value) : (W.setCell ⟨h, 1, none⟩ v).heap[h]? = some (.cells #[x0, v] T (0, 0)) := by
  simp [World.setCell, Array.getElem?_modify, hh]
theorem KF.set {B h : Nat} {fx : List (Fm × Value)} {v : Value} {W : World} (k : KF B fx v W) (hB : h < B) (j : Nat) (u : Value) : KF B fx v (W.setCell ⟨h, j, none⟩ u) := by
  refine ⟨k.own.kept (row := some h) ⟨rfl, rfl, rfl, by simp [World.setCell], fun g _ hg => Below.heap_setCell _ _ _ _ (fun e => hg (by simp [e]))⟩ ?_, fun p hp => ?_⟩
  · rcases hv : v.ownBlock with _ | g
    · exact .inl rfl
    · refine .inr fun e => ?_
      obtain rfl : g = h := Option.some.inj e
      have := (k.own.lt g hv).1
      omega
  · exact Fm.is.kept (fun g cur fz hg hh => ⟨hg, (Below.heap_setCell _ _ _ _ (fun e => by have := hg.1; simp at e; omega)).trans hh⟩) p.1 (k.is p hp)
theorem KF.own_ne {B h : Nat} {fx : List (Fm × Value)} {v : Value} {W : World} (k : KF B fx v W) (hB : h < B) : some h ≠ v.ownBlock := fun e => by have := (k.own.lt h e.symm).1; omega
theorem let_step {h : Nat} {gx : List (Fm × Value)} {v : Value} {V w4 w5 : World} {H T : ByteArray} {g cap' : Nat} (HKF1 : KF (h + 1) gx v V) (HB1 : Below h w4 V) (HP1 : V.heap[h]? = some (.cells #[.string H, v] 79 (0, 0))) (hT : T.size ≤ maxLen)
    (hown' : w5.ownsRow (h + 1) 60 1 (.slice (some ⟨g, 0, none⟩) (gx.length + 1) cap') (gx.length + 1) (gx.map (fun p => Value.iface p.1.ty p.2) ++ [.iface 80 (.string T)]))
    (hgrow' : (V.alloc (.cells #[.iface 80 (.string T)] 60)).grownBy w5 v.ownBlock) (hat : v.ownBlock = some g ∨ g = (V.alloc (.cells #[.iface 80 (.string T)] 60)).heap.size) :
    w5.cell? ⟨h, 1, none⟩ = some v ∧ w5.frozen? ⟨h, 1, none⟩ = false ∧ KF (h + 1) (gx ++ [(Fm.leaf T, Value.string T)]) (.slice (some ⟨g, 0, none⟩) (gx.length + 1) cap') (w5.setCell ⟨h, 1, none⟩ (.slice (some ⟨g, 0, none⟩) (gx.length + 1) cap')) ∧
      (w5.setCell ⟨h, 1, none⟩ (.slice (some ⟨g, 0, none⟩) (gx.length + 1) cap')).heap[h]? = some (.cells #[.string H, .slice (some ⟨g, 0, none⟩) (gx.length + 1) cap'] 79 (0, 0)) ∧
      Below h w4 (w5.setCell ⟨h, 1, none⟩ (.slice (some ⟨g, 0, none⟩) (gx.length + 1) cap')) := by
  have hb2 := nbelow1 V (.cells #[.iface 80 (.string T)] 60)
  have hls : (Fm.leaf T).is (fun g => h + 1 ≤ g ∧ v.ownBlock ≠ some g) (V.alloc (.cells #[.iface 80 (.string T)] 60)) (.string T) := ⟨rfl, hT⟩
  have hk2 := HKF1.below hb2
  have hk5 := KF.snoc hk2 hls rfl hown' hgrow' hat
  have hlt := heap_lt HP1
  have hp2 : (V.alloc (.cells #[.iface 80 (.string T)] 60)).heap[h]? = some (.cells #[.string H, v] 79 (0, 0)) := (hb2.block h hlt).trans HP1
  have hp5 : w5.heap[h]? = some (.cells #[.string H, v] 79 (0, 0)) := (hgrow'.block h (heap_lt hp2) (hk2.own_ne (Nat.lt_succ_self h))).trans hp2
  have hbg : Below h w4 w5 := (HB1.trans (hb2.mono (Nat.le_of_lt hlt))).grown hgrow' (by simp; omega) (fun r e => by have := (hk2.own.lt r e).1; omega)
  exact ⟨Lib.cell_of_heap hp5 1, by simp [World.frozen?, hp5], hk5.set (Nat.lt_succ_self h) 1 _, set_heap hp5 _, hbg.setCell (p := ⟨h, 1, none⟩) (Nat.le_refl _) _⟩
/-- what show.let does -/
def LetP (B b : Nat) (l : List UInt8) (t : Nd) (w : World) (e : Ending) (w' : World) : Prop :=
  e = .returned (.bool (letN t)) ∧ Aft B b (if letN t = true then l ++ letL t else l) w w'
theorem letP_no {B b : Nat} {l : List UInt8} {t : Nd} {w w' : World} (hl : letN t = false) (h : Bld B b l w) (hB : B ≤ w.heap.size) (hb : Below w.heap.size w w') : LetP B b l t w (.returned (.bool false)) w' :=
  ⟨by rw [hl], by rw [hl]; exact (Aft.start h).after hB hb⟩

set_option maxHeartbeats 8000000 in
theorem slet_any (t : Nd) (a : Option Addr) (cap n₀ B b : Nat) (l : List UInt8) (w : World) (hh : t.hold n₀ w a cap) (hs : shortN t) (hn : n₀ ≤ B) (hB : B ≤ w.heap.size) (he : Env w) (hta : Tab w) (hbl : Bld B b l w) (hsm : ∀ k ∈ t.kids, smallN k = true) (hlen : l.length ≤ 1000000000) :
    Calls Tryz.prog 42 #[.pointer (some ⟨b, 0, none⟩), .agg #[.int .i64 t.kind, .string t.text, .int .i64 t.n, .slice a t.kids.length cap, .int .i64 t.place]] w (LetP B b l t w) := by
  have hnw : n₀ ≤ w.heap.size := Nat.le_trans hn hB
  have hts := hh.bounds.2.1
  have hkc := hh.bounds.2.2.2.2
  have hkl : t.kids.length ≤ 9223372036854775807 := Nat.le_trans hkc.1 hkc.2
  have HH := Lib.hid hh
  have HSH := Lib.hid hs
  have HE := Lib.hid he
  have HTA := Lib.hid hta
  have HBL := Lib.hid hbl
  have HM := Lib.hid hsm
  have LN := Lib.hid (letN_eq t)
  have HB := Lib.hid (nbelow1 w (.cells #[.int .i64 t.kind, .string t.text, .int .i64 t.n, .slice a t.kids.length cap, .int .i64 t.place] 24))
  have B0 := Lib.hid (Boxed.make w t a cap)
  have C0 := Lib.hid (sisNear_any t.text _ hts (he.below HB.out))
  clear hh hs he hta hbl hsm
  cases h1 : t.kind == 3
  · have F := Lib.hid (show letN t = false by rw [LN.out, h1]; rfl)
    have h1' : (t.kind != 3) = true := by rw [bne, h1]; rfl
    go_enter Tryz.func42, Tryz.ntmps42
    go_wp2_with fail
    go_ret
    exact letP_no F.out HBL.out hB HB.out
  have h1' : (t.kind != 3) = false := by rw [bne, h1]; rfl
  go_enter Tryz.func42, Tryz.ntmps42
  go_wp2_with fail
  refine Calls.mono C0.out ?_
  rintro e w2 ⟨rfl, hb⟩
  have HC := Lib.hid (HB.out.trans (hb.mono HB.out.size))
  have B1 := Lib.hid (B0.out.below hb)
  clear hb HB B0 C0
  have c2 := B1.out.c2
  have c3 := B1.out.c3
  cases h2 : nearL t.text.data.toList
  · have F := Lib.hid (show letN t = false by rw [LN.out, h1, h2]; rfl)
    go_wp2_with fail
    go_ret
    exact letP_no F.out HBL.out hB HC.out
  cases h3 : t.n == 0
  · have F := Lib.hid (show letN t = false by rw [LN.out, h1, h2, h3]; rfl)
    have h3' : (t.n != 0) = true := by rw [bne, h3]; rfl
    go_wp2_with fail
    go_ret
    exact letP_no F.out HBL.out hB HC.out
  have h3' : (t.n != 0) = false := by rw [bne, h3]; rfl
  by_cases h4 : (t.kids.length : Int) - 1 < 0
  · have F := Lib.hid (show letN t = false by rw [LN.out, decide_eq_false (show ¬ 1 ≤ t.kids.length by omega)]; simp)
    go_wp2_with fail
    go_ret
    exact letP_no F.out HBL.out hB HC.out
  by_cases h5 : 8 < (t.kids.length : Int) - 1
  · have F := Lib.hid (show letN t = false by rw [LN.out, decide_eq_false (show ¬ t.kids.length ≤ 9 by omega)]; simp)
    go_wp2_with fail
    go_ret
    exact letP_no F.out HBL.out hB HC.out
  have F := Lib.hid (show letN t = (t.kids.dropLast.all (bareN 4) && rightN (lastK t) 1) by
    rw [LN.out, h1, h2, h3, decide_eq_true (show 1 ≤ t.kids.length by omega), decide_eq_true (show t.kids.length ≤ 9 by omega)]; rfl)
  have h6 : 1 ≤ t.kids.length := by omega
  obtain ⟨m, hm⟩ : ∃ m, t.kids.length = m + 1 := ⟨t.kids.length - 1, by omega⟩
  have hus : t.text.size ≤ 24 := by have := near_len h2; rwa [size_list] at this
  obtain ⟨bk, off, x, cx, A⟩ := (HH.out.below (HC.out.mono hnw)).kid m (by omega)
  obtain ⟨hA, hb0, c0, c1, c2', c3', c4, hk1⟩ := A
  have hlast : t.kids[m]'(by omega) = lastK t := by
    rw [← last_get h6]; congr 1; omega
  rw [hlast] at c0 c1 c2' c3' c4 hk1
  have hsl : shortN (lastK t) := by rw [← hlast]; exact HSH.out.kid m (by omega)
  have CE := Lib.hid (expr_any (lastK t) x cx n₀ 1 w2 hk1 hsl (Nat.le_trans hnw HC.out.size) (HE.out.below HC.out) (HTA.out.below HC.out) (by decide) (by decide))
  rw [hA] at c3
  have z1 : ((t.kids.length : Int) - 1) = (m : Int) := by omega
  have hml : m < t.kids.length := by omega
  have HA := Lib.hid hA
  have HZ := Lib.hid hm
  have hm8 : m ≤ 8 := by omega
  have hmc : m ≤ cap := by omega
  have hcm := hkc.2
  unfold maxLen at hcm
  have hdl : t.kids.dropLast = t.kids.take m := by rw [List.dropLast_eq_take, hm, Nat.add_sub_cancel]
  have hlen2 : (t.kids.take m).length = m := by rw [List.length_take]; omega
  have HDL := Lib.hid hdl
  have HLM := Lib.hid hlen2
  have HSM := Lib.hid (HM.out _ (last_mem h6))
  clear hk1 hsl hm hA hdl hlen2 hlast
  go_wp2_with fail
  refine Calls.mono CE.out ?_
  rintro e w3 ⟨hb3, hcase⟩
  have HD := Lib.hid (HC.out.trans (hb3.mono HC.out.size))
  have B2 := Lib.hid (B1.out.below hb3)
  have HCase := Lib.hid hcase
  clear hb3 hcase B1 c0 c1 c2 c2' c3 c3' c4 CE
  have c3 := B2.out.c3
  rw [HA.out] at c3
  rcases HCase.out with ⟨hr, f, fx, rfl, hf, hft, -⟩ | ⟨hr, rfl⟩
  case inr =>
    have F' := Lib.hid (show letN t = false by rw [F.out, hr]; simp)
    clear hr
    go_wp2_with fail
    go_ret
    exact letP_no F'.out HBL.out hB HD.out
  have F2 := Lib.hid (show letN t = t.kids.dropLast.all (bareN 4) by rw [F.out, hr]; simp)
  have HR := Lib.hid hr
  have HF := Lib.hid hf
  have HFT := Lib.hid hft
  clear hr hf hft HCase
  have CC := Lib.hid (show Calls Tryz.prog 62 #[.slice (some ⟨bk, off, none⟩) m cap, .func (.func 66) #[] #[]] w3 fun e w' => e = .returned (.bool (!t.kids.dropLast.all (bareN 4))) ∧ Below w3.heap.size w3 w' by
    have := scontParam_any (t.kids.take m) n₀ (some ⟨bk, off, none⟩) cap w3 (holds_prefix (HA.out ▸ hold_kids (HH.out.below (HD.out.mono hnw))) m) (by rw [HLM.out]; exact hmc) hkc.2 (Nat.le_trans hnw HD.out.size) (HE.out.below HD.out)
    rw [HLM.out, ← HDL.out] at this
    exact this)
  go_wp2_with fail
  refine Calls.mono CC.out ?_
  rintro e w4 ⟨rfl, hb4⟩
  have HD4 := Lib.hid (HD.out.trans (hb4.mono HD.out.size))
  have B3 := Lib.hid (B2.out.below hb4)
  have HF4 := Lib.hid (show f.is (w.heap.size ≤ ·) w4 fx from Fm.is.kept (fun g _ _ hg hh => ⟨Nat.le_trans HC.out.size hg, (hb4.block g (heap_lt hh)).trans hh⟩) f HF.out)
  clear hb4 B2 c3 CC
  have c1 := B3.out.c1
  have c3 := B3.out.c3
  rw [HA.out] at c3
  cases hall : t.kids.dropLast.all (bareN 4)
  · have F' := Lib.hid (show letN t = false by rw [F2.out, hall])
    clear hall
    go_wp2_with fail
    go_ret
    exact letP_no F'.out HBL.out hB HD4.out
  have HAll := Lib.hid hall
  have hlt4 := B3.out.lt
  clear hall HF HC HD
  go_wp2_with fail
  obtain ⟨H, hH⟩ : ∃ H : ByteArray, H = ⟨#[108, 101, 116, 32]⟩ ++ t.text := ⟨_, rfl⟩
  have HH0 := Lib.hid (show H.data.toList = letHead t by rw [hH]; unfold letHead; simp)
  have hHs : H.size ≤ 28 := by
    have h1 := congrArg List.length HH0.out
    rw [size_list] at h1
    rw [h1]
    unfold letHead
    simp only [List.length_append, List.length_cons, List.length_nil, size_list]
    omega
  rw [← hH]
  obtain ⟨h, hh⟩ : ∃ h, h = w4.heap.size := ⟨_, rfl⟩
  have hb5 := nbelow1 w4 (.cells #[.string H, .slice none 0 0] 79)
  have ht5 := heap_top w4 (.cells #[.string H, .slice none 0 0] 79)
  have hsz5 : (w4.alloc (.cells #[.string H, .slice none 0 0] 79)).heap.size = w4.heap.size + 1 := by simp
  generalize hW5 : w4.alloc (.cells #[.string H, .slice none 0 0] 79) = W5 at hb5 ht5 hsz5 ⊢
  clear hW5 hH
  rw [← hh] at ht5 hb5 hsz5 ⊢
  have HB5 := Lib.hid hb5
  have HT5 := Lib.hid ht5
  have hhw : w.heap.size < h := by omega
  have hwh : w.heap.size ≤ h := by omega
  have HHW := Lib.hid hh
  clear hb5 ht5 c1 c3 h1 h1' h2 h3 h3' hh hlt4
  obtain ⟨i0, hi, hz0, hz1, hz2⟩ := info_parts (show (Tryz.prog.info? 60).map (fun i => (i.zero, i.size, i.bytes)) = some (some .nilIface, 1, 16) by kernel_rfl)
  have HI0 := Lib.hid (show _ ∧ _ ∧ _ ∧ _ from ⟨hi, hz0, hz1, hz2⟩)
  have HKD := Lib.hid (show ∀ cur, Below h w4 cur → Nd.holds n₀ cur t.kids (some ⟨bk, off, none⟩) 0 from fun cur hc => HA.out ▸ hold_kids (HH.out.below ((HD4.out.mono hnw).trans (hc.mono (by omega)))))
  clear hi hz0 hz1 hz2
  go_loopw [60] (fun i wr => ∃ (k : Nat) (v : Value) (gx : List (Fm × Value)), k ≤ m ∧ i = .int .i64 k ∧ gx.length = k ∧ Hid (gx.map (fun p => p.1.text) = (t.kids.take k).map fun p => p.text.data.toList) ∧ Hid (KF (h + 1) gx v wr) ∧ Hid (wr.heap[h]? = some (.cells #[.string H, v] 79 (0, 0))) ∧ Hid (Below h w4 wr)) (fun i _ => m - (intOf i).toNat)
  case atStart => exact ⟨0, .slice none 0 0, [], Nat.zero_le _, rfl, rfl, rfl, KF.nil _ _, HT5, HB5⟩
  case round =>
    obtain ⟨k, v, gx, hk, rfl, hgl, HG, HKF, HHP, HBr⟩ := hrel
    have hhr : h < wr.heap.size := heap_lt HHP.out
    by_cases hlt : k < m
    · obtain ⟨b1, o1, y, cy, A⟩ := Nd.holds.at t.kids 0 (HKD.out wr HBr.out) k (by omega)
      rw [Nat.zero_add] at A
      obtain ⟨hA1, hb1, c0, c1, c2, c3, c4, -⟩ := A
      obtain ⟨rfl, rfl⟩ : bk = b1 ∧ off = o1 := by injection hA1 with q; injection q with q1 q2; exact ⟨q1, q2⟩
      have hch := Lib.cell_of_heap HHP.out 1
      have hch1 : wr.cell? ⟨h, 1, none⟩ = some v := hch
      clear hch hA1
      obtain ⟨T, hT⟩ : ∃ T, T = t.kids[k].text := ⟨_, rfl⟩
      have hTl : T.data.toList = t.kids[k].text.data.toList := by rw [hT]
      have hTs : T.size ≤ maxLen := by
        have := near_len (bare_near (List.all_eq_true.1 HAll.out t.kids[k] (dropLast_mem (by rw [HZ.out]; omega) (by omega)))).1
        rw [← hT, size_list] at this
        unfold maxLen; omega
      rw [← hT] at c1
      have HTL := Lib.hid hTl
      have HTS := Lib.hid hTs
      clear hT hTl hTs
      have hb1' := nbelow1 wr (.cells #[.int .i64 t.kids[k].kind, .string T, .int .i64 t.kids[k].n, (.slice y t.kids[k].kids.length cy), .int .i64 t.kids[k].place] 24)
      have HKF1 := Lib.hid (HKF.out.below hb1')
      have HB1 := Lib.hid (HBr.out.trans (hb1'.mono (Nat.le_of_lt hhr)))
      have HP1 := Lib.hid ((hb1'.block h hhr).trans HHP.out)
      have hsz1 : (wr.alloc (.cells #[.int .i64 t.kids[k].kind, .string T, .int .i64 t.kids[k].n, (.slice y t.kids[k].kids.length cy), .int .i64 t.kids[k].place] 24)).heap.size = wr.heap.size + 1 := by simp
      clear hb1'
      have HG5 := Lib.hid (show ((gx ++ [(Fm.leaf T, Value.string T)]).map fun p => p.1.text) = (t.kids.take (k + 1)).map fun p => p.text.data.toList by
        rw [List.map_append, HG.out, List.take_succ_eq_append_getElem (show k < t.kids.length by omega), List.map_append]
        show _ ++ [(Fm.leaf T).text] = _ ++ [t.kids[k].text.data.toList]
        rw [Fm.text, HTL.out])
      go_wp2_with (at_builtin; refine wpList_append_lies _ rfl _ _ 77 rfl (h + 1) 60 i0 .nilIface 1 16 Tryz.underlying77 HI0.out.1 HI0.out.2.1 HI0.out.2.2.1 HI0.out.2.2.2 rfl (by decide) _ _ _ rfl (HKF1.out.own.alloc _) ⟨wr.heap.size + 1, 0, none⟩ 1 1 [.iface 80 (.string T)] rfl rfl (hsz1 ▸ cell_one_new _ _ _) (fun u hu => by simp at hu; subst hu; rfl) (by decide) (by unfold maxLen; omega) (by omega) (by simp; omega) _ rfl ?_; intro g cap' w5 hown' hgrow' hat hltg; have Z := Lib.hid (let_step HKF1.out HB1.out HP1.out HTS.out hown' hgrow' hat); have cc := Z.out.1; have cf := Z.out.2.1; clear hown' hgrow' hat hltg)
      go_roundw
      case rel =>
        obtain ⟨-, -, z3, z4, z5⟩ := Z.out
        rw [hgl] at z3 z4 z5
        exact ⟨k + 1, _, _, by omega, by go_num, by rw [List.length_append, hgl]; rfl, HG5, z3, z4, z5⟩
      case measure => simp [intOf]; omega
    · obtain rfl : k = m := by omega
      have hbw : B ≤ h := by omega
      have A0 := Lib.hid (show Aft B b l w wr from (Aft.start HBL.out).after hB (HD4.out.trans (HBr.out.mono (by omega))))
      have hbb := HBL.out.lt
      have HF5 := Lib.hid (show f.is (· ≠ b) wr fx from Fm.is.kept (fun g _ _ hg hh => ⟨by have : w.heap.size ≤ g := hg; omega, (HBr.out.block g (by have := heap_lt hh; have := HHW.out; omega)).trans hh⟩) f HF4.out)
      have M := mt f fx
      have eg := en f
      have LT := Lib.hid (show letN t = true by rw [F2.out, HAll.out])
      have hfl := small_form HSM.out HR.out
      rw [← HFT.out] at hfl
      have LL := Lib.hid (show letL t = letHead t ++ (if t.kids.length = 1 then [] else listL (t.kids.dropLast.map fun p => p.text.data.toList)) ++ [32, 61, 32] ++ formN (lastK t) ++ [59, 10] from rfl)
      have hpl := params_len LT.out
      have hHl : H.data.toList.length ≤ 28 := by rw [size_list]; exact hHs
      have hBr : B ≤ wr.heap.size := by have := A0.out.size hB; exact this
      clear HBr
      by_cases h0 : k = 0
      · subst h0
        have ch := Lib.cell_of_heap HHP.out 0
        have ch0 : wr.cell? ⟨h, 0, none⟩ = some (.string H) := ch
        have EQ := Lib.hid (show l ++ H.data.toList ++ [32, 61, 32] ++ f.text ++ [59, 10] = l ++ letL t by
          rw [LL.out, if_pos (by rw [HZ.out]), HFT.out, HH0.out]; simp)
        clear ch
        go_wp2_with fail
        refine Calls.mono (bwrite_aft B b l H wr A0.out.bld (by omega) hBr) ?_
        rintro e w6 ⟨rfl, ha⟩
        have A1 := Lib.hid (A0.out.trans ha)
        have HF6 := Lib.hid (Fm.is.aft ha HF5.out)
        clear ha
        go_wp2_with fail
        refine Calls.mono (bwrite_aft B b _ ⟨#[32, 61, 32]⟩ w6 A1.out.bld (by simp only [List.length_append]; show _ + 3 ≤ _; omega) (A1.out.size hB)) ?_
        rintro e w7 ⟨rfl, ha⟩
        have A2 := Lib.hid (A1.out.trans ha)
        have HF7 := Lib.hid (Fm.is.aft ha HF6.out)
        clear ha
        go_wp2_with fail
        refine Calls.mono (writes f fx B b _ w7 HF7.out A2.out.bld (by simp only [List.length_append]; show _ + 3 + _ ≤ _; omega) (A2.out.size hB)) ?_
        rintro e w8 ⟨rfl, ha⟩
        have A3 := Lib.hid (A2.out.trans ha)
        clear ha
        go_wp2_with fail
        refine Calls.mono (bwrite_aft B b _ ⟨#[59, 10]⟩ w8 A3.out.bld (by simp only [List.length_append]; show _ + 3 + _ + 2 ≤ _; omega) (A3.out.size hB)) ?_
        rintro e w9 ⟨rfl, ha⟩
        have A4 := Lib.hid (A3.out.trans ha)
        clear ha
        go_wp2_with fail
        go_ret
        exact ⟨nretB LT.out.symm, by rw [if_pos LT.out, ← EQ.out]; exact A4.out⟩
      · subst hgl
        obtain ⟨g, gc, rfl, hgc, hgm, hare, hcell⟩ := HKF.out.row (by omega)
        have ch := Lib.cell_of_heap HHP.out 0
        have ch0 : wr.cell? ⟨h, 0, none⟩ = some (.string H) := ch
        have ch' := Lib.cell_of_heap HHP.out 1
        have ch1 : wr.cell? ⟨h, 1, none⟩ = some (.slice (some ⟨g, 0, none⟩) gx.length gc) := ch'
        obtain ⟨gs, hgs⟩ : ∃ gs : List Fm, gs = gx.map fun p => p.1 := ⟨_, rfl⟩
        have hgsl : gs.length = gx.length := by rw [hgs, List.length_map]
        rw [← hgs] at hare
        have htx : gs.map Fm.text = t.kids.dropLast.map fun p => p.text.data.toList := by
          rw [hgs, HDL.out, ← HG.out, List.map_map]; rfl
        have hne : gs ≠ [] := by
          intro e
          rw [e] at hgsl
          exact h0 hgsl.symm
        have hct : (Fm.called H gs).text = H.data.toList ++ listL (t.kids.dropLast.map fun p => p.text.data.toList) := by
          rw [Fm.text, List.append_assoc, texts_list _ hne, htx]
        have HCF := Lib.hid (show (Fm.called H gs).is (· ≠ b) wr (.agg #[.string H, .slice (some ⟨g, 0, none⟩) gx.length gc]) from
          ⟨some ⟨g, 0, none⟩, gc, by rw [hgsl], by unfold maxLen; omega, by rw [hgsl]; exact hgc, hgm, Fm.are.kept (fun g' _ _ hg hh => ⟨by have : h + 1 ≤ g' := hg; omega, hh⟩) _ hare⟩)
        have HCT := Lib.hid hct
        have hcl : (Fm.called H gs).text.length ≤ 400 := by rw [hct, List.length_append]; omega
        have EQ := Lib.hid (show l ++ (Fm.called H gs).text ++ [32, 61, 32] ++ f.text ++ [59, 10] = l ++ letL t by
          rw [LL.out, if_neg (by rw [HZ.out]; omega), HFT.out, HCT.out, HH0.out]; simp)
        have CW := Lib.hid (show Calls Tryz.prog 67 #[.agg #[.string H, .slice (some ⟨g, 0, none⟩) gx.length gc], .pointer (some ⟨b, 0, none⟩)] wr fun e w' => e = .returned (.tuple #[]) ∧ Aft B b (l ++ (Fm.called H gs).text) wr w' by
          have hl5 : l.length + (Fm.called H gs).text.length ≤ 1099511627776 := by omega
          exact writes (Fm.called H gs) _ B b l wr HCF.out A0.out.bld hl5 hBr)
        generalize (Fm.called H gs).text = Q at hcl EQ CW
        have e0 : ((gx.length : Int) == 0) = false := by rw [beq_eq_false_iff_ne]; omega
        clear hare hcell htx hne hct HCF HCT ch ch' h0 hgs hgsl
        go_wp2_with fail
        (with_reducible refine Calls.mono CW.out ?_)
        rintro e w6 ⟨rfl, ha⟩
        have A1 := Lib.hid (A0.out.trans ha)
        have HF6 := Lib.hid (Fm.is.aft ha HF5.out)
        clear ha
        go_wp2_with fail
        refine Calls.mono (bwrite_aft B b _ ⟨#[32, 61, 32]⟩ w6 A1.out.bld (by simp only [List.length_append]; show _ + 3 ≤ _; omega) (A1.out.size hB)) ?_
        rintro e w7 ⟨rfl, ha⟩
        have A2 := Lib.hid (A1.out.trans ha)
        have HF7 := Lib.hid (Fm.is.aft ha HF6.out)
        clear ha
        go_wp2_with fail
        refine Calls.mono (writes f fx B b _ w7 HF7.out A2.out.bld (by simp only [List.length_append]; show _ + 3 + _ ≤ _; omega) (A2.out.size hB)) ?_
        rintro e w8 ⟨rfl, ha⟩
        have A3 := Lib.hid (A2.out.trans ha)
        clear ha
        go_wp2_with fail
        refine Calls.mono (bwrite_aft B b _ ⟨#[59, 10]⟩ w8 A3.out.bld (by simp only [List.length_append]; show _ + 3 + _ + 2 ≤ _; omega) (A3.out.size hB)) ?_
        rintro e w9 ⟨rfl, ha⟩
        have A4 := Lib.hid (A3.out.trans ha)
        clear ha
        go_wp2_with fail
        go_ret
        exact ⟨nretB LT.out.symm, by rw [if_pos LT.out, ← EQ.out]; exact A4.out⟩

end Go.Proofs.YtcndknkdhlmdnaaGreatDoor

/-
  show.Module, show.Right: a module written.
-/
namespace Go.Proofs.YtcndknkdhlmdnaaGreatDoor
open Go.RowKit Go.Shelf
set_option maxRecDepth 100000

theorem lets_of (ks : List Nd) : (if firstNot 2 ks < 0 then (ks.length : Int) else firstNot 2 ks) = (impsN ks : Int) := by
  unfold firstNot impsN
  split
  · rename_i h; rw [if_pos (by decide), h]
  · rename_i h; rw [if_neg (by omega)]
theorem modN_eq' (t : Nd) : modN t = (t.kind == 1 && nearL t.text.data.toList && t.n == 0 && smallN t && (decide (impsN t.kids ≤ 100) && decide (t.kids.length - impsN t.kids ≤ 200) && (t.kids.drop (impsN t.kids)).all letN)) := rfl
theorem modP_no {t : Nd} {w w' : World} (h : modN t = false) (hb : Below w.heap.size w w') : (Ending.returned (.tuple #[.string ⟨#[]⟩, .int .i64 90]) = .returned (.tuple #[.string ⟨(modS t).toArray⟩, .int .i64 (modE t)])) ∧ Below w.heap.size w w' := by
  refine ⟨ret_si ?_ ?_, hb⟩
  · unfold modS; rw [if_neg (by rw [h]; decide)]
  · unfold modE; rw [if_neg (by rw [h]; decide)]
theorem imp_len {t : Nd} (hn : nearL t.text.data.toList = true) (hi : impsN t.kids ≤ 100) (k : Nat) (hk : k ≤ impsN t.kids) : (modHead t ++ (t.kids.take k).flatMap impL).length ≤ 5000 := by
  have h0 := near_len hn
  have h1 : ((t.kids.take k).flatMap impL).length ≤ (t.kids.take k).length * 40 := flat_len _ fun x hx => by
    obtain ⟨i, hj, rfl⟩ := List.getElem_of_mem hx
    rw [List.length_take] at hj
    rw [List.getElem_take]
    exact impL_len (imps_bare (by omega) (by omega))
  have h2 : (t.kids.take k).length ≤ 100 := by rw [List.length_take]; omega
  have h4 : (t.kids.take k).length * 40 ≤ 100 * 40 := Nat.mul_le_mul_right _ h2
  unfold modHead
  simp only [List.length_append, List.length_cons, List.length_nil]
  omega

set_option maxHeartbeats 2000000 in
theorem sModule_any (t : Nd) (a : Option Addr) (cap n₀ : Nat) (w : World) (hh : t.hold n₀ w a cap) (hs : shortN t) (hn : n₀ ≤ w.heap.size) (he : Env w) (hta : Tab w) :
    Calls Tryz.prog 15 #[.agg #[.int .i64 t.kind, .string t.text, .int .i64 t.n, .slice a t.kids.length cap, .int .i64 t.place]] w fun e w' => e = .returned (.tuple #[.string ⟨(modS t).toArray⟩, .int .i64 (modE t)]) ∧ Below w.heap.size w w' := by
  have hts := hh.bounds.2.1
  have hkc := hh.bounds.2.2.2.2
  have hkl : t.kids.length ≤ 9223372036854775807 := Nat.le_trans hkc.1 hkc.2
  have hcm := hkc.2
  unfold maxLen at hcm
  have HH := Lib.hid hh
  have HSH := Lib.hid hs
  have HE := Lib.hid he
  have HTA := Lib.hid hta
  have MN := Lib.hid (modN_eq' t)
  have HB := Lib.hid (nbelow1 w (.cells #[.int .i64 t.kind, .string t.text, .int .i64 t.n, .slice a t.kids.length cap, .int .i64 t.place] 24))
  have B0 := Lib.hid (Boxed.make w t a cap)
  have C0 := Lib.hid (sisNear_any t.text _ hts (he.below HB.out))
  clear hh hs he hta
  cases h1 : t.kind == 1
  · have F := Lib.hid (show modN t = false by rw [MN.out, h1]; rfl)
    have h1' : (t.kind != 1) = true := by rw [bne, h1]; rfl
    go_enter Tryz.func15, Tryz.ntmps15
    go_wp2_with fail
    go_ret2
    exact modP_no F.out HB.out
  have h1' : (t.kind != 1) = false := by rw [bne, h1]; rfl
  go_enter Tryz.func15, Tryz.ntmps15
  go_wp2_with fail
  (with_reducible refine Calls.mono C0.out ?_)
  rintro e w1 ⟨rfl, hb⟩
  have HC1 := Lib.hid (HB.out.trans (hb.mono HB.out.size))
  have B1 := Lib.hid (B0.out.below hb)
  clear hb HB B0 C0
  have c0 := B1.out.c0
  have c1 := B1.out.c1
  have c2 := B1.out.c2
  have c3 := B1.out.c3
  have c4 := B1.out.c4
  cases h2 : nearL t.text.data.toList
  · have F := Lib.hid (show modN t = false by rw [MN.out, h1, h2]; rfl)
    go_wp2_with fail
    go_ret2
    exact modP_no F.out HC1.out
  cases h3 : t.n == 0
  · have F := Lib.hid (show modN t = false by rw [MN.out, h1, h2, h3]; rfl)
    have h3' : (t.n != 0) = true := by rw [bne, h3]; rfl
    go_wp2_with fail
    go_ret2
    exact modP_no F.out HC1.out
  have h3' : (t.n != 0) = false := by rw [bne, h3]; rfl
  have CS := Lib.hid (ssmall_any t a cap n₀ w1 (HH.out.below (HC1.out.mono hn)) (Nat.le_trans hn HC1.out.size))
  go_wp2_with fail
  (with_reducible refine Calls.mono CS.out ?_)
  rintro e w2 ⟨rfl, hb⟩
  have HC := Lib.hid (HC1.out.trans (hb.mono HC1.out.size))
  have B2 := Lib.hid (B1.out.below hb)
  clear hb HC1 B1 CS c0 c1 c2 c3 c4
  cases h0 : smallN t
  · have F := Lib.hid (show modN t = false by rw [MN.out, h0]; simp)
    go_wp2_with fail
    go_ret2
    exact modP_no F.out HC.out
  have F := Lib.hid (show modN t = (decide (impsN t.kids ≤ 100) && decide (t.kids.length - impsN t.kids ≤ 200) && (t.kids.drop (impsN t.kids)).all letN) by rw [MN.out, h0, h1, h2, h3]; rfl)
  have HNR := Lib.hid h2
  have HSM := Lib.hid (show ∀ k ∈ t.kids, smallN k = true from fun k hk => small_kid h0 hk)
  have hus : t.text.size ≤ 24 := by have := near_len h2; rwa [size_list] at this
  have hlt2 := B2.out.lt
  have c1 := B2.out.c1
  have c3 := B2.out.c3
  have HB3 := Lib.hid (nbelow1 w2 (.cells #[.pointer none, .slice none 0 0] 48))
  have A0 := Lib.hid (Aft.start (bld_new w2))
  go_wp2_with fail
  generalize hW : w2.alloc (.cells #[.pointer none, .slice none 0 0] 48) = W3 at HB3 A0 ⊢
  clear hW c1 c3
  have HM := Lib.hid (show (⟨#[109, 111, 100, 117, 108, 101, 32]⟩ ++ t.text ++ ⟨#[59, 10]⟩ : ByteArray).data.toList = modHead t by unfold modHead; simp)
  have hms : (⟨#[109, 111, 100, 117, 108, 101, 32]⟩ ++ t.text ++ ⟨#[59, 10]⟩ : ByteArray).size ≤ 40 := by
    rw [← size_list, HM.out]
    unfold modHead
    simp only [List.length_append, List.length_cons, List.length_nil, size_list]; omega
  have CW := Lib.hid (bwrite_aft w2.heap.size w2.heap.size [] _ W3 A0.out.bld (by simp only [List.length_nil, Nat.zero_add]; exact Nat.le_trans hms (by decide)) HB3.out.size)
  clear hms
  (with_reducible refine Calls.mono CW.out ?_)
  rintro e w4 ⟨rfl, ha⟩
  rw [HM.out, List.nil_append] at ha
  have HA1 := Lib.hid ha
  have HD := Lib.hid (HC.out.trans (((HB3.out.trans ha.below)).mono HC.out.size))
  have B4 := Lib.hid (B2.out.mono (HB3.out.trans ha.below) hlt2)
  clear ha CW HM A0 h1 h1' h2 h3 h3' h0
  have c3 := B4.out.c3
  have CI := Lib.hid (sidxImport_any t.kids n₀ a cap w4 (hold_kids (HH.out.below (HD.out.mono hn))) hkc.1 hkc.2 (Nat.le_trans hn HD.out.size) (HE.out.below HD.out))
  go_wp2_with fail
  (with_reducible refine Calls.mono CI.out ?_)
  rintro e w5 ⟨rfl, hb⟩
  have HA2 := Lib.hid (HA1.out.after HB3.out.size hb)
  have HD5 := Lib.hid (HD.out.trans (hb.mono HD.out.size))
  have B5 := Lib.hid (B4.out.below hb)
  have hlt5 := B5.out.lt
  clear hb CI c3 HD B4 HA1
  have c3 := B5.out.c3
  have hfn : (firstNot 2 t.kids = -1 ∧ impsN t.kids = t.kids.length) ∨ (firstNot 2 t.kids = (impsN t.kids : Int) ∧ impsN t.kids < t.kids.length) := by
    have := impsN_le t.kids
    unfold firstNot
    split
    · rename_i h; exact .inl ⟨rfl, h⟩
    · rename_i h; exact .inr ⟨rfl, by unfold impsN at this ⊢; omega⟩
  rcases hfn with ⟨f1, f2⟩ | ⟨f1, f2⟩
  · rw [f1]
    rw [f2] at F
    have HF2 := Lib.hid f2
    clear f1 f2
    by_cases h100 : 100 < (t.kids.length : Int)
    · have F' := Lib.hid (show modN t = false by rw [F.out, decide_eq_false (show ¬ t.kids.length ≤ 100 by omega)]; rfl)
      go_wp2_with fail
      go_ret2
      exact modP_no F'.out HD5.out
    have HIL := Lib.hid (show impsN t.kids ≤ 100 by rw [HF2.out]; omega)
    have F' := Lib.hid (show modN t = true by rw [F.out, decide_eq_true (show t.kids.length ≤ 100 by omega), Nat.sub_self, List.drop_length]; rfl)
    go_wp2_with fail
    clear c3
    go_loopw [57] (fun i wr => ∃ k : Nat, k ≤ t.kids.length ∧ i = .int .i64 k ∧ Hid (Aft w2.heap.size w2.heap.size (modHead t ++ (t.kids.take k).flatMap impL) W3 wr)) (fun i _ => t.kids.length - (intOf i).toNat)
    case atStart => exact ⟨0, Nat.zero_le _, rfl, by show Aft _ _ _ _ _; rw [List.take_zero, List.flatMap_nil, List.append_nil]; exact HA2.out⟩
    case round =>
      obtain ⟨k, hk, rfl, HAr⟩ := hrel
      clear HA2 HD5
      have HBw := Lib.hid (HC.out.trans ((HB3.out.trans HAr.out.below).mono HC.out.size))
      have BX := Lib.hid (B2.out.mono (HB3.out.trans HAr.out.below) hlt2)
      by_cases hlt : k < t.kids.length
      · have hbare := imps_bare (show k < impsN t.kids by rw [HF2.out]; exact hlt) (by omega)
        obtain ⟨b, off, y, cy, A⟩ := (HH.out.below (HBw.out.mono hn)).kid k (by omega)
        obtain ⟨rfl, hb0, d0, d1, d2, d3, d4, hk1⟩ := A
        have S := Lib.hid (flat_step (f := impL) t.kids k (by omega))
        have hks : t.kids[k].text.size ≤ 24 := by have := near_len (bare_near hbare).1; rwa [size_list] at this
        have HI := Lib.hid (show (⟨#[105, 109, 112, 111, 114, 116, 32]⟩ ++ t.kids[k].text ++ ⟨#[59, 10]⟩ : ByteArray).data.toList = impL t.kids[k] by unfold impL; simp)
        have his : (⟨#[105, 109, 112, 111, 114, 116, 32]⟩ ++ t.kids[k].text ++ ⟨#[59, 10]⟩ : ByteArray).size ≤ 40 := by
          rw [← size_list, HI.out]; exact impL_len hbare
        have hml := imp_len HNR.out HIL.out k (by rw [HF2.out]; omega)
        have A1 := Lib.hid (HAr.out.after HB3.out.size (nbelow1 wr (.cells #[.int .i64 t.kids[k].kind, .string t.kids[k].text, .int .i64 t.kids[k].n, .slice y t.kids[k].kids.length cy, .int .i64 t.kids[k].place] 24)))
        have CW := Lib.hid (bwrite_aft w2.heap.size w2.heap.size _ (⟨#[105, 109, 112, 111, 114, 116, 32]⟩ ++ t.kids[k].text ++ ⟨#[59, 10]⟩ : ByteArray) _ A1.out.bld (by omega) (A1.out.size HB3.out.size))
        clear hbare hk1 his hml
        go_wp2_with fail
        (with_reducible refine Calls.mono CW.out ?_)
        rintro e w6 ⟨rfl, ha⟩
        rw [HI.out, List.append_assoc, ← S.out] at ha
        have A2 := Lib.hid (A1.out.trans ha)
        clear ha
        go_wp2_with fail
        go_roundw
        case rel => exact ⟨k + 1, by omega, by go_num, A2⟩
        case measure => simp [intOf]; omega
      · have hkz : k = t.kids.length := by omega
        subst hkz
        have c3 := BX.out.c3
        go_wp2_with fail
        all_goals
          have HAz := HAr
          clear HAr BX c3
          generalize wr = wo at HAz HBw ⊢
          go_loopw [72] (fun i x => i = .int .i64 0 ∧ Hid (Aft w2.heap.size w2.heap.size (modHead t ++ (t.kids.take t.kids.length).flatMap impL) W3 x)) (fun _ _ => 0)
          case atStart => exact ⟨rfl, HAz⟩
          case round =>
            obtain ⟨rfl, HAy⟩ := hrel
            clear HAz HBw
            have CB := Lib.hid (bstring_any w2.heap.size w2.heap.size _ wr HAy.out.bld (HAy.out.size HB3.out.size))
            go_wp2_with fail
            (with_reducible refine Calls.mono CB.out ?_)
            rintro e w6 ⟨rfl, -, hb6, -⟩
            have HE6 := Lib.hid (HC.out.trans ((HB3.out.trans (HAy.out.below.trans hb6)).mono HC.out.size))
            clear hb6
            go_wp2_with fail
            go_ret2
            exact ⟨ret_si (by unfold modS; rw [if_pos F'.out]; unfold modL; rw [HF2.out, List.drop_length, List.flatMap_nil, List.append_nil, List.take_length]) (by unfold modE; rw [if_pos F'.out]), HE6.out⟩
  · rw [f1]
    have hL := impsN_le t.kids
    have HF1 := Lib.hid (show firstNot 2 t.kids = (impsN t.kids : Int) from f1)
    obtain ⟨L, hLe⟩ : ∃ L, L = impsN t.kids := ⟨_, rfl⟩
    rw [← hLe] at F f2 ⊢
    have HF2 := Lib.hid hLe.symm
    clear f1 hL hLe HF1
    by_cases h100 : 100 < (L : Int)
    · have F' := Lib.hid (show modN t = false by rw [F.out, decide_eq_false (show ¬ L ≤ 100 by omega)]; rfl)
      go_wp2_with fail
      go_ret2
      exact modP_no F'.out HD5.out
    by_cases h200 : 200 < (t.kids.length : Int) - L
    · have F' := Lib.hid (show modN t = false by rw [F.out, decide_eq_false (show ¬ t.kids.length - L ≤ 200 by omega)]; simp)
      go_wp2_with fail
      go_ret2
      exact modP_no F'.out HD5.out
    have HIL := Lib.hid (show impsN t.kids ≤ 100 by rw [HF2.out]; omega)
    have F' := Lib.hid (show modN t = (t.kids.drop L).all letN by rw [F.out, decide_eq_true (show L ≤ 100 by omega), decide_eq_true (show t.kids.length - L ≤ 200 by omega)]; rfl)
    have hLc : L < cap := by omega
    go_wp2_with fail
    clear c3
    go_loopw [57] (fun i wr => ∃ k : Nat, k ≤ L ∧ i = .int .i64 k ∧ Hid (Aft w2.heap.size w2.heap.size (modHead t ++ (t.kids.take k).flatMap impL) W3 wr)) (fun i _ => L - (intOf i).toNat)
    case atStart => exact ⟨0, Nat.zero_le _, rfl, by show Aft _ _ _ _ _; rw [List.take_zero, List.flatMap_nil, List.append_nil]; exact HA2.out⟩
    case round =>
      obtain ⟨k, hk, rfl, HAr⟩ := hrel
      clear HA2 HD5
      have HBw := Lib.hid (HC.out.trans ((HB3.out.trans HAr.out.below).mono HC.out.size))
      have BX := Lib.hid (B2.out.mono (HB3.out.trans HAr.out.below) hlt2)
      by_cases hlt : k < L
      · have hbare := imps_bare (show k < impsN t.kids by rw [HF2.out]; exact hlt) (by omega)
        obtain ⟨b, off, y, cy, A⟩ := (HH.out.below (HBw.out.mono hn)).kid k (by omega)
        obtain ⟨rfl, hb0, d0, d1, d2, d3, d4, hk1⟩ := A
        have S := Lib.hid (flat_step (f := impL) t.kids k (by omega))
        have hks : t.kids[k].text.size ≤ 24 := by have := near_len (bare_near hbare).1; rwa [size_list] at this
        have HI := Lib.hid (show (⟨#[105, 109, 112, 111, 114, 116, 32]⟩ ++ t.kids[k].text ++ ⟨#[59, 10]⟩ : ByteArray).data.toList = impL t.kids[k] by unfold impL; simp)
        have his : (⟨#[105, 109, 112, 111, 114, 116, 32]⟩ ++ t.kids[k].text ++ ⟨#[59, 10]⟩ : ByteArray).size ≤ 40 := by
          rw [← size_list, HI.out]; exact impL_len hbare
        have hml := imp_len HNR.out HIL.out k (by rw [HF2.out]; omega)
        have A1 := Lib.hid (HAr.out.after HB3.out.size (nbelow1 wr (.cells #[.int .i64 t.kids[k].kind, .string t.kids[k].text, .int .i64 t.kids[k].n, .slice y t.kids[k].kids.length cy, .int .i64 t.kids[k].place] 24)))
        have CW := Lib.hid (bwrite_aft w2.heap.size w2.heap.size _ (⟨#[105, 109, 112, 111, 114, 116, 32]⟩ ++ t.kids[k].text ++ ⟨#[59, 10]⟩ : ByteArray) _ A1.out.bld (by omega) (A1.out.size HB3.out.size))
        clear hbare hk1 his hml
        go_wp2_with fail
        (with_reducible refine Calls.mono CW.out ?_)
        rintro e w6 ⟨rfl, ha⟩
        rw [HI.out, List.append_assoc, ← S.out] at ha
        have A2 := Lib.hid (A1.out.trans ha)
        clear ha
        go_wp2_with fail
        go_roundw
        case rel => exact ⟨k + 1, by omega, by go_num, A2⟩
        case measure => simp [intOf]; omega
      · have hkz : k = L := by omega
        subst hkz
        obtain ⟨b, off, y0, cy0, A⟩ := (HH.out.below (HBw.out.mono hn)).kid k f2
        obtain ⟨rfl, hb0, -, -, -, -, -, -⟩ := A
        obtain ⟨m, hm⟩ : ∃ m, t.kids.length = k + m := ⟨t.kids.length - k, by omega⟩
        have c3 := BX.out.c3
        have HZ := Lib.hid hm
        have hm2 : m ≤ 200 := by omega
        clear hm
        go_wp2_with fail
        rw [show t.kids.length - k = m by have := HZ.out; omega]
        have hml := imp_len HNR.out HIL.out k (by rw [HF2.out]; omega)
        have HAz := HAr
        clear HAr BX c3 B5 F h100 h200 hlt hlt5
        generalize wr = wo at HAz HBw ⊢
        go_loopw [72] (fun i x => ∃ j : Nat, j ≤ m ∧ i = .int .i64 j ∧ Hid (Aft w2.heap.size w2.heap.size (modHead t ++ (t.kids.take k).flatMap impL ++ ((t.kids.drop k).take j).flatMap letL) W3 x) ∧ Hid (∀ i (hi : i < t.kids.length), k ≤ i → i < k + j → letN t.kids[i] = true) ∧ (((t.kids.drop k).take j).flatMap letL).length ≤ j * 1100000) (fun i _ => m - (intOf i).toNat)
        case atStart => exact ⟨0, Nat.zero_le _, rfl, by show Aft _ _ _ _ _; rw [List.take_zero, List.flatMap_nil, List.append_nil]; exact HAz.out, fun i hi h h' => by omega, by simp⟩
        case round =>
          obtain ⟨j, hj, rfl, HAy, HAll, hjl⟩ := hrel
          clear HAz HBw
          have HBw := Lib.hid (HC.out.trans ((HB3.out.trans HAy.out.below).mono HC.out.size))
          by_cases hlt : j < m
          · have hkj : k + j < t.kids.length := by have := HZ.out; omega
            obtain ⟨b', off', y, cy, A⟩ := (HH.out.below (HBw.out.mono hn)).kid (k + j) hkj
            obtain ⟨hA, hb0', d0, d1, d2, d3, d4, hk1⟩ := A
            obtain ⟨rfl, rfl⟩ : b = b' ∧ off = off' := by injection hA with q; injection q with q1 q2; exact ⟨q1, q2⟩
            have eadd : off + (k + j) * 5 = off + k * 5 + j * 5 := by omega
            rw [eadd] at d0 d1 d2 d3 d4
            have S := Lib.hid (show ((t.kids.drop k).take (j + 1)).flatMap letL = ((t.kids.drop k).take j).flatMap letL ++ letL t.kids[k + j] by
              have := flat_step (f := letL) (t.kids.drop k) j (by rw [List.length_drop]; omega)
              rwa [List.getElem_drop] at this)
            have hsk := HSM.out _ (List.getElem_mem hkj)
            have hb1 := nbelow1 wr (.cells #[.int .i64 t.kids[k + j].kind, .string t.kids[k + j].text, .int .i64 t.kids[k + j].n, .slice y t.kids[k + j].kids.length cy, .int .i64 t.kids[k + j].place] 24)
            have A1 := Lib.hid (HAy.out.after HB3.out.size hb1)
            have hBx : w2.heap.size ≤ wr.heap.size := HAy.out.size HB3.out.size
            have HB1 := Lib.hid (HBw.out.trans (hb1.mono HBw.out.size))
            have hll : (modHead t ++ (t.kids.take k).flatMap impL ++ ((t.kids.drop k).take j).flatMap letL).length ≤ 1000000000 := by
              rw [List.length_append]; omega
            have CL := Lib.hid (slet_any t.kids[k + j] y cy n₀ w2.heap.size w2.heap.size _ _ (hk1.below (hb1.mono (Nat.le_trans hn HBw.out.size))) (HSH.out.kid (k + j) hkj) (Nat.le_trans hn HC.out.size) (A1.out.size HB3.out.size) (HE.out.below HB1.out) (HTA.out.below HB1.out) A1.out.bld (fun u hu => small_kid hsk hu) hll)
            have HLL := Lib.hid (show letN t.kids[k + j] = true → (letL t.kids[k + j]).length ≤ 1100000 from fun h => letL_len h (small_kid hsk (last_mem (let_parts h).2.1)))
            clear hk1 hA hsk hb1 hll eadd
            go_wp2_with fail
            (with_reducible refine Calls.mono CL.out ?_)
            rintro e w6 ⟨rfl, ha⟩
            have HA6 := Lib.hid ha
            clear ha CL
            cases hlet : letN t.kids[k + j]
            · have F2 := Lib.hid (show modN t = false by rw [F'.out, all_not (mem_drop hkj (Nat.le_add_right _ _)) hlet])
              have HE6 := Lib.hid (HC.out.trans ((HB3.out.trans (A1.out.below.trans HA6.out.below)).mono HC.out.size))
              clear hlet
              go_wp2_with fail
              go_ret2
              exact modP_no F2.out HE6.out
            · have HLT := Lib.hid hlet
              have hl2 := HLL.out hlet
              rw [if_pos hlet, List.append_assoc, ← S.out] at HA6
              have A2 := Lib.hid (A1.out.trans HA6.out)
              have hjl2 : (((t.kids.drop k).take (j + 1)).flatMap letL).length ≤ (j + 1) * 1100000 := by
                rw [S.out, List.length_append]; omega
              clear hlet hl2
              go_wp2_with fail
              go_roundw
              case rel =>
                refine ⟨j + 1, by omega, by go_num, A2, fun i hi h h' => ?_, hjl2⟩
                by_cases e : i = k + j
                · subst e; exact HLT.out
                · exact HAll.out i hi h (by omega)
              case measure => simp [intOf]; omega
          · have F2 := Lib.hid (show modN t = true by rw [F'.out, all_drop fun i hi h => HAll.out i hi h (by have := HZ.out; omega)])
            have CB := Lib.hid (bstring_any w2.heap.size w2.heap.size _ wr HAy.out.bld (HAy.out.size HB3.out.size))
            have T := Lib.hid (show (t.kids.drop k).take j = t.kids.drop k from List.take_of_length_le (by rw [List.length_drop, HZ.out]; omega))
            go_wp2_with fail
            (with_reducible refine Calls.mono CB.out ?_)
            rintro e w6 ⟨rfl, -, hb6, -⟩
            have HE6 := Lib.hid (HC.out.trans ((HB3.out.trans (HAy.out.below.trans hb6)).mono HC.out.size))
            clear hb6
            go_wp2_with fail
            go_ret2
            exact ⟨ret_si (by unfold modS; rw [if_pos F2.out, T.out]; unfold modL; rw [HF2.out]; simp only [List.append_assoc]) (by unfold modE; rw [if_pos F2.out]), HE6.out⟩

set_option maxHeartbeats 1000000 in
theorem sRight_any (t : Nd) (a : Option Addr) (cap n₀ : Nat) (w : World) (hh : t.hold n₀ w a cap) (hs : shortN t) (hn : n₀ ≤ w.heap.size) (he : Env w) (hta : Tab w) :
    Calls Tryz.prog 19 #[.agg #[.int .i64 t.kind, .string t.text, .int .i64 t.n, .slice a t.kids.length cap, .int .i64 t.place]] w fun e w' => e = .returned (.bool (modN t)) ∧ Below w.heap.size w w' := by
  have HB := Lib.hid (nbelow1 w (.cells #[.int .i64 t.kind, .string t.text, .int .i64 t.n, .slice a t.kids.length cap, .int .i64 t.place] 24))
  have C := Lib.hid (sModule_any t a cap n₀ _ (hh.below (HB.out.mono hn)) hs (Nat.le_trans hn HB.out.size) (he.below HB.out) (hta.below HB.out))
  clear hh hs he hta
  cases hm : modN t
  · have HM := Lib.hid hm
    have e0 : modE t = 90 := by unfold modE; rw [if_neg (by rw [hm]; decide)]
    rw [e0] at C
    clear hm e0
    go_enter Tryz.func19, Tryz.ntmps19
    go_wp2_with fail
    (with_reducible refine Calls.mono C.out ?_)
    rintro e w2 ⟨rfl, hb⟩
    have HC := Lib.hid (HB.out.trans (hb.mono HB.out.size))
    clear hb
    go_wp2_with fail
    go_ret
    exact ⟨rfl, HC.out⟩
  · have HM := Lib.hid hm
    have e0 : modE t = 0 := by unfold modE; rw [if_pos hm]
    rw [e0] at C
    clear hm e0
    go_enter Tryz.func19, Tryz.ntmps19
    go_wp2_with fail
    (with_reducible refine Calls.mono C.out ?_)
    rintro e w2 ⟨rfl, hb⟩
    have HC := Lib.hid (HB.out.trans (hb.mono HB.out.size))
    clear hb
    go_wp2_with fail
    go_ret
    exact ⟨rfl, HC.out⟩

end Go.Proofs.YtcndknkdhlmdnaaGreatDoor
