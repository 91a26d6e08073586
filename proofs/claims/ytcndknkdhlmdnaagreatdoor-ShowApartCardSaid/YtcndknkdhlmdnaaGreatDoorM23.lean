/-
  Texts that the statements' proofs rest on, one behind another: ShowQ, ShowY, ShownLaw, ShowZ.
-/
import Derived.Test.YtcndknkdhlmdnaaGreatDoorM22
import Derived.Test.YtcndknkdhlmdnaaGreatDoorM07
import Derived.Test.YtcndknkdhlmdnaaGreatDoorM20
import Derived.Test.YtcndknkdhlmdnaaGreatDoorM13
import Derived.Test.YtcndknkdhlmdnaaGreatDoorM05

/-
  show.whole, show.RightExpr, show.Expr.
-/
namespace Go.Proofs.YtcndknkdhlmdnaaGreatDoor
open Go.RowKit Go.Shelf
set_option maxRecDepth 100000

theorem Boxed.hold_make (w : World) (t : Nd) (a : Option Addr) (cap : Nat) : Boxed w.heap.size t a cap (w.alloc (.cells #[.int .i64 t.kind, .string t.text, .int .i64 t.n, .slice a t.kids.length cap, .int .i64 t.place] 24)) := Boxed.make w t a cap
/-- what show.whole hands back -/
def WholeP (t : Nd) (w : World) (e : Ending) (w' : World) : Prop :=
  Below w.heap.size w w' ∧ ((rightE t = true ∧ ∃ (f : Fm) (x : Value), e = .returned (.iface f.ty x) ∧ f.is (w.heap.size ≤ ·) w' x ∧ f.text = formN t ∧ f.wrap = wrapK t.kind) ∨ (rightE t = false ∧ e = .returned .nilIface))

set_option maxHeartbeats 1000000 in
theorem whole_any (t : Nd) (a : Option Addr) (cap n₀ : Nat) (w : World) (hh : t.hold n₀ w a cap) (hs : shortN t) (hn : n₀ ≤ w.heap.size) (he : Env w) (ht : Tab w) :
    Calls Tryz.prog 46 #[.agg #[.int .i64 t.kind, .string t.text, .int .i64 t.n, .slice a t.kids.length cap, .int .i64 t.place]] w (WholeP t w) := by
  have HH := Lib.hid hh
  have HS := Lib.hid hs
  have HE := Lib.hid he
  have HT := Lib.hid ht
  have R := Lib.hid (show rightE t = (smallN t && rightN t 1) from rfl)
  clear hh hs he ht
  have HB := Lib.hid (nbelow1 w (.cells #[.int .i64 t.kind, .string t.text, .int .i64 t.n, .slice a t.kids.length cap, .int .i64 t.place] 24))
  have B0 := Lib.hid (Boxed.make w t a cap)
  go_enter Tryz.func46, Tryz.ntmps46
  go_wp2_with fail
  generalize hW : w.alloc (.cells #[.int .i64 t.kind, .string t.text, .int .i64 t.n, .slice a t.kids.length cap, .int .i64 t.place] 24) = W1 at HB B0 ⊢
  clear hW
  refine Calls.mono (ssmall_any t a cap n₀ W1 (HH.out.below (HB.out.mono hn)) (Nat.le_trans hn HB.out.size)) ?_
  rintro e w2 ⟨rfl, hb⟩
  have HC := Lib.hid (HB.out.trans (hb.mono HB.out.size))
  have B1 := Lib.hid (B0.out.below hb)
  clear hb HB B0
  have c0 := B1.out.c0
  have c1 := B1.out.c1
  have c2 := B1.out.c2
  have c3 := B1.out.c3
  have c4 := B1.out.c4
  cases hq : smallN t
  · have F := Lib.hid (show rightE t = false by rw [R.out, hq]; rfl)
    go_wp2_with fail
    go_ret
    exact ⟨HC.out, .inr ⟨F.out, rfl⟩⟩
  · have F := Lib.hid (show rightE t = rightN t 1 by rw [R.out, hq]; rfl)
    go_wp2_with fail
    refine Calls.mono (expr_any t a cap n₀ 1 w2 (HH.out.below (HC.out.mono hn)) HS.out (Nat.le_trans hn HC.out.size) (HE.out.below HC.out) (HT.out.below HC.out) (by decide) (by decide)) ?_
    rintro e w3 ⟨hb, ⟨hr, f, x, rfl, hf, hft, hfw⟩ | ⟨hr, rfl⟩⟩
    · have HD := Lib.hid (HC.out.trans (hb.mono HC.out.size))
      have HF := Lib.hid (show rightE t = true ∧ f.is (w.heap.size ≤ ·) w3 x ∧ f.text = formN t ∧ f.wrap = wrapK t.kind from ⟨by rw [F.out, hr], Fm.is.kept (fun _ _ _ h h' => ⟨Nat.le_trans HC.out.size h, h'⟩) f hf, hft, hfw⟩)
      clear hb hr hf hft hfw
      go_wp2_with fail
      go_ret
      exact ⟨HD.out, .inl ⟨HF.out.1, f, x, rfl, HF.out.2⟩⟩
    · have HD := Lib.hid (HC.out.trans (hb.mono HC.out.size))
      have F' := Lib.hid (show rightE t = false by rw [F.out, hr])
      clear hb hr
      go_wp2_with fail
      go_ret
      exact ⟨HD.out, .inr ⟨F'.out, rfl⟩⟩

set_option maxHeartbeats 1000000 in
theorem sRightExpr_any (t : Nd) (a : Option Addr) (cap n₀ : Nat) (w : World) (hh : t.hold n₀ w a cap) (hs : shortN t) (hn : n₀ ≤ w.heap.size) (he : Env w) (ht : Tab w) :
    Calls Tryz.prog 21 #[.agg #[.int .i64 t.kind, .string t.text, .int .i64 t.n, .slice a t.kids.length cap, .int .i64 t.place]] w fun e w' => e = .returned (.bool (rightE t)) ∧ Below w.heap.size w w' := by
  have HB := Lib.hid (nbelow1 w (.cells #[.int .i64 t.kind, .string t.text, .int .i64 t.n, .slice a t.kids.length cap, .int .i64 t.place] 24))
  have C := Lib.hid (whole_any t a cap n₀ _ (hh.below (HB.out.mono hn)) hs (Nat.le_trans hn HB.out.size) (he.below HB.out) (ht.below HB.out))
  clear hh hs he ht
  go_enter Tryz.func21, Tryz.ntmps21
  go_wp2_with fail
  refine Calls.mono C.out ?_
  rintro e w3 ⟨hb, ⟨hr, f, x, rfl, -⟩ | ⟨hr, rfl⟩⟩
  all_goals
    have HD := Lib.hid (HB.out.trans (hb.mono HB.out.size))
    have HR := Lib.hid hr
    clear hb hr
    go_wp2_with fail
    go_ret
    exact ⟨nretB HR.out.symm, HD.out⟩

/-- the form's text, or none; and what is wrong -/
def exprS (t : Nd) : List UInt8 := if rightE t = true then formN t else []
def exprE (t : Nd) : Int := if rightE t = true then 0 else 90
theorem bld_new (w : World) : Bld w.heap.size w.heap.size [] (w.alloc (.cells #[.pointer none, .slice none 0 0] 48)) :=
  Or.inl ⟨Nat.le_refl _, .slice none 0 0, heap_top w _, World.ownsRowF_of (World.ownsRow_nil _ _ _ 1), by simp [Value.ownBlock]⟩
theorem ret_si {s s' : ByteArray} {a b : Int} (h : s = s') (h' : a = b) : Ending.returned (.tuple #[.string s, .int .i64 a]) = .returned (.tuple #[.string s', .int .i64 b]) := by rw [h, h']

set_option maxHeartbeats 2000000 in
theorem sExpr_any (t : Nd) (a : Option Addr) (cap n₀ : Nat) (w : World) (hh : t.hold n₀ w a cap) (hs : shortN t) (hn : n₀ ≤ w.heap.size) (he : Env w) (ht : Tab w) :
    Calls Tryz.prog 17 #[.agg #[.int .i64 t.kind, .string t.text, .int .i64 t.n, .slice a t.kids.length cap, .int .i64 t.place]] w fun e w' => e = .returned (.tuple #[.string ⟨(exprS t).toArray⟩, .int .i64 (exprE t)]) ∧ Below w.heap.size w w' := by
  have HB := Lib.hid (nbelow1 w (.cells #[.int .i64 t.kind, .string t.text, .int .i64 t.n, .slice a t.kids.length cap, .int .i64 t.place] 24))
  have C := Lib.hid (whole_any t a cap n₀ _ (hh.below (HB.out.mono hn)) hs (Nat.le_trans hn HB.out.size) (he.below HB.out) (ht.below HB.out))
  clear hh hs he ht
  go_enter Tryz.func17, Tryz.ntmps17
  go_wp2_with fail
  refine Calls.mono C.out ?_
  rintro e w3 ⟨hb, ⟨hr, f, x, rfl, hf, hft, -⟩ | ⟨hr, rfl⟩⟩
  · have HD := Lib.hid (HB.out.trans (hb.mono HB.out.size))
    have HR := Lib.hid hr
    have hlen : ([] : List UInt8).length + f.text.length ≤ 1099511627776 := by
      have := hr
      unfold rightE at this
      rw [Bool.and_eq_true] at this
      have := small_form this.1 this.2
      rw [hft]
      show 0 + _ ≤ _
      omega
    have HFT := Lib.hid hft
    have A0 := Lib.hid (Aft.start (bld_new w3))
    have HF := Lib.hid (show f.is (· ≠ w3.heap.size) (w3.alloc (.cells #[.pointer none, .slice none 0 0] 48)) x from
      Fm.is.kept (fun g _ _ _ h' => ⟨by have := heap_lt h'; show g ≠ _; omega, (Lib.alloc_old w3 _ g (heap_lt h')).trans h'⟩) f hf)
    have HB3 := Lib.hid (nbelow1 w3 (.cells #[.pointer none, .slice none 0 0] 48))
    clear hb hr hf hft
    have M := mt f x
    have eg := en f
    go_wp2_with fail
    generalize hW : w3.alloc (.cells #[.pointer none, .slice none 0 0] 48) = W4 at A0 HF HB3 ⊢
    clear hW
    refine Calls.mono (writes f x w3.heap.size w3.heap.size [] W4 HF.out A0.out.bld hlen HB3.out.size) ?_
    rintro e w5 ⟨rfl, ha⟩
    have A1 := Lib.hid ha
    clear ha
    go_wp2_with fail
    refine Calls.mono (bstring_any w3.heap.size w3.heap.size _ w5 A1.out.bld (A1.out.size HB3.out.size)) ?_
    rintro e w6 ⟨rfl, -, hb6, -⟩
    have HE6 := Lib.hid (HD.out.trans ((HB3.out.trans (A1.out.below.trans hb6)).mono HD.out.size))
    clear hb6
    go_wp2_with fail
    go_ret2
    exact ⟨ret_si (by unfold exprS; rw [if_pos HR.out, ← HFT.out]) (by unfold exprE; rw [if_pos HR.out]), HE6.out⟩
  · have HD := Lib.hid (HB.out.trans (hb.mono HB.out.size))
    have HR := Lib.hid hr
    clear hb hr
    go_wp2_with fail
    go_ret2
    exact ⟨ret_si (by unfold exprS; rw [if_neg (by rw [HR.out]; decide)]) (by unfold exprE; rw [if_neg (by rw [HR.out]; decide)]), HD.out⟩

end Go.Proofs.YtcndknkdhlmdnaaGreatDoor

/-
  usanceref09: expressions and modules written.
-/
namespace Go.Proofs.YtcndknkdhlmdnaaGreatDoor
open Go.RowKit
set_option maxRecDepth 100000

set_option maxHeartbeats 2000000 in
theorem rExpr_any (t : Nd) (a : Option Addr) (cap n₀ : Nat) (w : World) (hh : t.hold n₀ w a cap) (hn : n₀ ≤ w.heap.size) :
    Calls Tryz.prog 18 #[.agg #[.int .i64 t.kind, .string t.text, .int .i64 t.n, .slice a t.kids.length cap, .int .i64 t.place]] w fun e w' => e = .returned (.tuple #[.string ⟨(exprS t).toArray⟩, .int .i64 (exprE t)]) ∧ Below w.heap.size w w' := by
  have HH := Lib.hid hh
  clear hh
  have HB := Lib.hid (nbelow1 w (.cells #[.int .i64 t.kind, .string t.text, .int .i64 t.n, .slice a t.kids.length cap, .int .i64 t.place] 24))
  have B0 := Lib.hid (Boxed.make w t a cap)
  go_enter Tryz.func18, Tryz.ntmps18
  go_wp2_with fail
  generalize hW : w.alloc (.cells #[.int .i64 t.kind, .string t.text, .int .i64 t.n, .slice a t.kids.length cap, .int .i64 t.place] 24) = W1 at HB B0 ⊢
  clear hW
  refine Calls.mono (rRightExpr_any t a cap n₀ W1 (HH.out.below (HB.out.mono hn)) (Nat.le_trans hn HB.out.size)) ?_
  rintro e w2 ⟨rfl, hb⟩
  have HC := Lib.hid (HB.out.trans (hb.mono HB.out.size))
  have B1 := Lib.hid (B0.out.below hb)
  clear hb HB B0
  have c0 := B1.out.c0
  have c1 := B1.out.c1
  have c2 := B1.out.c2
  have c3 := B1.out.c3
  have c4 := B1.out.c4
  cases hr : rightE t
  · have HR := Lib.hid hr
    clear hr
    go_wp2_with fail
    go_ret2
    exact ⟨ret_si (by unfold exprS; rw [if_neg (by rw [HR.out]; decide)]) (by unfold exprE; rw [if_neg (by rw [HR.out]; decide)]), HC.out⟩
  · have HR := Lib.hid hr
    have hr' := hr
    unfold rightE at hr'
    rw [Bool.and_eq_true] at hr'
    have C := Lib.hid (rform_any t n₀ 1 hr'.2 (Nat.le_trans (small_form hr'.1 hr'.2) (by decide)) a cap w2 (HH.out.below (HC.out.mono hn)) (Nat.le_trans hn HC.out.size))
    clear hr hr'
    go_wp2_with fail
    refine Calls.mono C.out ?_
    rintro e w3 ⟨rfl, hb⟩
    have HD := Lib.hid (HC.out.trans (hb.mono HC.out.size))
    clear hb
    go_wp2_with fail
    go_ret2
    exact ⟨ret_si (by unfold exprS; rw [if_pos HR.out]) (by unfold exprE; rw [if_pos HR.out]), HD.out⟩

/-- the module's text, or none; and what is wrong -/
def modS (t : Nd) : List UInt8 := if modN t = true then modL t else []
def modE (t : Nd) : Int := if modN t = true then 0 else 90
theorem holds_prefix {n₀ : Nat} {W : World} {a : Option Addr} {ks : List Nd} (h : Nd.holds n₀ W ks a 0) (n : Nat) : Nd.holds n₀ W (ks.take n) a 0 :=
  Nd.holds.of _ 0 fun j hj => by
    rw [List.length_take] at hj
    have := Nd.holds.at ks 0 h j (by omega)
    rw [List.getElem_take]
    exact this
theorem hold_kids {n₀ : Nat} {W : World} {t : Nd} {a : Option Addr} {cap : Nat} (h : t.hold n₀ W a cap) : Nd.holds n₀ W t.kids a 0 := by
  cases t with
  | mk kind s n ks p => exact h.2.2.2.2.2.2

set_option maxHeartbeats 8000000 in
theorem rModule_any (t : Nd) (a : Option Addr) (cap n₀ : Nat) (w : World) (hh : t.hold n₀ w a cap) (hn : n₀ ≤ w.heap.size) :
    Calls Tryz.prog 16 #[.agg #[.int .i64 t.kind, .string t.text, .int .i64 t.n, .slice a t.kids.length cap, .int .i64 t.place]] w fun e w' => e = .returned (.tuple #[.string ⟨(modS t).toArray⟩, .int .i64 (modE t)]) ∧ Below w.heap.size w w' := by
  have hkc := hh.bounds.2.2.2.2
  have hkl : t.kids.length ≤ 9223372036854775807 := Nat.le_trans hkc.1 hkc.2
  have HH := Lib.hid hh
  clear hh
  have HB := Lib.hid (nbelow1 w (.cells #[.int .i64 t.kind, .string t.text, .int .i64 t.n, .slice a t.kids.length cap, .int .i64 t.place] 24))
  have B0 := Lib.hid (Boxed.make w t a cap)
  go_enter Tryz.func16, Tryz.ntmps16
  go_wp2_with fail
  generalize hW : w.alloc (.cells #[.int .i64 t.kind, .string t.text, .int .i64 t.n, .slice a t.kids.length cap, .int .i64 t.place] 24) = W1 at HB B0 ⊢
  clear hW
  refine Calls.mono (rRight_any t a cap n₀ W1 (HH.out.below (HB.out.mono hn)) (Nat.le_trans hn HB.out.size)) ?_
  rintro e w2 ⟨rfl, hb⟩
  have HC := Lib.hid (HB.out.trans (hb.mono HB.out.size))
  have B1 := Lib.hid (B0.out.below hb)
  clear hb HB B0
  have c1 := B1.out.c1
  cases hr : modN t
  · have HR := Lib.hid hr
    clear hr
    go_wp2_with fail
    go_ret2
    exact ⟨ret_si (by unfold modS; rw [if_neg (by rw [HR.out]; decide)]) (by unfold modE; rw [if_neg (by rw [HR.out]; decide)]), HC.out⟩
  have HR := Lib.hid hr
  have hts : t.text.size ≤ 24 := by have := near_len (mod_parts hr).2.1; rwa [size_list] at this
  have hk3 : t.kids.length ≤ 300 := (mod_parts hr).2.2
  clear hr
  go_wp2_with fail
  clear c1
  go_loopw [5, 6, 7, 8] (fun s i _ _ wr => ∃ (k : Nat) (x : ByteArray), k ≤ t.kids.length ∧ i = .int .i64 k ∧ s = .string x ∧ Hid (x.data.toList = modHead t ++ (t.kids.take k).flatMap kidL) ∧ Hid (Below w.heap.size w wr) ∧ Hid (Boxed w.heap.size t a cap wr)) (fun _ i _ _ _ => t.kids.length - (intOf i).toNat)
  case atStart => exact ⟨0, _, by omega, rfl, rfl, by show _ = _; unfold modHead; simp, HC, B1⟩
  case round =>
    obtain ⟨k, x, hk, rfl, rfl, HX, HBr, HBx⟩ := hrel
    clear B1 HC
    have c3 := HBx.out.c3
    have hxs : x.size ≤ 400000000 := by
      have h1 := congrArg List.length HX.out
      rw [size_list] at h1
      rw [h1]; exact mod_len HR.out k
    by_cases hlt : k < t.kids.length
    · obtain ⟨b, off, y, cy, A⟩ := (HH.out.below (HBr.out.mono hn)).kid k hlt
      obtain ⟨hA, hb0, c0, c1, c2, c3', c4, hk1⟩ := A
      rw [hA] at c3
      have HK := Lib.hid hk1
      have S := Lib.hid (flat_step (f := kidL) t.kids k hlt)
      have hsk := small_kid (mod_parts HR.out).1 (List.getElem_mem hlt)
      have hkk := mod_kid HR.out k hlt
      generalize hu : t.kids[k] = u at c0 c1 c2 c3' c4 HK S hsk hkk hk1
      have hns := hk1.bounds
      have hu1 := hns.2.1
      have hu2 := hns.2.2.2.2
      clear hk1 hns hA hu
      have hb1 := nbelow1 wr (.cells #[.int .i64 u.kind, .string u.text, .int .i64 u.n, .slice y u.kids.length cy, .int .i64 u.place] 24)
      have HE0 := Lib.hid (HBr.out.trans (hb1.mono HBr.out.size))
      have HX0 := Lib.hid (HBx.out.below hb1)
      have BU := Lib.hid (Boxed.make wr u y cy)
      rcases hkk with ⟨q1, q2⟩ | ⟨q1, q2⟩
      · have e2 : (u.kind == 2) = true := by rw [q1]; rfl
        have hus : u.text.size ≤ 24 := by have := near_len (bare_near q2).1; rwa [size_list] at this
        have X2 := Lib.hid (show (x ++ ⟨#[105, 109, 112, 111, 114, 116, 32]⟩ ++ u.text ++ ⟨#[59, 10]⟩).data.toList = modHead t ++ (t.kids.take (k + 1)).flatMap kidL by
          rw [S.out, ← List.append_assoc, ← HX.out, kidL_imp q1]; unfold impL; simp)
        clear q1 q2 hsk hb1
        go_wp2_with fail
        go_roundw
        case rel => exact ⟨k + 1, _, by omega, by go_num, rfl, X2, HE0, HX0⟩
        case measure => simp [intOf]; omega
      · have e2 : (u.kind == 2) = false := beq_eq_false_iff_ne.2 q1
        obtain ⟨p1, p2, p3, p4, p5⟩ := let_parts q2
        have hus : u.text.size ≤ 24 := by have := near_len p1; rwa [size_list] at this
        have hml := params_len q2
        obtain ⟨m, hm⟩ : ∃ m, u.kids.length = m + 1 := ⟨u.kids.length - 1, by omega⟩
        have hfl := small_form (small_kid hsk (last_mem p2)) p5
        have hdl : u.kids.dropLast = u.kids.take m := by rw [List.dropLast_eq_take, hm, Nat.add_sub_cancel]
        have hlen : (u.kids.take m).length = m := by rw [List.length_take]; omega
        have hmap : (u.kids.take m).map formN = u.kids.dropLast.map fun p => p.text.data.toList := by
          rw [← hdl]
          exact List.map_congr_left fun p hp => form_bare (p4 p hp)
        obtain ⟨b', off', z, cz, A'⟩ := HK.out.kid m (by omega)
        obtain ⟨rfl, hb', d0, d1, d2, d3, d4, hk2⟩ := A'
        have hlast : u.kids[m]'(by omega) = lastK u := by
          rw [← last_get p2]; congr 1; omega
        rw [hlast] at d0 d1 d2 d3 d4 hk2
        have hbw : b' < wr.heap.size := Nat.lt_of_lt_of_le hb' (Nat.le_trans hn HBr.out.size)
        rw [hm] at c3' hb1 BU HE0 HX0
        obtain ⟨G, hG⟩ : ∃ G : ByteArray, G = ⟨(formN (lastK u)).toArray⟩ := ⟨_, rfl⟩
        have hGs : G.size ≤ 1048576 := by rw [hG]; exact hfl
        have CF := Lib.hid (show ∀ cur, Below wr.heap.size wr cur → Calls Tryz.prog 45 #[.agg #[.int .i64 (lastK u).kind, .string (lastK u).text, .int .i64 (lastK u).n, .slice z (lastK u).kids.length cz, .int .i64 (lastK u).place]] cur fun e W' => e = .returned (.string G) ∧ Below cur.heap.size cur W' from fun cur hc => by
          rw [hG]
          exact rform_any (lastK u) n₀ 1 p5 (Nat.le_trans hfl (by decide)) z cz cur (hk2.below (hc.mono (Nat.le_trans hn HBr.out.size))) (Nat.le_trans hn (Nat.le_trans HBr.out.size hc.size)))
        have HD := Lib.hid (show ∀ cur, Below wr.heap.size wr cur → cur.cell? ⟨b', off' + m * 5, none⟩ = some (.int .i64 (lastK u).kind) ∧ cur.cell? ⟨b', off' + m * 5 + 1, none⟩ = some (.string (lastK u).text) ∧ cur.cell? ⟨b', off' + m * 5 + 2, none⟩ = some (.int .i64 (lastK u).n) ∧ cur.cell? ⟨b', off' + m * 5 + 3, none⟩ = some (.slice z (lastK u).kids.length cz) ∧ cur.cell? ⟨b', off' + m * 5 + 4, none⟩ = some (.int .i64 (lastK u).place) from fun cur hc =>
          ⟨(hc.cell (p := ⟨b', off' + m * 5, none⟩) hbw).trans d0, (hc.cell (p := ⟨b', off' + m * 5 + 1, none⟩) hbw).trans d1, (hc.cell (p := ⟨b', off' + m * 5 + 2, none⟩) hbw).trans d2, (hc.cell (p := ⟨b', off' + m * 5 + 3, none⟩) hbw).trans d3, (hc.cell (p := ⟨b', off' + m * 5 + 4, none⟩) hbw).trans d4⟩)
        have L := Lib.hid (show letL u = letHead u ++ (if u.kids.length = 1 then [] else listL (u.kids.dropLast.map fun p => p.text.data.toList)) ++ [32, 61, 32] ++ formN (lastK u) ++ [59, 10] from rfl)
        have HZ := Lib.hid hm
        have HGG := Lib.hid hG
        have HQ1 := Lib.hid q1
        have hmc : m ≤ cy := by omega
        have hm8 : m ≤ 8 := by omega
        have hcy := hu2.2
        unfold maxLen at hcy
        by_cases h0 : m = 0
        · subst h0
          have X2 := Lib.hid (show (x ++ ⟨#[108, 101, 116, 32]⟩ ++ u.text ++ ⟨#[32, 61, 32]⟩ ++ G ++ ⟨#[59, 10]⟩).data.toList = modHead t ++ (t.kids.take (k + 1)).flatMap kidL by
            rw [S.out, ← List.append_assoc, ← HX.out, kidL_let HQ1.out, L.out, if_pos (by rw [HZ.out]), HGG.out]; unfold letHead; simp)
          obtain ⟨d0', d1', d2', d3', d4'⟩ := HD.out _ hb1
          simp only [Nat.zero_mul, Nat.add_zero] at d0' d1' d2' d3' d4'
          have C := CF.out _ hb1
          have HC2 := Lib.hid C
          clear q1 q2 hsk p1 p2 p3 p4 p5 hml hm hfl hdl hlen hmap hlast hk2 d0 d1 d2 d3 d4 hG hu2 hb' C hb1
          go_wp2_with fail
          refine Calls.mono HC2.out ?_
          rintro e w5 ⟨rfl, hb5⟩
          have HE := Lib.hid (HE0.out.trans (hb5.mono HE0.out.size))
          have HX5 := Lib.hid (HX0.out.below hb5)
          clear hb5
          go_wp2_with fail
          go_roundw
          case rel => exact ⟨k + 1, _, by omega, by go_num, rfl, X2, HE, HX5⟩
          case measure => simp [intOf]; omega
        · obtain ⟨M, hM⟩ : ∃ M : ByteArray, M = ⟨(listL ((u.kids.take m).map formN)).toArray⟩ := ⟨_, rfl⟩
          have hMs : M.size ≤ 300 := by rw [hM, hmap]; exact hml
          have X2 := Lib.hid (show (x ++ ⟨#[108, 101, 116, 32]⟩ ++ u.text ++ M ++ ⟨#[32, 61, 32]⟩ ++ G ++ ⟨#[59, 10]⟩).data.toList = modHead t ++ (t.kids.take (k + 1)).flatMap kidL by
            rw [S.out, ← List.append_assoc, ← HX.out, kidL_let HQ1.out, L.out, if_neg (by rw [HZ.out]; omega), HGG.out, hM, hmap]; unfold letHead; simp)
          have CL := Lib.hid (show ∀ cur, Below wr.heap.size wr cur → Calls Tryz.prog 44 #[.slice (some ⟨b', off', none⟩) m cy] cur fun e W' => e = .returned (.string M) ∧ Below cur.heap.size cur W' from fun cur hc => by
            have := rlist_of (u.kids.take m) n₀ (fun p hp => rform_bare p n₀ (p4 p (by rw [hdl]; exact hp))) (some ⟨b', off', none⟩) cy cur (holds_prefix (hold_kids (HK.out.below (hc.mono (Nat.le_trans hn HBr.out.size)))) m) (by omega) hu2.2 (Nat.le_trans hn (Nat.le_trans HBr.out.size hc.size)) (by rw [hmap]; exact Nat.le_trans hml (by decide))
            rw [hlen, ← hM] at this
            exact this)
          have hpos : 0 < m := by omega
          have HB1 := Lib.hid hb1
          have C := CL.out _ hb1
          have HC2 := Lib.hid C
          clear q1 q2 hsk p1 p2 p3 p4 p5 hml hm hfl hdl hlen hmap hlast hk2 d0 d1 d2 d3 d4 hG hu2 hb' C hb1 hM h0
          go_wp2_with fail
          refine Calls.mono HC2.out ?_
          rintro e w5 ⟨rfl, hb5⟩
          have HB5 := Lib.hid (HB1.out.trans (hb5.mono HB1.out.size))
          have HE5 := Lib.hid (HE0.out.trans (hb5.mono HE0.out.size))
          have HX5 := Lib.hid (HX0.out.below hb5)
          have BU5 := Lib.hid ((show Boxed wr.heap.size u (some ⟨b', off', none⟩) cy _ from by have := BU.out; exact this).below hb5)
          have g3 := BU5.out.c3
          rw [HZ.out] at g3
          obtain ⟨d0, d1, d2, d3, d4⟩ := HD.out _ HB5.out
          have HC3 := Lib.hid (CF.out _ HB5.out)
          clear hb5
          go_wp2_with fail
          refine Calls.mono HC3.out ?_
          rintro e w6 ⟨rfl, hb6⟩
          have HE := Lib.hid (HE5.out.trans (hb6.mono HE5.out.size))
          have HX6 := Lib.hid (HX5.out.below hb6)
          clear hb6
          go_wp2_with fail
          go_roundw
          case rel => exact ⟨k + 1, _, by omega, by go_num, rfl, X2, HE, HX6⟩
          case measure => simp [intOf]; omega
    · have E := Lib.hid (show x.data.toList = modL t by
        rw [modL_eq HR.out, HX.out, List.take_of_length_le (by omega)])
      go_wp2_with fail
      go_ret2
      exact ⟨ret_si (by unfold modS; rw [if_pos HR.out, ← E.out]) (by unfold modE; rw [if_pos HR.out]), HBr.out⟩

end Go.Proofs.YtcndknkdhlmdnaaGreatDoor

/-
  The text that each law of layer 9 begins with: its tokens, its tree, its form (no program in sight).
-/
namespace Go.Proofs.YtcndknkdhlmdnaaGreatDoor
open Go.RowKit

def shownL : List UInt8 := [97, 32, 45, 32, 98, 32, 45, 32, 49, 46, 53]
def shownK : List Tk := [⟨1, [97], 0, 0⟩, ⟨8, [45], 0, 2⟩, ⟨1, [98], 0, 4⟩, ⟨8, [45], 0, 6⟩, ⟨6, [], 1500000, 8⟩, ⟨0, [], 0, 11⟩]
def shownA : Nd := mkN 13 [45] 0 [mkN 10 [97] 0 [] 0, mkN 10 [98] 0 [] 4] 2
def shownN : Nd := mkN 13 [45] 0 [shownA, mkN 5 [] 1500000 [] 8] 6
theorem shown_scan : scanT shownL = .ok shownK := by kernel_rfl
theorem shown_read : rd .expr 0 shownK = .ok (shownN, [⟨0, [], 0, 11⟩]) := by kernel_rfl
theorem shown_form : formN shownN = [40, 97, 32, 45, 32, 98, 41, 32, 45, 32, 49, 46, 53] := by kernel_rfl
theorem shown_right : rightE shownN = true := by kernel_rfl
theorem shown_mod : modN shownN = false := by kernel_rfl

end Go.Proofs.YtcndknkdhlmdnaaGreatDoor

/-
  show: a bare node; the first kid that is none.
-/
namespace Go.Proofs.YtcndknkdhlmdnaaGreatDoor
open Go.RowKit Go.Shelf
set_option maxRecDepth 100000

/-- the first that is no bare node of a kind, below 0: none -/
def firstNot (kind : Int) (ks : List Nd) : Int := if (ks.takeWhile (bareN kind)).length = ks.length then -1 else (ks.takeWhile (bareN kind)).length
theorem firstNot_at {kind : Int} {ks : List Nd} {k : Nat} (hk : k < ks.length) (h : ∀ j (hj : j < ks.length), j < k → bareN kind ks[j] = true) (hb : bareN kind ks[k] = false) : firstNot kind ks = k := by
  have e := takeWhile_len (bareN kind) ks k (by omega) h fun _ => hb
  unfold firstNot
  rw [e, if_neg (by omega)]
theorem firstNot_none {kind : Int} {ks : List Nd} (h : ∀ j (hj : j < ks.length), bareN kind ks[j] = true) : firstNot kind ks = -1 := by
  have e := takeWhile_len (bareN kind) ks ks.length (Nat.le_refl _) (fun j hj _ => h j hj) fun hk => absurd hk (by omega)
  unfold firstNot
  rw [e, if_pos rfl]
theorem firstNot_all (kind : Int) (ks : List Nd) : decide (0 ≤ firstNot kind ks) = !ks.all (bareN kind) := by
  by_cases h : ∀ j (hj : j < ks.length), bareN kind ks[j] = true
  · rw [firstNot_none h]
    have : ks.all (bareN kind) = true := by
      rw [List.all_eq_true]
      intro a ha
      obtain ⟨i, hi, rfl⟩ := List.getElem_of_mem ha
      exact h i hi
    rw [this]; rfl
  · have : ks.all (bareN kind) = false := by
      rw [Bool.eq_false_iff]
      intro e
      rw [List.all_eq_true] at e
      exact h fun j hj => e _ (List.getElem_mem hj)
    rw [this]
    unfold firstNot
    rw [if_neg]
    · rw [decide_eq_true (by omega)]; rfl
    · intro e
      exact h fun j hj => by
        have hp := List.takeWhile_prefix (bareN kind) (l := ks)
        have h1 : (ks.takeWhile (bareN kind))[j]'(by omega) = ks[j] := hp.getElem (by omega)
        rw [← h1]
        exact List.all_eq_true.1 (List.all_takeWhile (l := ks) (p := bareN kind)) _ (List.getElem_mem _)

set_option maxHeartbeats 1000000 in
theorem sbare_any (t : Nd) (a : Option Addr) (cap : Nat) (k : Int) (w : World) (hs : t.text.size ≤ maxLen) (he : Env w) :
    Calls Tryz.prog 41 #[.agg #[.int .i64 t.kind, .string t.text, .int .i64 t.n, .slice a t.kids.length cap, .int .i64 t.place], .int .i64 k] w fun e w' => e = .returned (.bool (bareN k t)) ∧ Below w.heap.size w w' := by
  have B := Lib.hid (bareN_eq k t)
  have HB := Lib.hid (nbelow1 w (.cells #[.int .i64 t.kind, .string t.text, .int .i64 t.n, .slice a t.kids.length cap, .int .i64 t.place] 24))
  have B0 := Lib.hid (Boxed.make w t a cap)
  have C := Lib.hid (sisNear_any t.text _ hs (he.below HB.out))
  clear he
  cases h1 : t.kind == k
  · have F := Lib.hid (show bareN k t = false by rw [B.out, h1]; rfl)
    go_enter Tryz.func41, Tryz.ntmps41
    go_wp2_with fail
    go_ret
    exact ⟨nretB F.out.symm, HB.out⟩
  go_enter Tryz.func41, Tryz.ntmps41
  go_wp2_with fail
  refine Calls.mono C.out ?_
  rintro e w2 ⟨rfl, hb⟩
  have HC := Lib.hid (HB.out.trans (hb.mono HB.out.size))
  have B1 := Lib.hid (B0.out.below hb)
  clear hb HB B0
  have c2 := B1.out.c2
  have c3 := B1.out.c3
  cases h2 : nearL t.text.data.toList
  · have F := Lib.hid (show bareN k t = false by rw [B.out, h1, h2]; rfl)
    go_wp2_with fail
    go_ret
    exact ⟨nretB F.out.symm, HC.out⟩
  cases h3 : t.n == 0
  · have F := Lib.hid (show bareN k t = false by rw [B.out, h1, h2, h3]; rfl)
    go_wp2_with fail
    go_ret
    exact ⟨nretB F.out.symm, HC.out⟩
  have F := Lib.hid (show bareN k t = ((t.kids.length : Int) == 0) by rw [B.out, h1, h2, h3]; rfl)
  go_wp2_with fail
  go_ret
  exact ⟨nretB F.out.symm, HC.out⟩

set_option maxHeartbeats 1000000 in
theorem snotImport_any (t : Nd) (a : Option Addr) (cap : Nat) (w : World) (hs : t.text.size ≤ maxLen) (he : Env w) :
    Calls Tryz.prog 40 #[.agg #[.int .i64 t.kind, .string t.text, .int .i64 t.n, .slice a t.kids.length cap, .int .i64 t.place]] w fun e w' => e = .returned (.bool (!bareN 2 t)) ∧ Below w.heap.size w w' := by
  have HB := Lib.hid (nbelow1 w (.cells #[.int .i64 t.kind, .string t.text, .int .i64 t.n, .slice a t.kids.length cap, .int .i64 t.place] 24))
  have C := Lib.hid (sbare_any t a cap 2 _ hs (he.below HB.out))
  clear he
  go_enter Tryz.func40, Tryz.ntmps40
  go_wp2_with fail
  refine Calls.mono C.out ?_
  rintro e w2 ⟨rfl, hb⟩
  have HC := Lib.hid (HB.out.trans (hb.mono HB.out.size))
  clear hb
  go_wp2_with fail
  go_ret
  exact ⟨rfl, HC.out⟩

set_option maxHeartbeats 2000000 in
theorem sidxImport_any (ks : List Nd) (n₀ : Nat) (a : Option Addr) (cap : Nat) (w : World) (hh : Nd.holds n₀ w ks a 0) (hk0 : ks.length ≤ cap) (hk1 : cap ≤ maxLen) (hn : n₀ ≤ w.heap.size) (he : Env w) :
    Calls Tryz.prog 39 #[.slice a ks.length cap, .func (.func 40) #[] #[]] w fun e w' => e = .returned (.int .i64 (firstNot 2 ks)) ∧ Below w.heap.size w w' := by
  have eg := enters_of Tryz.func40 (by kernel_rfl) rfl
  have hm := hk1
  unfold maxLen at hm
  have hkl : ks.length ≤ 9223372036854775807 := Nat.le_trans hk0 hm
  have HH := Lib.hid hh
  have HE := Lib.hid he
  clear hh he
  go_enter Tryz.func39, Tryz.ntmps39
  go_wp2_with fail
  go_loopw [8] (fun i wr => ∃ k : Nat, k ≤ ks.length ∧ i = .int .i64 k ∧ Hid (∀ j (hj : j < ks.length), j < k → bareN 2 ks[j] = true) ∧ Hid (Below w.heap.size w wr)) (fun i _ => (ks.length - (intOf i).toNat))
  case atStart => exact ⟨0, Nat.zero_le _, rfl, fun j hj h => by omega, Below.refl _ _⟩
  case round =>
    obtain ⟨k, hk, rfl, HAll, HBr⟩ := hrel
    by_cases hlt : k < ks.length
    · obtain ⟨b, off, x, cx, A⟩ := Nd.holds.at ks 0 (Nd.holds.below (HBr.out.mono hn) ks HH.out) k hlt
      rw [Nat.zero_add] at A
      obtain ⟨rfl, hb0, c0, c1, c2, c3, c4, hk1'⟩ := A
      have C := Lib.hid (snotImport_any ks[k] x cx wr hk1'.bounds.2.1 (HE.out.below HBr.out))
      clear hk1'
      cases hr : bareN 2 ks[k]
      · have F := Lib.hid (firstNot_at hlt HAll.out hr)
        go_wp2_with fail
        refine Calls.mono C.out ?_
        rintro e w4 ⟨rfl, hb⟩
        rw [hr]
        have HB := Lib.hid (HBr.out.trans (hb.mono HBr.out.size))
        clear hb hr
        go_wp2_with fail
        go_ret
        exact ⟨nretI F.out.symm, HB.out⟩
      · have HR := Lib.hid hr
        go_wp2_with fail
        refine Calls.mono C.out ?_
        rintro e w4 ⟨rfl, hb⟩
        rw [hr]
        have HB := Lib.hid (HBr.out.trans (hb.mono HBr.out.size))
        clear hb hr
        go_wp2_with fail
        go_roundw
        case rel =>
          refine ⟨k + 1, by omega, by go_num, fun j hj h => ?_, HB⟩
          by_cases e : j = k
          · subst e; exact HR.out
          · exact HAll.out j hj (by omega)
        case measure => simp [intOf]; omega
    · have F := Lib.hid (firstNot_none fun j hj => HAll.out j hj (by omega))
      go_wp2_with fail
      go_ret
      exact ⟨nretI F.out.symm, HBr.out⟩

set_option maxHeartbeats 1000000 in
theorem snotParam_any (t : Nd) (a : Option Addr) (cap : Nat) (w : World) (hs : t.text.size ≤ maxLen) (he : Env w) :
    Calls Tryz.prog 66 #[.agg #[.int .i64 t.kind, .string t.text, .int .i64 t.n, .slice a t.kids.length cap, .int .i64 t.place]] w fun e w' => e = .returned (.bool (!bareN 4 t)) ∧ Below w.heap.size w w' := by
  have HB := Lib.hid (nbelow1 w (.cells #[.int .i64 t.kind, .string t.text, .int .i64 t.n, .slice a t.kids.length cap, .int .i64 t.place] 24))
  have C := Lib.hid (sbare_any t a cap 4 _ hs (he.below HB.out))
  clear he
  go_enter Tryz.func66, Tryz.ntmps66
  go_wp2_with fail
  refine Calls.mono C.out ?_
  rintro e w2 ⟨rfl, hb⟩
  have HC := Lib.hid (HB.out.trans (hb.mono HB.out.size))
  clear hb
  go_wp2_with fail
  go_ret
  exact ⟨rfl, HC.out⟩

set_option maxHeartbeats 2000000 in
theorem sidxParam_any (ks : List Nd) (n₀ : Nat) (a : Option Addr) (cap : Nat) (w : World) (hh : Nd.holds n₀ w ks a 0) (hk0 : ks.length ≤ cap) (hk1 : cap ≤ maxLen) (hn : n₀ ≤ w.heap.size) (he : Env w) :
    Calls Tryz.prog 39 #[.slice a ks.length cap, .func (.func 66) #[] #[]] w fun e w' => e = .returned (.int .i64 (firstNot 4 ks)) ∧ Below w.heap.size w w' := by
  have eg := enters_of Tryz.func66 (by kernel_rfl) rfl
  have hm := hk1
  unfold maxLen at hm
  have hkl : ks.length ≤ 9223372036854775807 := Nat.le_trans hk0 hm
  have HH := Lib.hid hh
  have HE := Lib.hid he
  clear hh he
  go_enter Tryz.func39, Tryz.ntmps39
  go_wp2_with fail
  go_loopw [8] (fun i wr => ∃ k : Nat, k ≤ ks.length ∧ i = .int .i64 k ∧ Hid (∀ j (hj : j < ks.length), j < k → bareN 4 ks[j] = true) ∧ Hid (Below w.heap.size w wr)) (fun i _ => (ks.length - (intOf i).toNat))
  case atStart => exact ⟨0, Nat.zero_le _, rfl, fun j hj h => by omega, Below.refl _ _⟩
  case round =>
    obtain ⟨k, hk, rfl, HAll, HBr⟩ := hrel
    by_cases hlt : k < ks.length
    · obtain ⟨b, off, x, cx, A⟩ := Nd.holds.at ks 0 (Nd.holds.below (HBr.out.mono hn) ks HH.out) k hlt
      rw [Nat.zero_add] at A
      obtain ⟨rfl, hb0, c0, c1, c2, c3, c4, hk1'⟩ := A
      have C := Lib.hid (snotParam_any ks[k] x cx wr hk1'.bounds.2.1 (HE.out.below HBr.out))
      clear hk1'
      cases hr : bareN 4 ks[k]
      · have F := Lib.hid (firstNot_at hlt HAll.out hr)
        go_wp2_with fail
        refine Calls.mono C.out ?_
        rintro e w4 ⟨rfl, hb⟩
        rw [hr]
        have HB := Lib.hid (HBr.out.trans (hb.mono HBr.out.size))
        clear hb hr
        go_wp2_with fail
        go_ret
        exact ⟨nretI F.out.symm, HB.out⟩
      · have HR := Lib.hid hr
        go_wp2_with fail
        refine Calls.mono C.out ?_
        rintro e w4 ⟨rfl, hb⟩
        rw [hr]
        have HB := Lib.hid (HBr.out.trans (hb.mono HBr.out.size))
        clear hb hr
        go_wp2_with fail
        go_roundw
        case rel =>
          refine ⟨k + 1, by omega, by go_num, fun j hj h => ?_, HB⟩
          by_cases e : j = k
          · subst e; exact HR.out
          · exact HAll.out j hj (by omega)
        case measure => simp [intOf]; omega
    · have F := Lib.hid (firstNot_none fun j hj => HAll.out j hj (by omega))
      go_wp2_with fail
      go_ret
      exact ⟨nretI F.out.symm, HBr.out⟩

set_option maxHeartbeats 1000000 in
theorem scontParam_any (ks : List Nd) (n₀ : Nat) (a : Option Addr) (cap : Nat) (w : World) (hh : Nd.holds n₀ w ks a 0) (hk0 : ks.length ≤ cap) (hk1 : cap ≤ maxLen) (hn : n₀ ≤ w.heap.size) (he : Env w) :
    Calls Tryz.prog 62 #[.slice a ks.length cap, .func (.func 66) #[] #[]] w fun e w' => e = .returned (.bool (!ks.all (bareN 4))) ∧ Below w.heap.size w w' := by
  have C := Lib.hid (sidxParam_any ks n₀ a cap w hh hk0 hk1 hn he)
  have F := Lib.hid (firstNot_all 4 ks)
  clear hh he
  go_enter Tryz.func62, Tryz.ntmps62
  go_wp2_with fail
  refine Calls.mono C.out ?_
  rintro e w' ⟨rfl, hb⟩
  have HB := Lib.hid hb
  clear hb
  go_wp2_with fail
  go_ret
  exact ⟨nretB F.out, HB.out⟩

end Go.Proofs.YtcndknkdhlmdnaaGreatDoor
