/-
  Texts that the statements' proofs rest on, one behind another: ScF, ScG, LawA.
-/
import Derived.Test.YtcndknkdhlmdnaaGreatDoorS25
import Derived.Test.YtcndknkdhlmdnaaGreatDoorS22
import Derived.Test.YtcndknkdhlmdnaaGreatDoorS07
import Derived.Test.YtcndknkdhlmdnaaGreatDoorS09
import Derived.Test.YtcndknkdhlmdnaaGreatDoorS12

/-
  The program's scanner.
-/
namespace Go.Proofs.YtcndknkdhlmdnaaGreatDoor
open Go.RowKit
set_option maxRecDepth 100000

theorem SC.set_at {X M a : Nat} {s : ByteArray} {ts : List Tk} {W : World} (h : SC X M s a ts W) (a' : Nat) : SC X M s a' ts (W.setCell ⟨X, 1, none⟩ (.int .i64 a')) := by
  obtain ⟨ao, cp, h1, h2⟩ := h.ex
  have hg := grown_set W X 1 (.int .i64 a')
  refine ⟨⟨h.lt.1, Nat.lt_of_lt_of_le h.lt.2 hg.size⟩, ⟨ao, cp, heap_set h1 1 _, h2.kept hg ?_⟩, ?_⟩
  · cases hv : (Value.slice ao ts.length cp).ownBlock with
    | none => exact .inl rfl
    | some d => exact .inr (fun e => by have := (h2.lt d hv).1; cases e; omega)
  · obtain ⟨es, clock, k1, k2, k3, k4⟩ := h.keys
    exact ⟨es, clock, (Below.heap_setCell _ _ _ _ (by show M ≠ X; have := h.lt.1; omega)).trans k1, k2, k3, k4⟩
theorem SC.make {M : Nat} {s : ByteArray} {W : World} (hk : Keys13 M 13 W) (hM : M < W.heap.size) : SC W.heap.size M s 0 [] (W.alloc (.cells #[.string s, .int .i64 0, .map (some M), .slice none 0 0, .pointer none] 129)) :=
  ⟨⟨hM, by simp⟩, ⟨none, 0, by show (W.heap.push _)[W.heap.size]? = _; simp, World.ownsRow_nil _ _ _ _⟩, hk.below (nbelow1 _ _) hM⟩
theorem own_base {W : World} {B B' T k : Nat} {v : Value} {n : Nat} {xs : List Value} (h : W.ownsRow B T k v n xs) (hB : B' ≤ B) : W.ownsRow B' T k v n xs := by
  obtain ⟨h1, h2⟩ := h
  refine ⟨h1, ?_⟩
  rcases h2 with h2 | ⟨g', cap', cur, e, hb, hg', r⟩
  · exact .inl h2
  · exact .inr ⟨g', cap', cur, e, Nat.le_trans hB hb, hg', r⟩
theorem scanQ_err {r : Except (Int × Int) (List Tk)} {w w' : World} {c p : Int} {b : Nat} (h : r = .error (c, p)) (hb : Below w.heap.size w w') (hl : w.heap.size ≤ b) (hx : w'.heap[b]? = some (.cells #[.int .i64 p, .int .i64 c] 92 (0, 0))) : ScanQ r w (.returned (.tuple #[.slice none 0 0, .pointer (some ⟨b, 0, none⟩)])) w' := by
  subst h; exact ⟨hb, b, rfl, hl, hx⟩
/-- where the scanner stands -/
def atOf (X : Nat) (W : World) : Nat := match W.cell? ⟨X, 1, none⟩ with
  | some (.int _ i) => i.toNat
  | _ => 0
theorem SC.at {X M a : Nat} {s : ByteArray} {ts : List Tk} {W : World} (h : SC X M s a ts W) : atOf X W = a := by
  unfold atOf
  rw [h.sb.2]
  exact Int.toNat_natCast a
set_option maxHeartbeats 16000000 in
theorem qscan_any (s : ByteArray) (w : World) (hs : s.size ≤ maxLen) (ht : TabS w) :
    Calls Tryz.prog 77 #[.string s] w (ScanQ (scanT s.data.toList) w) := by
  have hm := hs
  unfold maxLen at hm
  have HL := Lib.hid (size_list s)
  by_cases hbig : 16384 < (s.size : Int)
  · have R := Lib.hid (show scanT s.data.toList = .error (70, 0) by unfold scanT; rw [if_pos (by rw [HL.out]; omega)])
    go_enter Tryz.func77, Tryz.ntmps77
    go_wp2_with fail
    go_ret2
    exact scanQ_err R.out (nbelow1 _ _) (Nat.le_refl _) (by show (w.heap.push _)[w.heap.size]? = _; simp)
  have hs2 : s.size ≤ 16384 := by omega
  have R := Lib.hid (show scanT s.data.toList = scanS s.data.toList 0 0 0 by unfold scanT; rw [if_neg (by rw [HL.out]; omega)])
  have CW := Lib.hid (qwords_any w ht)
  obtain ⟨i0, hi, hz0, hz1, hz2⟩ := info_parts (show (Tryz.prog.info? 96).map (fun i => (i.zero, i.size, i.bytes)) = some (some (.agg #[.int .i64 0, .string ⟨#[]⟩, .int .i64 0, .int .i64 0]), 4, 40) by kernel_rfl)
  have HI0 := Lib.hid (show _ ∧ _ ∧ _ ∧ _ from ⟨hi, hz0, hz1, hz2⟩)
  clear hi hz0 hz1 hz2
  go_enter Tryz.func77, Tryz.ntmps77
  go_wp2_with fail
  (with_reducible refine Calls.mono CW.out ?_)
  rintro e w1 ⟨rfl, hk1, hb1⟩
  obtain ⟨M, hM⟩ : ∃ M, M = w.heap.size := ⟨_, rfl⟩
  have hMl := hk1.lt
  obtain ⟨W2, hW2⟩ : ∃ V, V = w1.alloc (.cells #[.string s, .int .i64 0, .map (some w.heap.size), .slice none 0 0, .pointer none] 129) := ⟨_, rfl⟩
  obtain ⟨X, hX⟩ : ∃ X, X = w1.heap.size := ⟨_, rfl⟩
  have HS2 := Lib.hid (show SC X M s 0 [] W2 by rw [hW2, hX, hM]; exact SC.make hk1 hMl)
  have HB2 := Lib.hid (show Below M w W2 by rw [hW2, hM]; exact hb1.alloc hb1.size _)
  have HMX := Lib.hid (show M < X by rw [hX, hM]; exact hMl)
  have HM := Lib.hid hM
  clear hk1 hb1 hMl CW ht hbig
  go_wp2_with fail
  rw [← hW2, ← hX]
  clear hW2 hM hX
  have HX2 := Lib.hid HS2.out.lt
  go_loopw [5] (fun _ wr => ∃ (a : Nat) (ts : List Tk), a ≤ s.size ∧ ts.length ≤ 8192 ∧ Hid (SC X M s a ts wr) ∧ Hid (Below w.heap.size w wr) ∧ Hid (scanT s.data.toList = ahead ts (scanS (s.data.toList.drop a) a ts.length 0))) (fun _ wr => s.size - atOf X wr)
  case atStart => exact ⟨0, [], by omega, by decide, HS2, HM.out ▸ HB2.out, by show _ = _; rw [ahead_nil]; exact R.out⟩
  case round =>
    obtain ⟨a, ts, ha, htl, HS, HBr, HSC⟩ := hrel
    have hmu := Lib.hid HS.out.at
    obtain ⟨hX0, hX1⟩ := HS.out.sb
    by_cases hlt : a < s.size
    case pos =>
      have D := Lib.hid (drop_at hlt)
      have HC := Lib.hid HSC.out
      rw [D.out] at HC
      by_cases h32 : (s[a].toNat : Int) ≤ 32
      · have Z := Lib.hid (show scanT s.data.toList = ahead ts (scanS (s.data.toList.drop (a + 1)) ((a + 1 : Nat) : Int) ts.length 0) by
          rw [HC.out, scan_blank ((u8_le _).2 h32), show (a : Int) + 1 = ((a + 1 : Nat) : Int) by omega])
        have f1 : wr.frozen? ⟨X, 1, none⟩ = false := by obtain ⟨_, _, g, -⟩ := HS.out.ex; simp [World.frozen?, g]
        have HX3 := HX2.out.2
        have hXr := HS.out.lt.2
        have HSN := Lib.hid (show SC X M s (a + 1) ts (wr.setCell ⟨X, 1, none⟩ (.int .i64 ((a + 1 : Nat) : Int))) from HS.out.set_at (a + 1))
        have HBN := Lib.hid (show Below w.heap.size w (wr.setCell ⟨X, 1, none⟩ (.int .i64 ((a + 1 : Nat) : Int))) from HBr.out.setCell (p := ⟨X, 1, none⟩) (by show w.heap.size ≤ X; have := HMX.out; have := HM.out; omega) _)
        rw [show ((a + 1 : Nat) : Int) = (a : Int) + 1 by omega] at HSN HBN
        go_wp2_with fail
        go_roundw
        case rel => exact ⟨a + 1, ts, by omega, htl, HSN, HBN, Z⟩
        case measure => rw [hmu.out, HSN.out.at]; omega
      have h32' := Lib.hid (show ¬ s[a].toNat ≤ 32 from fun h => h32 ((u8_le _).1 h))
      by_cases h35 : (s[a].toNat : Int) = 35
      · have e35 : ((s[a].toNat : Int) == 35) = true := by rw [h35]; rfl
        have e35' : s[a] = 35 := UInt8.toNat_inj.1 (Int.ofNat.inj h35)
        have hrm : remR (s.data.toList.drop (a + 1)) ≤ s.size - (a + 1) := by
          have := takeWhile_le (· != 10) (s.data.toList.drop (a + 1))
          rwa [List.length_drop, size_list] at this
        have Z := Lib.hid (show scanT s.data.toList = ahead ts (scanS (s.data.toList.drop (a + 1 + remR (s.data.toList.drop (a + 1)))) ((a + 1 + remR (s.data.toList.drop (a + 1)) : Nat) : Int) ts.length 0) by
          rw [HC.out, scan_rem e35', List.drop_drop, show (a : Int) + 1 + (remR (s.data.toList.drop (a + 1)) : Nat) = ((a + 1 + remR (s.data.toList.drop (a + 1)) : Nat) : Int) by omega])
        have CR := Lib.hid (fun (v : World) (hv : SB X s a v) => qrun_line X s a a v hv hs2 (by omega))
        rw [show ((s.data.toList.drop a).takeWhile (· != 10)).length = 1 + remR (s.data.toList.drop (a + 1)) by
          rw [D.out, List.takeWhile_cons, if_pos (by rw [e35']; decide), List.length_cons]; unfold remR; omega] at CR
        generalize remR (s.data.toList.drop (a + 1)) = k at CR Z hrm
        have hXr := HS.out.lt.2
        clear h35 e35'
        go_upto_region 9 with fail
        have e1 : IntKind.i64.wrap ((a : Int) + (1 + (k : Int))) = (a : Int) + (1 + (k : Int)) := IntWalk.i64_in _ (by omega)
        have E1 := Lib.hid e1
        clear e1
        refine wp_region_till (S := (fun cur : World => cur.cell? ⟨X, 0, none⟩ = some (.string s) ∧ cur.cell? ⟨X, 1, none⟩ = some (.int .i64 a))) (z := 13) (by kernel_rfl) ?_ (fun hHeld => ?_)
        · exact ⟨hX0, hX1⟩
        refine AnyTill.take (i := 0) (v := ?_) (op_at rfl) (by kernel_rfl) (by kernel_rfl) (by kernel_rfl) (by kernel_rfl) (fun _ _ _ h => h) (Or.inl ⟨by rfl, ?_⟩) (by assumption) ?_
        rotate_left
        · (intro w hSw; (try dsimp only at hSw); go_simp; try with_reducible rfl)
        try simp only [Act.put, List.setIfInBounds_toArray, List.set_cons_zero, List.set_cons_succ]
        refine AnyTill.take (i := 1) (v := ?_) (op_at rfl) (by kernel_rfl) (by kernel_rfl) (by kernel_rfl) (by kernel_rfl) (fun _ _ _ h => h) (Or.inl ⟨by rfl, ?_⟩) (by assumption) ?_
        rotate_left
        · (intro w hSw; (try dsimp only at hSw); go_simp; try with_reducible rfl)
        try simp only [Act.put, List.setIfInBounds_toArray, List.set_cons_zero, List.set_cons_succ]
        refine AnyTill.take (i := 2) (v := ?_) (op_at rfl) (by kernel_rfl) (by kernel_rfl) (by kernel_rfl) (by kernel_rfl) (fun _ _ _ h => h) (Or.inl ⟨by rfl, ?_⟩) (by assumption) ?_
        rotate_left
        · (intro w hSw; (try dsimp only at hSw); go_simp; try with_reducible rfl)
        try simp only [Act.put, List.setIfInBounds_toArray, List.set_cons_zero, List.set_cons_succ]
        refine AnyTill.take (i := 3) (v := ?_) (op_at rfl) (by kernel_rfl) (by kernel_rfl) (by kernel_rfl) (by kernel_rfl) (fun _ _ _ h => h) (Or.inl ⟨by rfl, ?_⟩) (by assumption) ?_
        rotate_left
        · (intro w hSw; (try dsimp only at hSw); go_simp; try with_reducible rfl)
        try simp only [Act.put, List.setIfInBounds_toArray, List.set_cons_zero, List.set_cons_succ]
        refine AnyTill.take (i := 4) (v := ?_) (op_at rfl) (by kernel_rfl) (by kernel_rfl) (by kernel_rfl) (by kernel_rfl) (fun _ _ _ h => h) (Or.inl ⟨by rfl, ?_⟩) (by assumption) ?_
        rotate_left
        · (intro w hSw; (try dsimp only at hSw); go_simp; try with_reducible rfl)
        try simp only [Act.put, List.setIfInBounds_toArray, List.set_cons_zero, List.set_cons_succ]
        refine AnyTill.take (i := 5) (v := ?_) (op_at rfl) (by kernel_rfl) (by kernel_rfl) (by kernel_rfl) (by kernel_rfl) (fun _ _ _ h => h) (Or.inl ⟨by rfl, ?_⟩) (by assumption) ?_
        rotate_left
        · (intro w hSw; (try dsimp only at hSw); go_simp; try with_reducible rfl)
        try simp only [Act.put, List.setIfInBounds_toArray, List.set_cons_zero, List.set_cons_succ]
        refine AnyTill.take (i := 6) (v := ?_) (op_at rfl) (by kernel_rfl) (by kernel_rfl) (by kernel_rfl) (by kernel_rfl) (fun _ _ _ h => h) (Or.inl ⟨by rfl, ?_⟩) (by assumption) ?_
        rotate_left
        · (intro w hSw; (try dsimp only at hSw); go_simp; try with_reducible rfl)
        try simp only [Act.put, List.setIfInBounds_toArray, List.set_cons_zero, List.set_cons_succ]
        refine AnyTill.take (i := 7) (v := ?_) (op_at rfl) (by kernel_rfl) (by kernel_rfl) (by kernel_rfl) (by kernel_rfl) (fun _ _ _ h => h) (Or.inl ⟨by rfl, ?_⟩) (by assumption) ?_
        rotate_left
        · (intro w hSw; (try dsimp only at hSw); go_simp; try with_reducible rfl)
        try simp only [Act.put, List.setIfInBounds_toArray, List.set_cons_zero, List.set_cons_succ]
        refine AnyTill.take (i := 8) (v := ?_) (op_at rfl) (by kernel_rfl) (by kernel_rfl) (by kernel_rfl) (by kernel_rfl) (fun _ _ _ h => h) (Or.inl ⟨by rfl, ?_⟩) (by assumption) ?_
        rotate_left
        · (intro w hSw; (try dsimp only at hSw); go_simp; try with_reducible rfl)
        try simp only [Act.put, List.setIfInBounds_toArray, List.set_cons_zero, List.set_cons_succ]
        refine AnyTill.next (i := 9) (by kernel_rfl) (op_at rfl) (by decide) (fun K hK => ?_)
        go_simp
        (with_reducible refine Calls.mono (CR.out wr.drew (HS.out.below (bdrew (Below.refl _ _))).sb) ?_)
        rintro e w3 ⟨rfl, hw3⟩
        rw [← hw3]
        clear hw3 w3
        go_wp2_with fail
        refine hK.out _ _ ?_ (fun hHeld => ?_)
        · exact ⟨hX0, hX1⟩
        clear hK K
        try simp only [Act.put, List.setIfInBounds_toArray, List.set_cons_zero, List.set_cons_succ]
        have e1 := E1.out
        refine AnyTill.take (i := 10) (v := ?_) (op_at rfl) (by kernel_rfl) (by kernel_rfl) (by kernel_rfl) (by kernel_rfl) (fun _ _ _ h => h) (Or.inl ⟨by rfl, ?_⟩) (by assumption) ?_
        rotate_left
        · (intro w hSw; (try dsimp only at hSw); go_simp; try with_reducible rfl)
        try simp only [Act.put, List.setIfInBounds_toArray, List.set_cons_zero, List.set_cons_succ]
        clear e1
        refine AnyTill.next (i := 11) (by kernel_rfl) (op_at rfl) (by decide) (fun K hK => ?_)
        go_simp
        refine hK.out _ _ ?_ (fun hHeld => ?_)
        · exact hHeld
        clear hK K
        try simp only [Act.put, List.setIfInBounds_toArray, List.set_cons_zero, List.set_cons_succ]
        refine AnyTill.next (i := 12) (by kernel_rfl) (op_at rfl) (by decide) (fun K hK => ?_)
        go_simp
        refine hK.out _ _ ?_ (fun hHeld => ?_)
        · exact hHeld
        clear hK K
        try simp only [Act.put, List.setIfInBounds_toArray, List.set_cons_zero, List.set_cons_succ]
        have f1 : wr.frozen? ⟨X, 1, none⟩ = false := by obtain ⟨_, _, g, -⟩ := HS.out.ex; simp [World.frozen?, g]
        refine AnyTill.last (z := 13) (by kernel_rfl) (op_at rfl) (by kernel_rfl) (fun K hK => ?_)
        go_simp
        refine hK.out _ _ ?_
        clear hK K hHeld
        obtain ⟨W4, hW4⟩ : ∃ V, V = (wr.setCell ⟨X, 1, none⟩ (.int .i64 ((a : Int) + (1 + (k : Int))))).drew := ⟨_, rfl⟩
        have HSN := Lib.hid (show SC X M s (a + 1 + k) ts W4 from hW4 ▸ (show SC X M s (a + 1 + k) ts (wr.setCell ⟨X, 1, none⟩ (.int .i64 ((a : Int) + (1 + (k : Int))))) from by
          rw [show ((a : Int) + (1 + (k : Int))) = ((a + 1 + k : Nat) : Int) by omega]; exact HS.out.set_at (a + 1 + k)).below (bdrew (Below.refl _ _)))
        have HBN := Lib.hid (show Below w.heap.size w W4 from hW4 ▸ bdrew (HBr.out.setCell (p := ⟨X, 1, none⟩) (by show w.heap.size ≤ X; have := HMX.out; have := HM.out; omega) _))
        rw [← hW4]
        clear hW4 hX0 hX1 f1 CR
        go_wp2_with fail
        go_roundw
        case rel => exact ⟨a + 1 + k, ts, by omega, htl, HSN, HBN, Z⟩
        case measure => rw [hmu.out, HSN.out.at]; omega
      have e35 : ((s[a].toNat : Int) == 35) = false := beq_eq_false_iff_ne.2 h35
      have e35' := Lib.hid (show s[a] ≠ 35 from fun e => h35 (by rw [e]; rfl))
      have CT := Lib.hid (qtoken_any X M s a ts wr HS.out hs2 hlt htl)
      clear h35
      go_wp2_with fail
      (with_reducible refine Calls.mono CT.out ?_)
      rintro e w1 ⟨hb, hr⟩
      have HB1 := Lib.hid (HBr.out.trans (hb.mono (show w.heap.size ≤ X by have := HMX.out; have := HM.out; omega)))
      clear CT hX0 hX1
      cases hx : tokS s[a] (s.data.toList.drop (a + 1)) a with
      | error c =>
        rw [hx] at hr
        obtain ⟨hc, n, ts', rfl, hsc⟩ := hr
        have Z := Lib.hid (show scanT s.data.toList = .error (c, a) by rw [HC.out, scan_err h32'.out e35'.out hx]; rfl)
        have hc' : (c != 0) = true := by rw [bne_iff_ne]; exact hc
        have HSC1 := Lib.hid hsc
        obtain ⟨hX0, hX1⟩ := hsc.sb
        clear hb hc hx hsc
        go_upto_region 12 with fail
        refine wp_region_till (S := (fun cur : World => cur.cell? ⟨X, 1, none⟩ = some (.int .i64 a))) (z := 8) (by kernel_rfl) ?_ (fun hHeld => ?_)
        · exact hX1
        refine AnyTill.take (i := 7) (v := ?_) (op_at rfl) (by kernel_rfl) (by kernel_rfl) (by kernel_rfl) (by kernel_rfl) (fun _ _ _ h => h) (Or.inl ⟨by rfl, ?_⟩) (by assumption) ?_
        rotate_left
        · (intro w hSw; (try dsimp only at hSw); go_simp; try with_reducible rfl)
        try simp only [Act.put, List.setIfInBounds_toArray, List.set_cons_zero, List.set_cons_succ]
        refine AnyTill.take (i := 0) (v := ?_) (op_at rfl) (by kernel_rfl) (by kernel_rfl) (by kernel_rfl) (by kernel_rfl) (fun _ _ _ h => h) (Or.inl ⟨by rfl, ?_⟩) (by assumption) ?_
        rotate_left
        · (intro w hSw; (try dsimp only at hSw); go_simp; try with_reducible rfl)
        try simp only [Act.put, List.setIfInBounds_toArray, List.set_cons_zero, List.set_cons_succ]
        refine AnyTill.take (i := 1) (v := ?_) (op_at rfl) (by kernel_rfl) (by kernel_rfl) (by kernel_rfl) (by kernel_rfl) (fun _ _ _ h => h) (Or.inl ⟨by rfl, ?_⟩) (by assumption) ?_
        rotate_left
        · (intro w hSw; (try dsimp only at hSw); go_simp; try with_reducible rfl)
        try simp only [Act.put, List.setIfInBounds_toArray, List.set_cons_zero, List.set_cons_succ]
        refine AnyTill.take (i := 2) (v := ?_) (op_at rfl) (by kernel_rfl) (by kernel_rfl) (by kernel_rfl) (by kernel_rfl) (fun _ _ _ h => h) (Or.inl ⟨by rfl, ?_⟩) (by assumption) ?_
        rotate_left
        · (intro w hSw; (try dsimp only at hSw); go_simp; try with_reducible rfl)
        try simp only [Act.put, List.setIfInBounds_toArray, List.set_cons_zero, List.set_cons_succ]
        refine AnyTill.take (i := 3) (v := ?_) (op_at rfl) (by kernel_rfl) (by kernel_rfl) (by kernel_rfl) (by kernel_rfl) (fun _ _ _ h => h) (Or.inl ⟨by rfl, ?_⟩) (by assumption) ?_
        rotate_left
        · (intro w hSw; (try dsimp only at hSw); go_simp; try with_reducible rfl)
        try simp only [Act.put, List.setIfInBounds_toArray, List.set_cons_zero, List.set_cons_succ]
        refine AnyTill.take (i := 4) (v := ?_) (op_at rfl) (by kernel_rfl) (by kernel_rfl) (by kernel_rfl) (by kernel_rfl) (fun _ _ _ h => h) (Or.inl ⟨by rfl, ?_⟩) (by assumption) ?_
        rotate_left
        · (intro w hSw; (try dsimp only at hSw); go_simp; try with_reducible rfl)
        try simp only [Act.put, List.setIfInBounds_toArray, List.set_cons_zero, List.set_cons_succ]
        refine AnyTill.take (i := 5) (v := ?_) (op_at rfl) (by kernel_rfl) (by kernel_rfl) (by kernel_rfl) (by kernel_rfl) (fun _ _ _ h => h) (Or.inl ⟨by rfl, ?_⟩) (by assumption) ?_
        rotate_left
        · (intro w hSw; (try dsimp only at hSw); go_simp; try with_reducible rfl)
        try simp only [Act.put, List.setIfInBounds_toArray, List.set_cons_zero, List.set_cons_succ]
        refine AnyTill.next (i := 6) (by kernel_rfl) (op_at rfl) (by decide) (fun K hK => ?_)
        go_simp
        obtain ⟨W9, hW9⟩ : ∃ V, V = (w1.alloc (.cells #[.int .i64 a, .int .i64 c] 92)).drew := ⟨_, rfl⟩
        have B9 := Lib.hid (show Below w1.heap.size w1 W9 from hW9 ▸ bdrew (nbelow1 _ _))
        have F9 := Lib.hid (show W9.heap[w1.heap.size]? = some (.cells #[.int .i64 a, .int .i64 c] 92 (0, 0)) by rw [hW9]; show (w1.heap.push _)[w1.heap.size]? = _; simp)
        rw [← hW9]
        clear hW9
        refine hK.out _ _ ?_ (fun hHeld => ?_)
        · exact ((HSC1).out.below B9.out).sb.2
        clear hK K
        try simp only [Act.put, List.setIfInBounds_toArray, List.set_cons_zero, List.set_cons_succ]
        refine AnyTill.last (z := 8) (by kernel_rfl) (op_at rfl) (by kernel_rfl) (fun K hK => ?_)
        go_simp
        refine hK.out _ _ ?_
        clear hK K hHeld
        go_wp2_with fail
        go_ret2
        exact scanQ_err Z.out (HB1.out.trans (B9.out.mono HB1.out.size)) HB1.out.size F9.out
      | ok q =>
        obtain ⟨t, n⟩ := q
        rw [hx] at hr
        obtain ⟨rfl, hsc⟩ := hr
        have hln := tok_len hx
        have hln2 : n ≤ s.size - a := by
          have := hln.2
          rw [List.length_drop, HL.out] at this; omega
        have HSC1 := Lib.hid hsc
        obtain ⟨hX0, hX1⟩ := hsc.sb
        have hX3 : ∃ ao cp, w1.cell? ⟨X, 3, none⟩ = some (.slice ao (ts ++ [t]).length cp) := by obtain ⟨ao, cp, g, -⟩ := hsc.ex; exact ⟨ao, cp, by simp [World.cell?, g]⟩
        obtain ⟨ao, cp, hX3⟩ := hX3
        rw [List.length_append, show ([t] : List Tk).length = 1 from rfl] at hX3
        by_cases hk : ts.length = 8192
        · have Z := Lib.hid (show scanT s.data.toList = .error (76, a) by rw [HC.out, scan_many h32'.out e35'.out hx hk]; rfl)
          have hbig2 : (8192 : Int) < ((ts.length + 1 : Nat) : Int) := by omega
          clear hb hx hk hsc
          go_upto_region 14 with fail
          refine wp_region_till (S := (fun cur : World => cur.cell? ⟨X, 1, none⟩ = some (.int .i64 a))) (z := 7) (by kernel_rfl) ?_ (fun hHeld => ?_)
          · exact hX1
          refine AnyTill.take (i := 6) (v := ?_) (op_at rfl) (by kernel_rfl) (by kernel_rfl) (by kernel_rfl) (by kernel_rfl) (fun _ _ _ h => h) (Or.inl ⟨by rfl, ?_⟩) (by assumption) ?_
          rotate_left
          · (intro w hSw; (try dsimp only at hSw); go_simp; try with_reducible rfl)
          try simp only [Act.put, List.setIfInBounds_toArray, List.set_cons_zero, List.set_cons_succ]
          refine AnyTill.take (i := 0) (v := ?_) (op_at rfl) (by kernel_rfl) (by kernel_rfl) (by kernel_rfl) (by kernel_rfl) (fun _ _ _ h => h) (Or.inl ⟨by rfl, ?_⟩) (by assumption) ?_
          rotate_left
          · (intro w hSw; (try dsimp only at hSw); go_simp; try with_reducible rfl)
          try simp only [Act.put, List.setIfInBounds_toArray, List.set_cons_zero, List.set_cons_succ]
          refine AnyTill.take (i := 1) (v := ?_) (op_at rfl) (by kernel_rfl) (by kernel_rfl) (by kernel_rfl) (by kernel_rfl) (fun _ _ _ h => h) (Or.inl ⟨by rfl, ?_⟩) (by assumption) ?_
          rotate_left
          · (intro w hSw; (try dsimp only at hSw); go_simp; try with_reducible rfl)
          try simp only [Act.put, List.setIfInBounds_toArray, List.set_cons_zero, List.set_cons_succ]
          refine AnyTill.take (i := 2) (v := ?_) (op_at rfl) (by kernel_rfl) (by kernel_rfl) (by kernel_rfl) (by kernel_rfl) (fun _ _ _ h => h) (Or.inl ⟨by rfl, ?_⟩) (by assumption) ?_
          rotate_left
          · (intro w hSw; (try dsimp only at hSw); go_simp; try with_reducible rfl)
          try simp only [Act.put, List.setIfInBounds_toArray, List.set_cons_zero, List.set_cons_succ]
          refine AnyTill.take (i := 3) (v := ?_) (op_at rfl) (by kernel_rfl) (by kernel_rfl) (by kernel_rfl) (by kernel_rfl) (fun _ _ _ h => h) (Or.inl ⟨by rfl, ?_⟩) (by assumption) ?_
          rotate_left
          · (intro w hSw; (try dsimp only at hSw); go_simp; try with_reducible rfl)
          try simp only [Act.put, List.setIfInBounds_toArray, List.set_cons_zero, List.set_cons_succ]
          refine AnyTill.take (i := 4) (v := ?_) (op_at rfl) (by kernel_rfl) (by kernel_rfl) (by kernel_rfl) (by kernel_rfl) (fun _ _ _ h => h) (Or.inl ⟨by rfl, ?_⟩) (by assumption) ?_
          rotate_left
          · (intro w hSw; (try dsimp only at hSw); go_simp; try with_reducible rfl)
          try simp only [Act.put, List.setIfInBounds_toArray, List.set_cons_zero, List.set_cons_succ]
          refine AnyTill.next (i := 5) (by kernel_rfl) (op_at rfl) (by decide) (fun K hK => ?_)
          go_simp
          obtain ⟨W9, hW9⟩ : ∃ V, V = (w1.alloc (.cells #[.int .i64 a, .int .i64 76] 92)).drew := ⟨_, rfl⟩
          have B9 := Lib.hid (show Below w1.heap.size w1 W9 from hW9 ▸ bdrew (nbelow1 _ _))
          have F9 := Lib.hid (show W9.heap[w1.heap.size]? = some (.cells #[.int .i64 a, .int .i64 76] 92 (0, 0)) by rw [hW9]; show (w1.heap.push _)[w1.heap.size]? = _; simp)
          rw [← hW9]
          clear hW9
          refine hK.out _ _ ?_ (fun hHeld => ?_)
          · exact ((HSC1).out.below B9.out).sb.2
          clear hK K
          try simp only [Act.put, List.setIfInBounds_toArray, List.set_cons_zero, List.set_cons_succ]
          refine AnyTill.last (z := 7) (by kernel_rfl) (op_at rfl) (by kernel_rfl) (fun K hK => ?_)
          go_simp
          refine hK.out _ _ ?_
          clear hK K hHeld
          go_wp2_with fail
          go_ret2
          exact scanQ_err Z.out (HB1.out.trans (B9.out.mono HB1.out.size)) HB1.out.size F9.out
        · have Z := Lib.hid (show scanT s.data.toList = ahead (ts ++ [t]) (scanS (s.data.toList.drop (a + n)) ((a + n : Nat) : Int) (ts ++ [t]).length 0) by
            rw [HC.out, scan_tok h32'.out e35'.out hx hk, ahead_app, ← D.out, List.drop_drop, List.length_append]
            congr 2)
          obtain ⟨hn1, -⟩ := hln
          have hnb : ¬ (8192 : Int) < ((ts.length + 1 : Nat) : Int) := by omega
          have htl8 : (ts ++ [t]).length ≤ 8192 := by rw [List.length_append]; show ts.length + 1 ≤ 8192; omega
          have hXr := hsc.lt.2
          have f1 : w1.frozen? ⟨X, 1, none⟩ = false := by obtain ⟨_, _, g, -⟩ := hsc.ex; simp [World.frozen?, g]
          have HSN := Lib.hid (show SC X M s (a + n) (ts ++ [t]) (w1.setCell ⟨X, 1, none⟩ (.int .i64 ((a + n : Nat) : Int))) from hsc.set_at (a + n))
          have HBN := Lib.hid (show Below w.heap.size w (w1.setCell ⟨X, 1, none⟩ (.int .i64 ((a + n : Nat) : Int))) from HB1.out.setCell (p := ⟨X, 1, none⟩) (by show w.heap.size ≤ X; have := HMX.out; have := HM.out; omega) _)
          rw [show ((a + n : Nat) : Int) = (a : Int) + n by omega] at HSN HBN
          have HT8 := Lib.hid htl8
          clear hb hx hk hsc htl8
          go_wp2_with fail
          go_roundw
          case rel => exact ⟨a + n, ts ++ [t], by omega, HT8.out, HSN, HBN, Z⟩
          case measure => rw [hmu.out, HSN.out.at]; omega
    case neg =>
      obtain rfl : a = s.size := by omega
      have Z := Lib.hid (show scanT s.data.toList = .ok (ts ++ [⟨0, [], 0, s.size⟩]) by
        have := HSC.out
        rw [drop_end (Nat.le_refl _)] at this
        exact this)
      obtain ⟨ao, cp, hat, how⟩ := HS.out.ex
      have hX3 : wr.cell? ⟨X, 3, none⟩ = some (.slice ao ts.length cp) := by simp [World.cell?, hat]
      have hlX := HS.out.lt.2
      have HOW := Lib.hid how
      clear hat how
      go_wp2_with (at_builtin; refine wpList_append_lies _ rfl _ _ 87 rfl (X + 1) 96 i0 (.agg #[.int .i64 0, .string ⟨#[]⟩, .int .i64 0, .int .i64 0]) 4 40 Tryz.underlying87 HI0.out.1 HI0.out.2.1 HI0.out.2.2.1 HI0.out.2.2.2 rfl (by decide) _ _ _ rfl (HOW.out.alloc _) ⟨wr.heap.size, 0, none⟩ 1 1 (tkCells ⟨0, [], 0, s.size⟩) rfl rfl (cells4_new _ _ _ _ _ _) (tk_one _) (by decide) (by unfold maxLen; omega) (by omega) (by simp; omega) _ rfl ?_; intro g cap' w5 hown' hgrow' hat' hltg; have HO5 := Lib.hid hown'; have HG5 := Lib.hid hgrow'; clear hown' hgrow' hat' hltg)
      go_ret2
      have hb5 : Below X wr w5 := ⟨HG5.out.os, HG5.out.tape, HG5.out.output, by have := HG5.out.size; simp at this; omega, fun d hd => (HG5.out.block d (by simp; omega) (fun e => by have := (HOW.out.lt d e.symm).1; omega)).trans ((nbelow1 wr _).block d (by omega))⟩
      have hMXo := HMX.out
      have hMo := HM.out
      refine ⟨HBr.out.trans (hb5.mono (by omega)), ?_⟩
      rw [Z.out]
      refine ⟨g, cap', by rw [List.length_append]; rfl, ?_⟩
      rw [List.length_append, tks_snoc]
      exact own_base HO5.out (by omega)
end Go.Proofs.YtcndknkdhlmdnaaGreatDoor

/-
  The program's Expr and Module.
-/
namespace Go.Proofs.YtcndknkdhlmdnaaGreatDoor
open Go.RowKit
set_option maxRecDepth 100000

theorem scan_all : ScanAll := fun s w hs ht => qscan_any s w hs ht
/-- the program's Expr: a text as an expression -/
theorem qExpr_is (s : ByteArray) (w : World) (hs : s.size ≤ maxLen) (ht : TabS w) : Calls Tryz.prog 27 #[.string s] w (TreeQ (exprR s.data.toList) w) := qExpr_any scan_all s w hs ht
/-- the program's Module: a text as a module -/
theorem qModule_is (s : ByteArray) (w : World) (hs : s.size ≤ maxLen) (ht : TabS w) : Calls Tryz.prog 32 #[.string s] w (TreeQ (moduleR s.data.toList) w) := qModule_any scan_all s w hs ht
end Go.Proofs.YtcndknkdhlmdnaaGreatDoor

/-
  usancelaw07's shown; readings that succeed or fail.
-/
namespace Go.Proofs.YtcndknkdhlmdnaaGreatDoor
open Go.RowKit
set_option maxRecDepth 100000

theorem readR_ok {rdr : List Tk → Rd} {l : List UInt8} {t : Nd} (h : readR rdr l = .ok t) : RdOk rdr l t := by
  unfold readR at h
  cases hs : scanT l with
  | error e => rw [hs] at h; cases h
  | ok ts =>
    rw [hs] at h
    replace h : endX (rdr ts) = .ok t := h
    cases hr : rdr ts with
    | error e => rw [hr] at h; cases h
    | ok q =>
      obtain ⟨u, r⟩ := q
      rw [hr] at h
      replace h : (if (hd r).kind = 0 then Except.ok u else Except.error (74, (hd r).pos)) = Except.ok (ε := Int × Int) t := h
      split at h
      · rename_i hk
        cases h
        exact ⟨ts, r, hs, hr, hk⟩
      · cases h
theorem readR_err {rdr : List Tk → Rd} (hr : ∀ l, (∀ k ∈ l, GT k) → Post (fun _ _ => True) (rdr l)) {l : List UInt8} {c p : Int} (h : readR rdr l = .error (c, p)) : c ≠ 0 := by
  unfold readR at h
  cases hs : scanT l with
  | error e =>
    rw [hs] at h
    obtain ⟨a, b⟩ := e
    cases h
    exact scanT_err hs
  | ok ts =>
    rw [hs] at h
    replace h : endX (rdr ts) = .error (c, p) := h
    have hp := hr ts (scanT_of hs).1.gt
    cases hx : rdr ts with
    | error e =>
      rw [hx] at h hp
      obtain ⟨a, b⟩ := e
      cases h
      exact hp
    | ok q =>
      obtain ⟨u, r⟩ := q
      rw [hx] at h
      replace h : (if (hd r).kind = 0 then Except.ok u else Except.error (74, (hd r).pos)) = Except.error (ε := Int × Int) (c, p) := h
      split at h
      · cases h
      · cases h; decide
theorem exprR_err {l : List UInt8} {c p : Int} (h : exprR l = .error (c, p)) : c ≠ 0 := readR_err (rdr := rd .expr 0) (fun _ hl => (rd_post 0 hl).mono fun _ _ _ => trivial) h
theorem moduleR_err {l : List UInt8} {c p : Int} (h : moduleR l = .error (c, p)) : c ≠ 0 := readR_err (rdr := modR) (fun _ hl => (mod_post hl).mono fun _ _ _ => trivial) h
set_option maxHeartbeats 2000000 in
theorem shown7_any (w : World) (ht : TabS w) : Calls Tryz.prog 26 #[] w fun e w' => e = .returned (.bool true) ∧ Below w.heap.size w w' := by
  have C1 := Lib.hid (qExpr_is ⟨#[97, 32, 45, 32, 98, 32, 45, 32, 49, 46, 53]⟩ w (by unfold maxLen; decide) ht)
  clear ht
  go_enter Tryz.func26, Tryz.ntmps26
  go_wp2_with fail
  (with_reducible refine Calls.mono C1.out ?_)
  rintro e w1 ⟨t, a, cp, f, k, rfl, hb, hx⟩
  rw [show exprR (ByteArray.mk #[97, 32, 45, 32, 98, 32, 45, 32, 49, 46, 53]).data.toList = .ok shownN from shown_expr] at hx
  obtain ⟨rfl, rfl, rfl, hl⟩ := hx
  have HB1 := Lib.hid hb
  obtain ⟨b0, o0, x0, y0, A0⟩ := hl.kid 0 (by decide)
  obtain ⟨b1, o1, x1, y1, A1⟩ := hl.kid 1 (by decide)
  obtain rfl := A0.addr
  obtain ⟨rfl, rfl⟩ : b0 = b1 ∧ o0 = o1 := by have := A1.addr; cases this; exact ⟨rfl, rfl⟩
  have hlt := A0.ok.2
  obtain ⟨W2, hW2⟩ : ∃ W, W = w1.alloc (.cells #[.int .i64 shownN.kind, .string shownN.text, .int .i64 shownN.n, .slice (some ⟨b0, o0, none⟩) shownN.kids.length cp, .int .i64 shownN.place] 24) := ⟨_, rfl⟩
  have N2 := Lib.hid (show NBox w1.heap.size shownN (some ⟨b0, o0, none⟩) cp W2 from hW2 ▸ NBox.make w1 shownN (some ⟨b0, o0, none⟩) cp)
  have E2 := Lib.hid (show Below w1.heap.size w1 W2 from hW2 ▸ nbelow1 _ _)
  have k0 : W2.cell? ⟨b0, o0, none⟩ = some (.int .i64 13) := (E2.out.cell (p := ⟨b0, o0, none⟩) hlt).trans A0.c0
  have k1 : W2.cell? ⟨b0, o0 + 5 + 2, none⟩ = some (.int .i64 1500000) := (E2.out.cell (p := ⟨b0, o0 + 5 + 2, none⟩) hlt).trans A1.c2
  clear hb hl C1 A0 A1
  have n0 : W2.cell? ⟨w1.heap.size, 0, none⟩ = some (.int .i64 13) := N2.out.cells.1.1
  have n3 : W2.cell? ⟨w1.heap.size, 3, none⟩ = some (.slice (some ⟨b0, o0, none⟩) 2 cp) := N2.out.cells.1.2.2.2.1
  unfold Nd.val
  go_upto_region 2 with fail
  rw [← hW2]
  clear hW2
  go_wp2_with fail
  go_ret
  exact ⟨rfl, HB1.out.trans (E2.out.mono HB1.out.size)⟩
end Go.Proofs.YtcndknkdhlmdnaaGreatDoor
