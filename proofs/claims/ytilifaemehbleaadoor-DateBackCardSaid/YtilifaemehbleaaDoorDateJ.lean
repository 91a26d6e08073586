/-
  The walk of the program's own reading of a date.
-/
import Derived.Test.YtilifaemehbleaaDoorDateI
namespace Go.Proofs.YtilifaemehbleaaDoor
open Go.RowKit
set_option maxRecDepth 100000

set_option maxHeartbeats 1000000 in
theorem parse_len (s : ByteArray) (w : World) (hs : ¬ s.size = 10) :
    Calls Tryd.prog 18 #[.string s] w fun e w' => e = .returned (.tuple #[.int .i64 0, .int .i64 30]) ∧ Below w.heap.size w w' := by
  go_enter Tryd.func18, Tryd.ntmps18
  go_wp2
  go_ret2
  exact ⟨rfl, below1 _ _⟩

/-- the memory of the reading's loop: three numbers, and the text's bytes -/
def PInv (s : ByteArray) (B : Nat) (a b c : Int) (w wr : World) : Prop :=
  Below B w wr ∧ (∀ j (hj : j < s.size), wr.cell? ⟨B + 1, j, none⟩ = some (.int .u8 (s[j].toNat : Int))) ∧
  wr.cell? ⟨B, 0, none⟩ = some (.int .i64 a) ∧ wr.cell? ⟨B, 1, none⟩ = some (.int .i64 b) ∧ wr.cell? ⟨B, 2, none⟩ = some (.int .i64 c) ∧
  (∀ j, wr.frozen? ⟨B, j, none⟩ = false)
theorem PInv.set0 {s : ByteArray} {B : Nat} {a b c x : Int} {w wr : World} (h : PInv s B a b c w wr) : PInv s B x b c w (wr.setCell ⟨B, 0, none⟩ (.int .i64 x)) := by
  obtain ⟨h1, h2, h3, h4, h5, h6⟩ := h
  refine ⟨h1.setCell (Nat.le_refl _) _, fun j hj => ?_, World.cell?_setCell_same _ _ _ h3, ?_, ?_, fun j => by rw [World.frozen?_setCell]; exact h6 j⟩
  · rw [World.cell?_setCell_other _ _ _ _ (by simp)]; exact h2 j hj
  · rw [World.cell?_setCell_other _ _ _ _ (by simp)]; exact h4
  · rw [World.cell?_setCell_other _ _ _ _ (by simp)]; exact h5
theorem PInv.set1 {s : ByteArray} {B : Nat} {a b c x : Int} {w wr : World} (h : PInv s B a b c w wr) : PInv s B a x c w (wr.setCell ⟨B, 1, none⟩ (.int .i64 x)) := by
  obtain ⟨h1, h2, h3, h4, h5, h6⟩ := h
  refine ⟨h1.setCell (Nat.le_refl _) _, fun j hj => ?_, ?_, World.cell?_setCell_same _ _ _ h4, ?_, fun j => by rw [World.frozen?_setCell]; exact h6 j⟩
  · rw [World.cell?_setCell_other _ _ _ _ (by simp)]; exact h2 j hj
  · rw [World.cell?_setCell_other _ _ _ _ (by simp)]; exact h3
  · rw [World.cell?_setCell_other _ _ _ _ (by simp)]; exact h5
theorem PInv.set2 {s : ByteArray} {B : Nat} {a b c x : Int} {w wr : World} (h : PInv s B a b c w wr) : PInv s B a b x w (wr.setCell ⟨B, 2, none⟩ (.int .i64 x)) := by
  obtain ⟨h1, h2, h3, h4, h5, h6⟩ := h
  refine ⟨h1.setCell (Nat.le_refl _) _, fun j hj => ?_, ?_, ?_, World.cell?_setCell_same _ _ _ h5, fun j => by rw [World.frozen?_setCell]; exact h6 j⟩
  · rw [World.cell?_setCell_other _ _ _ _ (by simp)]; exact h2 j hj
  · rw [World.cell?_setCell_other _ _ _ _ (by simp)]; exact h3
  · rw [World.cell?_setCell_other _ _ _ _ (by simp)]; exact h4
/-- as the loop begins -/
theorem PInv.start (s : ByteArray) (w : World) (cap : Nat) : PInv s w.heap.size 0 0 0 w
    ((w.alloc (.cells #[.int .i64 0, .int .i64 0, .int .i64 0] 50)).drew.alloc (.cells (bytesRow s cap) 5 ((bytesRow s cap).size, (bytesRow s cap).size + 1))) := by
  have hsz : (w.alloc (.cells #[.int .i64 0, .int .i64 0, .int .i64 0] 50)).drew.heap.size = w.heap.size + 1 := by show (w.heap.push _).size = _; simp
  have old : ∀ j, ((w.alloc (.cells #[.int .i64 0, .int .i64 0, .int .i64 0] 50)).drew.alloc (.cells (bytesRow s cap) 5 ((bytesRow s cap).size, (bytesRow s cap).size + 1))).cell? ⟨w.heap.size, j, none⟩ = (w.alloc (.cells #[.int .i64 0, .int .i64 0, .int .i64 0] 50)).cell? ⟨w.heap.size, j, none⟩ := fun j =>
    World.cell?_of_block (w := (w.alloc (.cells #[.int .i64 0, .int .i64 0, .int .i64 0] 50))) (Below.heap_alloc _ _ _ (by rw [hsz]; exact Nat.lt_succ_self _))
  refine ⟨((below1 w _).drew).alloc (by rw [hsz]; exact Nat.le_succ _) _, fun j hj => ?_, ?_, ?_, ?_, fun j => ?_⟩
  · rw [← hsz, World.cell?_alloc_mark]
    exact bytesRow_at s cap j hj
  · rw [old]; simp
  · rw [old]; simp
  · rw [old]; simp
  · have : ((w.alloc (.cells #[.int .i64 0, .int .i64 0, .int .i64 0] 50)).drew.alloc (.cells (bytesRow s cap) 5 ((bytesRow s cap).size, (bytesRow s cap).size + 1))).frozen? ⟨w.heap.size, j, none⟩ = (w.alloc (.cells #[.int .i64 0, .int .i64 0, .int .i64 0] 50)).frozen? ⟨w.heap.size, j, none⟩ :=
      World.frozen?_of_block (w := (w.alloc (.cells #[.int .i64 0, .int .i64 0, .int .i64 0] 50))) (Below.heap_alloc _ _ _ (by rw [hsz]; exact Nat.lt_succ_self _))
    rw [this]; simp

/-- what the loop knows behind k bytes -/
def PRel (s : ByteArray) (k : Nat) (part a b c : Int) : Prop :=
  (∀ j (hj : j < s.data.toList.length), j < k → Cal.fits j s.data.toList[j] = true) ∧
  a = Cal.val (Cal.seg s.data.toList 0 (min k 4)) ∧ b = Cal.val (Cal.seg s.data.toList 5 (min k 7)) ∧ c = Cal.val (Cal.seg s.data.toList 8 k) ∧
  part = if k ≤ 4 then 0 else if k ≤ 7 then 1 else 2

theorem of_any (y m d : Int) (w : World) :
    Calls Tryd.prog 10 #[.int .i64 y, .int .i64 m, .int .i64 d] w fun e w' => e = .returned (.tuple #[.int .i64 (ofV y m d), .int .i64 (ofE y m d)]) ∧ Below w.heap.size w w' := by
  unfold ofV ofE
  by_cases h : Cal.ok y m d
  · rw [if_pos h, if_pos h]; exact of_ok y m d w h
  · rw [if_neg h, if_neg h]; exact of_bad y m d w h

/-- what a text of ten bytes is read as -/
def rdV (s : ByteArray) : Int := if (∀ j (hj : j < s.data.toList.length), Cal.fits j s.data.toList[j] = true) then ofV (Cal.val (Cal.seg s.data.toList 0 4)) (Cal.val (Cal.seg s.data.toList 5 7)) (Cal.val (Cal.seg s.data.toList 8 10)) else 0
def rdE (s : ByteArray) : Int := if (∀ j (hj : j < s.data.toList.length), Cal.fits j s.data.toList[j] = true) then ofE (Cal.val (Cal.seg s.data.toList 0 4)) (Cal.val (Cal.seg s.data.toList 5 7)) (Cal.val (Cal.seg s.data.toList 8 10)) else 30
theorem rd_bad {s : ByteArray} {k : Nat} (hk : k < s.data.toList.length) (h : Cal.fits k s.data.toList[k] = false) : rdV s = 0 ∧ rdE s = 30 := by
  have n : ¬ ∀ j (hj : j < s.data.toList.length), Cal.fits j s.data.toList[j] = true := fun a => by rw [a k hk] at h; cases h
  unfold rdV rdE
  rw [if_neg n, if_neg n]
  exact ⟨rfl, rfl⟩

theorem prel_start (s : ByteArray) : PRel s 0 0 0 0 0 :=
  ⟨fun j _ h => absurd h (by omega), by rw [Cal.seg_nil _ (by omega)]; rfl, by rw [Cal.seg_nil _ (by omega)]; rfl, by rw [Cal.seg_nil _ (by omega)]; rfl, rfl⟩
theorem prel_fits {s : ByteArray} {k : Nat} {part a b c : Int} (h : PRel s k part a b c) (hk : k < s.data.toList.length) (hf : Cal.fits k s.data.toList[k] = true) :
    ∀ j (hj : j < s.data.toList.length), j < k + 1 → Cal.fits j s.data.toList[j] = true := fun j hj hl => by
  by_cases e : j = k
  · subst e; exact hf
  · exact h.1 j hj (by omega)
theorem prel_bd {s : ByteArray} {k : Nat} {part a b c : Int} (h : PRel s k part a b c) (hk : k ≤ 10) : 0 ≤ a ∧ a < 10000 ∧ 0 ≤ b ∧ b < 10000 ∧ 0 ≤ c ∧ c < 10000 := by
  obtain ⟨h1, rfl, rfl, rfl, -⟩ := h
  have dig : ∀ j (hj : j < s.data.toList.length), j < k → j ≠ 4 → j ≠ 7 → Cal.isDig s.data.toList[j] = true := fun j hj hl e f => by rw [← Cal.fits_dig e f]; exact h1 j hj hl
  have u := Cal.seg_bd s.data.toList (lo := 0) (hi := min k 4) (by omega) (fun j hj _ _ => dig j hj (by omega) (by omega) (by omega))
  have v := Cal.seg_bd s.data.toList (lo := 5) (hi := min k 7) (by omega) (fun j hj _ _ => dig j hj (by omega) (by omega) (by omega))
  have x := Cal.seg_bd s.data.toList (lo := 8) (hi := k) (by omega) (fun j hj _ _ => dig j hj (by omega) (by omega) (by omega))
  exact ⟨u.1, u.2, v.1, v.2, x.1, x.2⟩
theorem prel_dig0 {s : ByteArray} {k : Nat} {part a b c : Int} (h : PRel s k part a b c) (hk : k < s.data.toList.length) (hf : Cal.fits k s.data.toList[k] = true) (h4 : k < 4) :
    PRel s (k + 1) 0 (10 * a + ((s.data.toList[k].toNat : Int) - 48)) b c := by
  refine ⟨prel_fits h hk hf, ?_, ?_, ?_, by rw [if_pos (by omega)]⟩
  · rw [h.2.1, show min (k + 1) 4 = k + 1 by omega, show min k 4 = k by omega, Cal.seg_succ _ (by omega) hk, Cal.val_snoc]
  · rw [h.2.2.1, Cal.seg_nil _ (by omega), Cal.seg_nil _ (by omega)]
  · rw [h.2.2.2.1, Cal.seg_nil _ (by omega), Cal.seg_nil _ (by omega)]
theorem prel_dash {s : ByteArray} {k : Nat} {part a b c : Int} (h : PRel s k part a b c) (hk : k < s.data.toList.length) (hf : Cal.fits k s.data.toList[k] = true) (h4 : k = 4 ∨ k = 7) :
    PRel s (k + 1) (part + 1) a b c := by
  refine ⟨prel_fits h hk hf, ?_, ?_, ?_, ?_⟩
  · rw [h.2.1, show min (k + 1) 4 = min k 4 by omega]
  · rw [h.2.2.1]
    rcases h4 with rfl | rfl
    · rw [Cal.seg_nil _ (by omega), Cal.seg_nil _ (by omega)]
    · rfl
  · rw [h.2.2.2.1, Cal.seg_nil _ (by omega), Cal.seg_nil _ (by omega)]
  · rw [h.2.2.2.2]
    rcases h4 with rfl | rfl <;> rfl
theorem prel_dig1 {s : ByteArray} {k : Nat} {part a b c : Int} (h : PRel s k part a b c) (hk : k < s.data.toList.length) (hf : Cal.fits k s.data.toList[k] = true) (h4 : 5 ≤ k) (h5 : k < 7) :
    PRel s (k + 1) 1 a (10 * b + ((s.data.toList[k].toNat : Int) - 48)) c := by
  refine ⟨prel_fits h hk hf, ?_, ?_, ?_, by rw [if_neg (by omega), if_pos (by omega)]⟩
  · rw [h.2.1, show min (k + 1) 4 = min k 4 by omega]
  · rw [h.2.2.1, show min (k + 1) 7 = k + 1 by omega, show min k 7 = k by omega, Cal.seg_succ _ (by omega) hk, Cal.val_snoc]
  · rw [h.2.2.2.1, Cal.seg_nil _ (by omega), Cal.seg_nil _ (by omega)]
theorem prel_dig2 {s : ByteArray} {k : Nat} {part a b c : Int} (h : PRel s k part a b c) (hk : k < s.data.toList.length) (hf : Cal.fits k s.data.toList[k] = true) (h4 : 8 ≤ k) :
    PRel s (k + 1) 2 a b (10 * c + ((s.data.toList[k].toNat : Int) - 48)) := by
  refine ⟨prel_fits h hk hf, ?_, ?_, ?_, by rw [if_neg (by omega), if_neg (by omega)]⟩
  · rw [h.2.1, show min (k + 1) 4 = min k 4 by omega]
  · rw [h.2.2.1, show min (k + 1) 7 = min k 7 by omega]
  · rw [h.2.2.2.1, Cal.seg_succ _ (by omega) hk, Cal.val_snoc]
theorem prel_end {s : ByteArray} {part a b c : Int} (h : PRel s 10 part a b c) (hs : s.data.toList.length = 10) : ofV a b c = rdV s ∧ ofE a b c = rdE s := by
  have g : ∀ j (hj : j < s.data.toList.length), Cal.fits j s.data.toList[j] = true := fun j hj => h.1 j hj (by omega)
  obtain ⟨-, rfl, rfl, rfl, -⟩ := h
  unfold rdV rdE
  rw [if_pos g, if_pos g]
  exact ⟨rfl, rfl⟩
theorem ret_pair {a b c d : Int} (h : a = b) (h' : c = d) : Ending.returned (.tuple #[.int .i64 a, .int .i64 c]) = .returned (.tuple #[.int .i64 b, .int .i64 d]) := by rw [h, h']
theorem dig_false {c : UInt8} (h : (c.toNat : Int) < 48 ∨ 57 < (c.toNat : Int)) : Cal.isDig c = false := by
  unfold Cal.isDig; rw [Bool.and_eq_false_iff, decide_eq_false_iff_not, decide_eq_false_iff_not]; omega
theorem dig_true {c : UInt8} (h : ¬ (c.toNat : Int) < 48) (h' : ¬ 57 < (c.toNat : Int)) : Cal.isDig c = true := by
  unfold Cal.isDig; rw [Bool.and_eq_true, decide_eq_true_iff, decide_eq_true_iff]; omega

set_option maxHeartbeats 4000000 in
theorem parse_ten (s : ByteArray) (w : World) (hs : s.size = 10) :
    Calls Tryd.prog 18 #[.string s] w fun e w' => e = .returned (.tuple #[.int .i64 (rdV s), .int .i64 (rdE s)]) ∧ Below w.heap.size w w' := by
  have hcv := fun w => run_bytes_of_string (P := Tryd.prog) w 9 51 5 s (by kernel_rfl) (by kernel_rfl) (by kernel_rfl)
  go_enter Tryd.func18, Tryd.ntmps18
  go_wp2
  have hlen := Lib.hid (show s.data.toList.length = 10 by simpa using hs)
  clear hcv
  go_loopw [5, 14] (fun p i wr => ∃ (k : Nat) (part a b c : Int), k ≤ 10 ∧ i = .int .i64 k ∧ p = .int .i64 part ∧ Hid (PRel s k part a b c) ∧ Hid (PInv s w.heap.size a b c w wr)) (fun _ i _ => (10 - intOf i).toNat)
  case atStart => exact ⟨0, 0, 0, 0, 0, by omega, rfl, rfl, prel_start s, PInv.start s w _⟩
  case round =>
    obtain ⟨k, part, a, b, c, hk, rfl, rfl, HR, HI⟩ := hrel
    have bd := prel_bd HR.out hk
    by_cases hlt : k < 10
    · have hks : k < s.size := by omega
      have hcell := HI.out.2.1 k hks
      have hkl : Hid (k < s.data.toList.length) := by have := hlen.out; show k < _; omega
      have hck : Hid (s[k] = s.data.toList[k]'hkl.out) := rfl
      have hpart := HR.out.2.2.2.2
      by_cases c4 : k = 4
      · subst c4
        obtain rfl : part = 0 := hpart
        by_cases hd : (s[4].toNat : Int) = 45
        · have hf : Hid (Cal.fits 4 (s.data.toList[4]'hkl.out) = true) := by show _ = true; rw [Cal.fits_dash (by omega), decide_eq_true_iff]; exact hd
          go_wp2
          go_roundw
          case rel => exact ⟨5, 1, a, b, c, by omega, by go_num, rfl, Lib.hid (prel_dash HR.out hkl.out hf.out (by omega)), HI⟩
          case measure => simp [intOf]
        · have hf : Hid (Cal.fits 4 (s.data.toList[4]'hkl.out) = false) := by show _ = false; rw [Cal.fits_dash (by omega), decide_eq_false_iff_not]; exact hd
          have hr := Lib.hid (rd_bad hkl.out hf.out)
          go_wp2
          go_ret2
          exact ⟨ret_pair hr.out.1.symm hr.out.2.symm, HI.out.1⟩
      by_cases c7 : k = 7
      · subst c7
        obtain rfl : part = 1 := hpart
        by_cases hd : (s[7].toNat : Int) = 45
        · have hf : Hid (Cal.fits 7 (s.data.toList[7]'hkl.out) = true) := by show _ = true; rw [Cal.fits_dash (by omega), decide_eq_true_iff]; exact hd
          go_wp2
          go_roundw
          case rel => exact ⟨8, 2, a, b, c, by omega, by go_num, rfl, Lib.hid (prel_dash HR.out hkl.out hf.out (by omega)), HI⟩
          case measure => simp [intOf]
        · have hf : Hid (Cal.fits 7 (s.data.toList[7]'hkl.out) = false) := by show _ = false; rw [Cal.fits_dash (by omega), decide_eq_false_iff_not]; exact hd
          have hr := Lib.hid (rd_bad hkl.out hf.out)
          go_wp2
          go_ret2
          exact ⟨ret_pair hr.out.1.symm hr.out.2.symm, HI.out.1⟩
      by_cases k4 : k < 4
      · have hf4 : Hid (k ≠ 4 ∧ k ≠ 7) := by show _ ∧ _; omega
        have q4 : ((k : Int) == 4) = false := by rw [beq_eq_false_iff_ne]; omega
        have q7 : ((k : Int) == 7) = false := by rw [beq_eq_false_iff_ne]; omega
        obtain rfl : part = 0 := by rw [hpart]; rw [if_pos (by omega)]
        clear hpart
        have hm := HI.out.2.2.1
        have hz := HI.out.2.2.2.2.2 0
        by_cases hd1 : (s[k].toNat : Int) < 48
        · have hr := Lib.hid (rd_bad hkl.out ((Cal.fits_dig hf4.out.1 hf4.out.2).trans (dig_false (.inl hd1))))
          go_wp2
          go_ret2
          exact ⟨ret_pair hr.out.1.symm hr.out.2.symm, HI.out.1⟩
        by_cases hd2 : 57 < (s[k].toNat : Int)
        · have hr := Lib.hid (rd_bad hkl.out ((Cal.fits_dig hf4.out.1 hf4.out.2).trans (dig_false (.inr hd2))))
          go_wp2
          go_ret2
          exact ⟨ret_pair hr.out.1.symm hr.out.2.symm, HI.out.1⟩
        have hf : Hid (Cal.fits k (s.data.toList[k]'hkl.out) = true) := (Cal.fits_dig hf4.out.1 hf4.out.2).trans (dig_true hd1 hd2)
        go_wp2
        go_roundw
        case rel => exact ⟨k + 1, 0, _, b, c, by omega, by go_num, rfl, Lib.hid (prel_dig0 HR.out hkl.out hf.out k4), Lib.hid HI.out.set0⟩
        case measure => simp [intOf]; omega
      by_cases k7 : k < 7
      · have hf4 : Hid (k ≠ 4 ∧ k ≠ 7) := by show _ ∧ _; omega
        have q4 : ((k : Int) == 4) = false := by rw [beq_eq_false_iff_ne]; omega
        have q7 : ((k : Int) == 7) = false := by rw [beq_eq_false_iff_ne]; omega
        obtain rfl : part = 1 := by rw [hpart]; rw [if_neg (by omega), if_pos (by omega)]
        clear hpart
        have hm := HI.out.2.2.2.1
        have hz := HI.out.2.2.2.2.2 1
        by_cases hd1 : (s[k].toNat : Int) < 48
        · have hr := Lib.hid (rd_bad hkl.out ((Cal.fits_dig hf4.out.1 hf4.out.2).trans (dig_false (.inl hd1))))
          go_wp2
          go_ret2
          exact ⟨ret_pair hr.out.1.symm hr.out.2.symm, HI.out.1⟩
        by_cases hd2 : 57 < (s[k].toNat : Int)
        · have hr := Lib.hid (rd_bad hkl.out ((Cal.fits_dig hf4.out.1 hf4.out.2).trans (dig_false (.inr hd2))))
          go_wp2
          go_ret2
          exact ⟨ret_pair hr.out.1.symm hr.out.2.symm, HI.out.1⟩
        have hf : Hid (Cal.fits k (s.data.toList[k]'hkl.out) = true) := (Cal.fits_dig hf4.out.1 hf4.out.2).trans (dig_true hd1 hd2)
        go_wp2
        go_roundw
        case rel => exact ⟨k + 1, 1, a, _, c, by omega, by go_num, rfl, Lib.hid (prel_dig1 HR.out hkl.out hf.out (by omega) k7), Lib.hid HI.out.set1⟩
        case measure => simp [intOf]; omega
      · have hf4 : Hid (k ≠ 4 ∧ k ≠ 7) := by show _ ∧ _; omega
        have q4 : ((k : Int) == 4) = false := by rw [beq_eq_false_iff_ne]; omega
        have q7 : ((k : Int) == 7) = false := by rw [beq_eq_false_iff_ne]; omega
        obtain rfl : part = 2 := by rw [hpart]; rw [if_neg (by omega), if_neg (by omega)]
        clear hpart
        have hm := HI.out.2.2.2.2.1
        have hz := HI.out.2.2.2.2.2 2
        by_cases hd1 : (s[k].toNat : Int) < 48
        · have hr := Lib.hid (rd_bad hkl.out ((Cal.fits_dig hf4.out.1 hf4.out.2).trans (dig_false (.inl hd1))))
          go_wp2
          go_ret2
          exact ⟨ret_pair hr.out.1.symm hr.out.2.symm, HI.out.1⟩
        by_cases hd2 : 57 < (s[k].toNat : Int)
        · have hr := Lib.hid (rd_bad hkl.out ((Cal.fits_dig hf4.out.1 hf4.out.2).trans (dig_false (.inr hd2))))
          go_wp2
          go_ret2
          exact ⟨ret_pair hr.out.1.symm hr.out.2.symm, HI.out.1⟩
        have hf : Hid (Cal.fits k (s.data.toList[k]'hkl.out) = true) := (Cal.fits_dig hf4.out.1 hf4.out.2).trans (dig_true hd1 hd2)
        go_wp2
        go_roundw
        case rel => exact ⟨k + 1, 2, a, b, _, by omega, by go_num, rfl, Lib.hid (prel_dig2 HR.out hkl.out hf.out (by omega)), Lib.hid HI.out.set2⟩
        case measure => simp [intOf]; omega
    · obtain rfl : k = 10 := by omega
      have hend := Lib.hid (prel_end HR.out hlen.out)
      have m0 := HI.out.2.2.1
      have m1 := HI.out.2.2.2.1
      have m2 := HI.out.2.2.2.2.1
      go_wp2_with (go_at_call 10; refine (of_any _ _ _ _).mono ?_; rintro e w' ⟨rfl, hb⟩)
      go_ret2
      exact ⟨ret_pair hend.out.1 hend.out.2, HI.out.1.trans (hb.mono HI.out.1.size)⟩

end Go.Proofs.YtilifaemehbleaaDoor
