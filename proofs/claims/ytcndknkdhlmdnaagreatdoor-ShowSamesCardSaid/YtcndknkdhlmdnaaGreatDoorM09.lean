/-
  Texts that the statements' proofs rest on, one behind another: ShowI, RefA, RefB, ShowG.
-/
import Derived.Test.YtcndknkdhlmdnaaGreatDoorM08
import Derived.Test.YtcndknkdhlmdnaaGreatDoorM05
import Derived.Shelf.Strings.BuilderK
import Derived.WalkKit
import Derived.Shelf.Abstract
import Derived.WalkSpells
import Derived.WalkLawsBesides
import Derived.IntWalk
import Derived.Lib.Hide
import Derived.Test.YtcndknkdhlmdnaaGreatDoorM02
import Derived.Test.YtcndknkdhlmdnaaGreatDoorM03

/-
  (*strings.Builder).copyCheck and WriteString, at a builder of the call's own, whatever it holds.
-/
namespace Go.Proofs.YtcndknkdhlmdnaaGreatDoor
open Go.RowKit Go.Shelf
set_option maxRecDepth 100000

theorem bldX : Builder.Extra Tryz.prog Tryz.lays169_ren := Tryz.Builder_Extra_169
/-- a builder that holds a text -/
def Bld (B b : Nat) (l : List UInt8) (w : World) : Prop := Lib.IsBuilderF 48 5 B b (Lib.byteCells l) w
/-- what does not lie in the builder stands as it stood -/
abbrev Keeps (b : Nat) (w w' : World) : Prop := Lib.OthersKept 5 (some b) w w'

set_option maxHeartbeats 1000000 in
theorem bcopy_used (b : Nat) (w : World) (h0 : w.cell? ⟨b, 0, none⟩ = some (.pointer (some ⟨b, 0, none⟩))) :
    Calls Tryz.prog 64 #[.pointer (some ⟨b, 0, none⟩)] w fun e w' => e = .returned (.tuple #[]) ∧ w' = w := by
  obtain ⟨j, hj, _⟩ := Option.map_eq_some_iff.1 (show (Tryz.prog.info? 48).map (·.size) = some 2 from bldX.sizeBuilder)
  have mixed : Tryz.prog.follows .mixedOrders = true := by kernel_rfl
  go_enter Tryz.func64, Tryz.ntmps64
  go_wp2
  rw [Lib.run_neq_ptr_same w _ Tryz.underlying45 hj]
  go_wp2
  refine bodyPost_end (results_none rfl _ _ _) rfl ?_
  exact ⟨rfl, rfl⟩

set_option maxHeartbeats 1000000 in
theorem bcopy_fresh (b : Nat) (w : World) (h0 : w.cell? ⟨b, 0, none⟩ = some (.pointer none)) (hsh : w.shape? b = some (48, 2)) (hfz : w.frozen? ⟨b, 0, none⟩ = false) :
    Calls Tryz.prog 64 #[.pointer (some ⟨b, 0, none⟩)] w fun e w' => e = .returned (.tuple #[]) ∧ w' = w.setCell ⟨b, 0, none⟩ (.pointer (some ⟨b, 0, none⟩)) := by
  obtain ⟨j, hj, hjs⟩ := Option.map_eq_some_iff.1 (show (Tryz.prog.info? 48).map (·.size) = some 2 from bldX.sizeBuilder)
  have mixed : Tryz.prog.follows .mixedOrders = true := by kernel_rfl
  go_enter Tryz.func64, Tryz.ntmps64
  go_wp2
  rw [Lib.run_to_unsafe w ⟨b, 0, none⟩ Tryz.underlying45 Tryz.underlying112 hj (by rw [hjs]; decide) hsh (Nat.zero_lt_succ 1)]
  simp only [Result.andThen]
  rw [Oper.upon_value]
  go_wp2
  rw [run_callFunc_extern Tryz.func103 (by kernel_rfl) (by kernel_rfl) (by kernel_rfl) (e := Extern.AbiNoEscape.same) (by kernel_rfl)]
  rw [Lib.run_noEscape]
  simp only [Result.andThen]
  rw [Oper.upon_value]
  go_wp2
  rw [Lib.run_from_unsafe w ⟨b, 0, none⟩ Tryz.underlying112 Tryz.underlying45 hj hsh bldX.liesBuilder]
  simp only [Result.andThen]
  rw [Oper.upon_value]
  go_wp2
  refine bodyPost_end (results_none rfl _ _ _) rfl ?_
  exact ⟨rfl, rfl⟩

theorem bcopy_any (B b : Nat) (l : List UInt8) (w : World) (h : Bld B b l w) :
    Calls Tryz.prog 64 #[.pointer (some ⟨b, 0, none⟩)] w fun e w' => e = .returned (.tuple #[]) ∧ (Lib.BuilderAtF 48 5 B b (.pointer (some ⟨b, 0, none⟩)) (Lib.byteCells l) w' ∧ Below B w w' ∧ Keeps b w w') := by
  rcases h with h | h
  · refine (bcopy_fresh b w h.cell0 h.shape h.frozen0).mono ?_
    rintro e w' ⟨rfl, rfl⟩
    exact ⟨rfl, h.used _, (Below.refl B w).setCell (p := ⟨b, 0, none⟩) h.1 _, (Lib.OthersKept.refl _ _ w).setCell ⟨b, 0, none⟩ rfl _⟩
  · refine (bcopy_used b w h.cell0).mono ?_
    rintro e w' ⟨rfl, rfl⟩
    exact ⟨rfl, h, Below.refl B _, Lib.OthersKept.refl _ _ _⟩

set_option maxHeartbeats 2000000 in
/-- a text behind what the builder holds -/
theorem bwrite_any (B b : Nat) (l : List UInt8) (s : ByteArray) (w : World) (h : Bld B b l w) (hlen : l.length + s.size ≤ 140737488355328) (hBw : B ≤ w.heap.size) :
    Calls Tryz.prog 38 #[.pointer (some ⟨b, 0, none⟩), .string s] w fun e w' => e = .returned (.tuple #[.int .i64 s.size, .nilIface]) ∧ (Bld B b (l ++ s.data.toList) w' ∧ Below B w w' ∧ Keeps b w w') := by
  have hbl := Lib.byteCells_length l
  obtain ⟨i0, hi, hz0, hz1, hz2⟩ := info_parts (show (Tryz.prog.info? 5).map (fun i => (i.zero, i.size, i.bytes)) = some (some (.int .u8 0), 1, 1) from bldX.infoByte)
  have mixed : Tryz.prog.follows .mixedOrders = true := by kernel_rfl
  go_enter Tryz.func38, Tryz.ntmps38
  go_wp2_with (go_at_call 64; refine (bcopy_any B b l _ h).mono ?_)
  rintro e w1 ⟨rfl, h1, hb1, hk1⟩
  obtain ⟨hB, v, hbk, hown, hne⟩ := h1
  rw [hbl] at hown
  have c0 : w1.cell? ⟨b, 0, none⟩ = some (.pointer (some ⟨b, 0, none⟩)) := by rw [Lib.cell_of_heap hbk]; rfl
  have c1 : w1.cell? ⟨b, 1, none⟩ = some v := by rw [Lib.cell_of_heap hbk]; rfl
  go_wp2_with (at_builtin; refine Lib.wpList_append_own_stringF _ rfl _ _ 46 9 rfl B 5 i0 Tryz.underlying46 Tryz.underlying9 hi hz0 hz1 hz2 _ _ _ rfl hown s rfl ?c3 ?c4 ?c5 ?_)
  case c3 => unfold maxLen; omega
  case c4 => omega
  case c5 => have := hb1.size; omega
  intro v' w2 hown' hgrow _
  have hlt : b < w1.heap.size := by
    rcases Nat.lt_or_ge b w1.heap.size with h' | h'
    · exact h'
    · simp [Array.getElem?_eq_none h'] at hbk
  have hb2 : w2.heap[b]? = some (.cells #[.pointer (some ⟨b, 0, none⟩), v] 48 (0, 0)) := by
    rw [hgrow.block b hlt (fun e => hne e.symm)]
    exact hbk
  have d0 : w2.cell? ⟨b, 0, none⟩ = some (.pointer (some ⟨b, 0, none⟩)) := by rw [Lib.cell_of_heap hb2]; rfl
  have d1 : w2.cell? ⟨b, 1, none⟩ = some v := by rw [Lib.cell_of_heap hb2]; rfl
  have f1 : w2.frozen? ⟨b, 1, none⟩ = false := Lib.frozen_of_heap hb2 1
  obtain ⟨ao, n', cap, rfl⟩ : ∃ ao n' cap, v' = .slice ao n' cap := by
    rcases hown'.2 with ⟨hv, _⟩ | ⟨g, cap, cur, fz, hv, _⟩
    · exact ⟨_, _, _, hv⟩
    · exact ⟨_, _, _, hv⟩
  go_wp2
  go_ret2
  refine ⟨rfl, ?_, ?_, (hk1.grown hgrow (Lib.ownsRowF_kind hown)).setCell ⟨b, 1, none⟩ rfl _⟩
  · have e1 : Lib.byteCells (l ++ s.data.toList) = Lib.byteCells l ++ Lib.strCells s := by rw [Lib.strCells_eq]; unfold Lib.byteCells; rw [List.map_append]
    have e2 : (Lib.byteCells l ++ Lib.strCells s).length = l.length + s.size := by rw [List.length_append, hbl, Lib.strCells_length]
    refine Or.inr ?_
    rw [e1]
    exact Lib.BuilderAtF.put (T := 48) (e := 5) hB hb2 (bs' := Lib.byteCells l ++ Lib.strCells s) (by rw [e2]; exact hown') (by decide)
  · exact (hb1.grown hgrow (by have := hb1.size; omega) (fun k hk => (hown.lt k hk).1)).setCell (p := ⟨b, 1, none⟩) hB _

/-- what the builder holds -/
theorem bstring_any (B b : Nat) (l : List UInt8) (w : World) (h : Bld B b l w) (hBw : B ≤ w.heap.size) :
    Calls Tryz.prog 43 #[.pointer (some ⟨b, 0, none⟩)] w fun e w' => e = .returned (.string ⟨l.toArray⟩) ∧ (Bld B b l w' ∧ Below B w w' ∧ Keeps b w w') :=
  Tryz.Builder_String_any_k B b l w h hBw

end Go.Proofs.YtcndknkdhlmdnaaGreatDoor

/-
  usanceref07: bytes, and how many name's bytes stand at a place; a name.
-/
namespace Go.Proofs.YtcndknkdhlmdnaaGreatDoor
open Go.RowKit
set_option maxRecDepth 100000

def smI (n : Int) : Bool := decide (97 ≤ n) && decide (n ≤ 122)
def dgI (n : Int) : Bool := decide (48 ≤ n) && decide (n ≤ 57)
def inI (n : Int) : Bool := smI n || dgI n || n == 95
def smC (c : UInt8) : Bool := smI c.toNat
def inC (c : UInt8) : Bool := inI c.toNat
/-- how many name's bytes stand at the beginning of a list -/
def spanL (l : List UInt8) : Nat := match l with
  | [] => 0
  | c :: l => if smC c then 1 + (l.takeWhile inC).length else 0
/-- a name's bytes, as the document has it -/
def nameR (l : List UInt8) : Bool := decide (0 < l.length) && decide (l.length ≤ 24) && decide (spanL l = l.length)

theorem spanL_le (l : List UInt8) : spanL l ≤ l.length := by
  cases l with
  | nil => exact Nat.le_refl _
  | cons c l =>
    show (if smC c = true then 1 + (l.takeWhile inC).length else 0) ≤ l.length + 1
    split
    · have := (List.takeWhile_sublist (l := l) inC).length_le; omega
    · exact Nat.zero_le _
theorem rretI {k : IntKind} {a b : Int} (h : a = b) : Ending.returned (.int k a) = .returned (.int k b) := by rw [h]
theorem rretB {a b : Bool} (h : a = b) : Ending.returned (.bool a) = .returned (.bool b) := by rw [h]

set_option maxHeartbeats 400000 in
theorem rsmall_any (n : Int) (w : World) : Calls Tryz.prog 87 #[.int .u8 n] w fun e w' => e = .returned (.bool (smI n)) ∧ w = w' := by
  go_enter Tryz.func87, Tryz.ntmps87
  go_wp2
  all_goals go_ret
  all_goals exact ⟨rretB (by unfold smI; rw [Bool.eq_iff_iff]; simp; omega), rfl⟩
set_option maxHeartbeats 400000 in
theorem rdigit_any (n : Int) (w : World) : Calls Tryz.prog 89 #[.int .u8 n] w fun e w' => e = .returned (.bool (dgI n)) ∧ w = w' := by
  go_enter Tryz.func89, Tryz.ntmps89
  go_wp2
  all_goals go_ret
  all_goals exact ⟨rretB (by unfold dgI; rw [Bool.eq_iff_iff]; simp; omega), rfl⟩
set_option maxHeartbeats 400000 in
theorem rinner_any (n : Int) (w : World) : Calls Tryz.prog 144 #[.int .u8 n] w fun e w' => e = .returned (.bool (inI n)) ∧ w = w' := by
  have e := Lib.hid (show inI n = (smI n || dgI n || n == 95) from rfl)
  cases h1 : smI n
  · cases h2 : dgI n
    all_goals
      go_enter Tryz.func144, Tryz.ntmps144
      go_wp2_with (first | (go_at_call 87; refine (rsmall_any _ _).mono ?_; rintro e w' ⟨rfl, rfl⟩; rw [h1]) | (go_at_call 89; refine (rdigit_any _ _).mono ?_; rintro e w' ⟨rfl, rfl⟩; rw [h2]))
      go_ret
      exact ⟨rretB (by rw [e.out, h1, h2]; rfl), rfl⟩
  · go_enter Tryz.func144, Tryz.ntmps144
    go_wp2_with (first | (go_at_call 87; refine (rsmall_any _ _).mono ?_; rintro e w' ⟨rfl, rfl⟩; rw [h1]))
    go_ret
    exact ⟨rretB (by rw [e.out, h1]; rfl), rfl⟩

theorem drop_at {s : ByteArray} {k : Nat} (h : k < s.size) : s.data.toList.drop k = s[k] :: s.data.toList.drop (k + 1) := by
  have h' : k < s.data.toList.length := by simpa using h
  rw [List.drop_eq_getElem_cons h']
  rfl
theorem drop_end {s : ByteArray} {k : Nat} (h : s.size ≤ k) : s.data.toList.drop k = [] := List.drop_of_length_le (by simpa using h)
theorem span_small {s : ByteArray} {k : Nat} (h : k < s.size) (hs : smI s[k].toNat = true) : spanL (s.data.toList.drop k) = 1 + ((s.data.toList.drop (k + 1)).takeWhile inC).length := by
  rw [drop_at h]; exact if_pos (show smC s[k] = true from hs)
theorem span_none {s : ByteArray} {k : Nat} (h : k < s.size) (hs : smI s[k].toNat = false) : spanL (s.data.toList.drop k) = 0 := by
  rw [drop_at h]; exact if_neg (show ¬ smC s[k] = true by rw [show smC s[k] = false from hs]; decide)
theorem run_in {s : ByteArray} {k : Nat} (h : k < s.size) (hs : inI s[k].toNat = true) : ((s.data.toList.drop k).takeWhile inC).length = 1 + ((s.data.toList.drop (k + 1)).takeWhile inC).length := by
  rw [drop_at h, List.takeWhile_cons, if_pos (show inC s[k] = true from hs)]; simp; omega
theorem run_out {s : ByteArray} {k : Nat} (h : k < s.size) (hs : inI s[k].toNat = false) : ((s.data.toList.drop k).takeWhile inC).length = 0 := by
  rw [drop_at h, List.takeWhile_cons, if_neg (show ¬ inC s[k] = true by rw [show inC s[k] = false from hs]; decide)]; rfl
theorem run_end {s : ByteArray} {k : Nat} (h : s.size ≤ k) : ((s.data.toList.drop k).takeWhile inC).length = 0 := by rw [drop_end h]; rfl

set_option maxHeartbeats 1000000 in
theorem rspan_any (s : ByteArray) (a : Nat) (w : World) (hs : s.size ≤ maxLen) (ha : a ≤ maxLen) :
    Calls Tryz.prog 111 #[.string s, .int .i64 a] w fun e w' => e = .returned (.int .i64 (spanL (s.data.toList.drop a) : Nat)) ∧ w = w' := by
  have hm := hs
  have hm' := ha
  unfold maxLen at hm hm'
  by_cases h0 : a < s.size
  · cases h1 : smI s[a].toNat
    · have e := Lib.hid (span_none h0 h1)
      go_enter Tryz.func111, Tryz.ntmps111
      go_wp2_with (first | (go_at_call 87; refine (rsmall_any _ _).mono ?_; rintro e w' ⟨rfl, rfl⟩; rw [h1]))
      go_ret
      exact ⟨rretI (by rw [e.out]; rfl), rfl⟩
    · have e := Lib.hid (span_small h0 h1)
      go_enter Tryz.func111, Tryz.ntmps111
      go_wp2_with (first | (go_at_call 87; refine (rsmall_any _ _).mono ?_; rintro e w' ⟨rfl, rfl⟩; rw [h1]))
      clear h1
      go_loop [6] (fun n => ∃ k : Nat, 1 ≤ k ∧ a + k ≤ s.size ∧ n = .int .i64 k ∧ Hid (k + ((s.data.toList.drop (a + k)).takeWhile inC).length = spanL (s.data.toList.drop a))) (fun n => s.size - (intOf n).toNat)
      case atStart => exact ⟨1, Nat.le_refl _, by omega, rfl, e.out.symm⟩
      case round =>
        obtain ⟨k, hk1, hk, rfl, HK⟩ := hrel
        by_cases hlt : a + k < s.size
        · cases h2 : inI s[a + k].toNat
          · have E := Lib.hid (run_out hlt h2)
            go_wp2_with (first | (go_at_call 144; refine (rinner_any _ _).mono ?_; rintro e w' ⟨rfl, rfl⟩; rw [h2]))
            go_ret
            exact ⟨rretI (by rw [← HK.out, E.out]; rfl), rfl⟩
          · have E := Lib.hid (run_in hlt h2)
            go_wp2_with (first | (go_at_call 144; refine (rinner_any _ _).mono ?_; rintro e w' ⟨rfl, rfl⟩; rw [h2]))
            go_round
            case rel => exact ⟨k + 1, by omega, by omega, by go_num, by show _ = _; rw [← HK.out, E.out, Nat.add_assoc, Nat.add_assoc]⟩
            case measure => simp [intOf]; omega
        · have E := Lib.hid (run_end (s := s) (k := a + k) (by omega))
          go_wp2
          go_ret
          exact ⟨rretI (by rw [← HK.out, E.out]; rfl), rfl⟩
  · have e := Lib.hid (show spanL (s.data.toList.drop a) = 0 by rw [drop_end (by omega)]; rfl)
    go_enter Tryz.func111, Tryz.ntmps111
    go_wp2
    go_ret
    exact ⟨rretI (by rw [e.out]; rfl), rfl⟩

set_option maxHeartbeats 1000000 in
theorem rIsName_any (s : ByteArray) (w : World) (hs : s.size ≤ maxLen) :
    Calls Tryz.prog 71 #[.string s] w fun e w' => e = .returned (.bool (nameR s.data.toList)) ∧ w = w' := by
  have hm := hs
  unfold maxLen at hm
  have hl : s.data.toList.length = s.size := by simp
  by_cases h0 : 0 < s.size
  · by_cases h1 : 24 < s.size
    · have e := Lib.hid (show nameR s.data.toList = false by unfold nameR; rw [hl, decide_eq_false (show ¬ s.size ≤ 24 by omega)]; simp)
      clear hl
      go_enter Tryz.func71, Tryz.ntmps71
      go_wp2
      go_ret
      exact ⟨rretB e.out.symm, rfl⟩
    · have e := Lib.hid (show nameR s.data.toList = decide (spanL s.data.toList = s.size) by unfold nameR; rw [hl, decide_eq_true h0, decide_eq_true (show s.size ≤ 24 by omega)]; rfl)
      have hsp := spanL_le s.data.toList
      rw [hl] at hsp
      clear hl
      go_enter Tryz.func71, Tryz.ntmps71
      go_wp2_with (first | (go_at_call 111; refine (rspan_any _ 0 _ hs (by decide)).mono ?_; rintro e w' ⟨rfl, rfl⟩; rw [List.drop_zero]))
      go_ret
      exact ⟨rretB (by rw [e.out, Bool.eq_iff_iff]; simp; omega), rfl⟩
  · have e := Lib.hid (show nameR s.data.toList = false by unfold nameR; rw [hl, decide_eq_false h0]; rfl)
    clear hl
    go_enter Tryz.func71, Tryz.ntmps71
    go_wp2
    go_ret
    exact ⟨rretB e.out.symm, rfl⟩

end Go.Proofs.YtcndknkdhlmdnaaGreatDoor

/-
  A name and a currency: the document's words for them are the program's.
-/
namespace Go.Proofs.YtcndknkdhlmdnaaGreatDoor
open Go.RowKit
set_option maxRecDepth 100000

theorem u8_all {p : UInt8 → Bool} (h : ∀ n : Fin 256, p (UInt8.ofNat n.val) = true) (c : UInt8) : p c = true := by
  have := h ⟨c.toNat, c.toNat_lt⟩
  simpa using this
theorem inner_eq (c : UInt8) : isInner c = inC c := by
  have := u8_all (p := fun c => isInner c == inC c) (by decide +kernel) c
  simpa using this
theorem great_eq (c : UInt8) : isGreat c = (decide (65 ≤ (c.toNat : Int)) && decide ((c.toNat : Int) ≤ 90)) := by
  have := u8_all (p := fun c => isGreat c == (decide (65 ≤ (c.toNat : Int)) && decide ((c.toNat : Int) ≤ 90))) (by decide +kernel) c
  simpa using this
theorem takeWhile_all {α : Type} (p : α → Bool) : ∀ l : List α, (l.takeWhile p).length = l.length ↔ l.all p = true
  | [] => by simp
  | a :: l => by
    rw [List.takeWhile_cons]
    cases h : p a
    · simp [h]
    · simp [h, takeWhile_all p l]
theorem nameR_eq (l : List UInt8) : nameR l = nameL l := by
  unfold nameR nameL
  cases l with
  | nil => rfl
  | cons c l =>
    have ha : (c :: l).all isInner = (inC c && l.all inC) := by
      rw [List.all_cons, inner_eq]; congr 1
      exact List.all_congr rfl fun a => inner_eq a
    rw [ha, Bool.eq_iff_iff]
    have hsm : smC c = true → inC c = true := fun h => by
      unfold inC inI; rw [show smI (c.toNat : Int) = true from h]; rfl
    have hsm' : smC c = true ↔ 97 ≤ (c.toNat : Int) ∧ (c.toNat : Int) ≤ 122 := by unfold smC smI; simp
    have hsp : spanL (c :: l) = if smC c then 1 + (l.takeWhile inC).length else 0 := rfl
    have htw := takeWhile_all inC l
    simp only [Bool.and_eq_true, decide_eq_true_eq, List.length_cons, List.headD_cons]
    rw [hsp]
    by_cases hc : smC c = true
    · rw [if_pos hc]
      have := hsm hc
      have h2 := hsm'.1 hc
      constructor
      · rintro ⟨⟨-, h24⟩, hs⟩
        exact ⟨⟨h24, decide_eq_true h2.1, decide_eq_true h2.2⟩, this, htw.1 (by omega)⟩
      · rintro ⟨⟨h24, -⟩, -, hi⟩
        have := htw.2 hi
        exact ⟨⟨by omega, h24⟩, by omega⟩
    · rw [if_neg hc]
      constructor
      · rintro ⟨-, hs⟩; omega
      · rintro ⟨⟨-, h2⟩, -⟩; exact absurd (hsm'.2 ⟨of_decide_eq_true h2.1, of_decide_eq_true h2.2⟩) hc

theorem cur_get {s : ByteArray} (h : s.size = 3) : curL s.data.toList = (((decide (65 ≤ (s[0].toNat : Int)) && decide ((s[0].toNat : Int) ≤ 90)) && (decide (65 ≤ (s[1].toNat : Int)) && decide ((s[1].toNat : Int) ≤ 90))) && (decide (65 ≤ (s[2].toNat : Int)) && decide ((s[2].toNat : Int) ≤ 90))) := by
  unfold curL
  have hl : s.data.toList.length = 3 := by simpa using h
  rw [decide_eq_true hl]
  have e : s.data.toList = [s[0], s[1], s[2]] := by
    have := drop_at (s := s) (k := 0) (by omega)
    rw [List.drop_zero, drop_at (s := s) (k := 1) (by omega), drop_at (s := s) (k := 2) (by omega), drop_end (s := s) (k := 3) (by omega)] at this
    exact this
  rw [e]
  simp only [List.all_cons, List.all_nil, great_eq, Bool.and_true, Bool.true_and, Bool.and_assoc]
  rfl

set_option maxHeartbeats 1000000 in
theorem rIsCur_any (s : ByteArray) (w : World) (hs : s.size ≤ maxLen) :
    Calls Tryz.prog 114 #[.string s] w fun e w' => e = .returned (.bool (curL s.data.toList)) ∧ w = w' := by
  have hm := hs
  unfold maxLen at hm
  by_cases h3 : s.size = 3
  · have e := Lib.hid (cur_get h3)
    go_enter Tryz.func114, Tryz.ntmps114
    go_wp2
    go_loop [3] (fun i => ∃ k : Nat, k ≤ 3 ∧ i = .int .i64 k ∧ Hid (∀ j (h : j < s.size), j < k → 65 ≤ (s[j].toNat : Int) ∧ (s[j].toNat : Int) ≤ 90)) (fun i => 3 - (intOf i).toNat)
    case atStart => exact ⟨0, by omega, rfl, fun j h hj => by omega⟩
    case round =>
      obtain ⟨k, hk, rfl, HK⟩ := hrel
      by_cases hlt : k < 3
      · have hks : k < s.size := by omega
        have hF : Hid (¬ (65 ≤ (s[k].toNat : Int) ∧ (s[k].toNat : Int) ≤ 90) → curL s.data.toList = false) := by
          intro hb
          rw [e.out]
          have hk3 : k = 0 ∨ k = 1 ∨ k = 2 := by omega
          rw [Bool.eq_false_iff]
          intro hh
          simp only [Bool.and_eq_true, decide_eq_true_eq] at hh
          rcases hk3 with rfl | rfl | rfl
          · exact hb hh.1.1
          · exact hb hh.1.2
          · exact hb hh.2
        go_wp2
        all_goals first
          | (go_round
             case rel =>
               refine ⟨k + 1, by omega, by go_num, fun j h hj => ?_⟩
               by_cases ej : j = k
               · subst ej; exact ⟨by omega, by omega⟩
               · exact HK.out j h (by omega)
             case measure => simp [intOf]; omega)
          | (go_ret
             exact ⟨rretB (hF.out (by omega)).symm, rfl⟩)
      · have E := Lib.hid (show curL s.data.toList = true by
          rw [e.out]
          simp only [Bool.and_eq_true, decide_eq_true_eq]
          exact ⟨⟨HK.out 0 (by omega) (by omega), HK.out 1 (by omega) (by omega)⟩, HK.out 2 (by omega) (by omega)⟩)
        go_wp2
        go_ret
        exact ⟨rretB E.out.symm, rfl⟩
  · have e := Lib.hid (show curL s.data.toList = false by unfold curL; rw [decide_eq_false (by simpa using h3)]; rfl)
    go_enter Tryz.func114, Tryz.ntmps114
    go_wp2
    go_ret
    exact ⟨rretB e.out.symm, rfl⟩

end Go.Proofs.YtcndknkdhlmdnaaGreatDoor

/-
  usanceref01.Show: a number's text.
-/
namespace Go.Proofs.YtcndknkdhlmdnaaGreatDoor
open Go.RowKit
set_option maxRecDepth 100000

def tenS : ByteArray := ⟨#[48, 49, 50, 51, 52, 53, 54, 55, 56, 57]⟩
theorem ten_ext (n : Nat) : tenS.extract (n % 10) (n % 10 + 1) = ⟨#[dig n]⟩ := by
  have h : n % 10 < 10 := Nat.mod_lt _ (by decide)
  have : ∀ d : Fin 10, tenS.extract d.val (d.val + 1) = ⟨#[UInt8.ofNat (48 + d.val)]⟩ := by decide +kernel
  exact this ⟨n % 10, h⟩
set_option maxHeartbeats 400000 in
theorem r1clamp_any (a : Int) (w : World) : Calls Tryz.prog 106 #[.int .i64 a] w fun e w' => e = .returned (.int .i64 (clampI a)) ∧ w = w' := by
  go_enter Tryz.func106, Tryz.ntmps106
  go_wp2
  all_goals go_ret
  all_goals exact ⟨nretI (by unfold clampI; (repeat' split) <;> omega), by first | rfl | trivial⟩
set_option maxHeartbeats 400000 in
theorem r1size_any (a : Int) (h : -1000000000000000 ≤ a) (h' : a ≤ 1000000000000000) (w : World) : Calls Tryz.prog 108 #[.int .i64 a] w fun e w' => e = .returned (.int .i64 (a.natAbs : Nat)) ∧ w = w' := by
  go_enter Tryz.func108, Tryz.ntmps108
  go_wp2
  all_goals go_ret
  all_goals exact ⟨nretI (by first | omega | (go_num; omega) | go_num), by first | rfl | trivial⟩

def strLen : Value → Nat
  | .string s => s.size
  | _ => 0
set_option maxHeartbeats 2000000 in
theorem r1Digits_any (n : Nat) (hn : n < 10000000000000000) (w : World) : Calls Tryz.prog 107 #[.int .i64 n] w fun e w' => e = .returned (.string ⟨(decL n).toArray⟩) ∧ w = w' := by
  go_enter Tryz.func107, Tryz.ntmps107
  go_wp2
  go_loop [0, 3] (fun x t => ∃ (k : Nat) (s : ByteArray) (f : Nat), x = .int .i64 k ∧ t = .string s ∧ k ≤ n ∧ k < 10 ^ f ∧ s.size + f ≤ 18 ∧ Hid ((s = ⟨#[]⟩ ∧ k = n ∧ f = 17) ∨ (0 < s.size ∧ decF 20 k s.data.toList = decL n))) (fun _ t => 20 - strLen t)
  case atStart => exact ⟨n, ⟨#[]⟩, 17, rfl, rfl, Nat.le_refl _, by omega, by decide, .inl ⟨rfl, rfl, rfl⟩⟩
  case round =>
    obtain ⟨k, s, f, rfl, rfl, hkn, hk, hsf, HI⟩ := hrel
    have HX := Lib.hid (ten_ext k)
    by_cases he : s = ⟨#[]⟩
    · have HE : Hid (k = n ∧ f = 17) := by
        rcases HI.out with h | h
        · exact h.2
        · rw [he] at h; exact absurd h.1 (by decide)
      subst he
      clear HI
      go_wp2
      go_round
      case rel =>
        obtain ⟨rfl, rfl⟩ := HE.out
        exact ⟨k / 10, ⟨#[dig k]⟩ ++ ⟨#[]⟩, 16, by simp, congrArg (fun x => Value.string (x ++ ⟨#[]⟩)) HX.out, by omega, by omega, by rw [ByteArray.size_append]; show 1 + 0 + 16 ≤ 18; decide, .inr ⟨by rw [ByteArray.size_append]; show 0 < 1 + 0; decide, rfl⟩⟩
      case measure =>
        show 20 - (tenS.extract (k % 10) (k % 10 + 1) ++ ⟨#[]⟩).size < 20 - 0
        rw [HX.out, ByteArray.size_append]
        show 20 - (1 + 0) < 20 - 0
        decide
    · have h0 : 0 < s.size := by
        rcases Nat.eq_zero_or_pos s.size with h | h
        · exact absurd (by cases s with | mk d => simp only [ByteArray.mk.injEq]; exact Array.eq_empty_of_size_eq_zero h) he
        · exact h
      have HD : Hid (decF 20 k s.data.toList = decL n) := by
        rcases HI.out with h | h
        · exact absurd h.1 he
        · exact h.2
      have e1 : ¬ s.toList = [] := fun e => by
        rw [Lib.toList_data] at e; have := size_list s; rw [e] at this; simp at this; omega
      have e2 : s.toList.isEmpty = false := by simpa using e1
      clear he HI
      by_cases hz : k = 0
      · subst hz
        have E : Hid (s = ⟨(decL n).toArray⟩) := by
          have := HD.out
          rw [decF_zero] at this
          show s = _
          rw [← this]
        go_wp2
        go_ret
        exact ⟨by rw [← E.out]; rfl, by first | rfl | trivial⟩
      · have hz' : (0 : Int) < k := by omega
        cases f with
        | zero => omega
        | succ f =>
        have hk' : k / 10 < 10 ^ f := by rw [Nat.pow_succ] at hk; omega
        have hz2 : k < 10 ^ 20 := by omega
        clear hk
        go_wp2
        go_round
        case rel =>
          refine ⟨k / 10, ⟨#[dig k]⟩ ++ s, f, by simp, congrArg (fun x => Value.string (x ++ s)) HX.out, by omega, hk', by rw [ByteArray.size_append]; show 1 + s.size + f ≤ 18; omega, .inr ⟨by rw [ByteArray.size_append]; show 0 < 1 + s.size; omega, ?_⟩⟩
          rw [← HD.out, decF_step k _ hz hz2]
          simp
        case measure =>
          show 20 - (tenS.extract (k % 10) (k % 10 + 1) ++ s).size < 20 - s.size
          rw [HX.out, ByteArray.size_append]
          show 20 - (1 + s.size) < 20 - s.size
          omega

theorem showI_eq (a : Int) : showI a = (if clampI a < 0 then [45] else []) ++ showU (clampI a).natAbs := rfl
theorem clamp_bd (a : Int) : -1000000000000000 ≤ clampI a ∧ clampI a ≤ 1000000000000000 := by unfold clampI; (repeat' split) <;> omega
/-- a text's last byte, and what stands ahead of it -/
theorem last_app {s : ByteArray} (h : 0 < s.size) : s.data.toList = (s.extract 0 (s.size - 1)).data.toList ++ [s[s.size - 1]] := by
  have hl := size_list s
  have e1 : (s.extract 0 (s.size - 1)).data.toList = s.data.toList.take (s.size - 1) := by simp [List.dropLast_eq_take]
  have e2 : s[s.size - 1] = s.data.toList[s.size - 1]'(by omega) := rfl
  rw [e1, e2]
  have : s.data.toList.take (s.size - 1 + 1) = s.data.toList := List.take_of_length_le (by omega)
  rw [← List.take_succ_eq_append_getElem, this]
theorem str_of {s : ByteArray} {l : List UInt8} (h : l = s.data.toList) : (⟨l.toArray⟩ : ByteArray) = s := by
  subst h; cases s; simp
theorem trimZ_zero (l : List UInt8) : trimZ (l ++ [48]) = trimZ l := by unfold trimZ; simp
theorem trimZ_stop (l : List UInt8) (c : UInt8) (h : c ≠ 48) : trimZ (l ++ [c]) = l ++ [c] := by unfold trimZ; simp [h]

set_option maxHeartbeats 1000000 in
theorem r1Show_any (a : Int) (w : World) : Calls Tryz.prog 68 #[.int .i64 a] w fun e w' => e = .returned (.string ⟨(showI a).toArray⟩) ∧ w = w' := by
  have E := Lib.hid (showI_eq a)
  obtain ⟨b1, b2⟩ := clamp_bd a
  go_enter Tryz.func68, Tryz.ntmps68
  go_wp2_with (first | (go_at_call 106; refine (r1clamp_any a _).mono ?_; rintro e w' ⟨rfl, rfl⟩))
  generalize clampI a = c at b1 b2 E ⊢
  go_wp2_with fail
  refine Calls.mono (r1size_any c b1 b2 _) ?_
  rintro e w' ⟨rfl, rfl⟩
  generalize hx : c.natAbs = x at E
  have hxb : x ≤ 1000000000000000 := by omega
  go_wp2_with fail
  have hq : (x : Int) / 1000000 = ((x / 1000000 : Nat) : Int) := by omega
  rw [hq]
  clear hq
  obtain ⟨q, hqe⟩ : ∃ q, q = x / 1000000 := ⟨_, rfl⟩
  rw [← hqe]
  have hqb : q < 10000000000 := by omega
  have HQ := Lib.hid hqe
  clear hqe
  refine Calls.mono (r1Digits_any q (by omega) _) ?_
  rintro e w' ⟨rfl, rfl⟩
  obtain ⟨D, hDe, hDs⟩ : ∃ D : ByteArray, D = ⟨(decL q).toArray⟩ ∧ D.size ≤ 21 := ⟨_, rfl, decL_len _⟩
  rw [← hDe]
  have HD := Lib.hid (show D.data.toList = decL (x / 1000000) by rw [hDe, HQ.out])
  clear hDe
  obtain ⟨G, hG, hGs⟩ : ∃ G : ByteArray, Hid (G.data.toList = (if c < 0 then [45] else []) ++ decL (x / 1000000)) ∧ G.size ≤ 22 := by
    refine ⟨⟨((if c < 0 then [45] else []) ++ decL (x / 1000000)).toArray⟩, by show _ = _; rfl, ?_⟩
    have := decL_len (x / 1000000)
    show ((if c < 0 then [45] else []) ++ decL (x / 1000000)).toArray.size ≤ 22
    simp only [List.size_toArray, List.length_append]
    split <;> simp <;> omega
  have HN := Lib.hid (tail_nil x)
  have hp : (x : Int) % 1000000 = ((x % 1000000 : Nat) : Int) := by omega
  obtain ⟨p, hpe⟩ : ∃ p, p = x % 1000000 := ⟨_, rfl⟩
  rw [← hpe] at hp
  have hpb : p < 1000000 := by omega
  have HP := Lib.hid hpe
  clear hpe
  have hcD : Hid (c < 0 → (⟨#[45]⟩ ++ D : ByteArray) = G) := fun h => data_inj (by rw [hG.out, if_pos h, ← HD.out]; simp)
  have hcD' : Hid (¬ c < 0 → D = G) := fun h => data_inj (by rw [hG.out, if_neg h, ← HD.out]; simp)
  have eN : Hid (p = 0 → showI a = G.data.toList) := fun h => by
    rw [E.out, hG.out]
    unfold showU
    have hne : trimZ (lowF 6 x []) = [] := HN.out.2 (by rw [← HP.out, h])
    simp only [if_pos hne, List.append_nil]
  have eP : Hid (p ≠ 0 → showI a = G.data.toList ++ 46 :: trimZ (lowF 6 x [])) := fun h => by
    rw [E.out, hG.out]
    unfold showU
    have hne : ¬ trimZ (lowF 6 x []) = [] := fun e => h (by rw [HP.out]; exact HN.out.1 e)
    simp only [if_neg hne, List.append_assoc]
  have eQ : Hid (p ≠ 0 → trimZ (lowF 6 x []) ≠ []) := fun h e => h (by rw [HP.out]; exact HN.out.1 e)
  have eT : Hid ((⟨(decL (1000000 + p)).toArray⟩ : ByteArray).data.toList = 49 :: lowF 6 x []) := by
    show decL (1000000 + p) = _
    rw [dec_one p hpb, HP.out]
    exact congrArg (49 :: ·) (lowF_mod 6 x [])
  clear E HN hG HD HQ
  by_cases hc : c < 0
  case' pos =>
    go_wp2_with fail
    rw [hcD.out (by omega)]
  case' neg =>
    go_wp2_with fail
    rw [hcD'.out (by omega)]
  all_goals
    refine Calls.mono (r1size_any c b1 b2 _) ?_
    rintro e w' ⟨rfl, rfl⟩
    rw [hx]
    by_cases hp0 : p = 0
    · have ER := Lib.hid (str_of (eN.out hp0))
      go_wp2_with fail
      go_ret
      exact ⟨by rw [ER.out]; rfl, by first | rfl | trivial⟩
    · have HE := Lib.hid (eP.out hp0)
      have HT := Lib.hid (eQ.out hp0)
      go_wp2_with fail
      have hpp : (1000000 : Int) + (p : Int) = ((1000000 + p : Nat) : Int) := by omega
      rw [hpp]
      refine Calls.mono (r1Digits_any (1000000 + p) (by omega) _) ?_
      rintro e w' ⟨rfl, rfl⟩
      have hsz : (⟨(decL (1000000 + p)).toArray⟩ : ByteArray).size = 7 := by
        rw [← size_list, eT.out, List.length_cons, lowF_length]; rfl
      obtain ⟨T, hTe, hT7, ET⟩ : ∃ T : ByteArray, T = ⟨(decL (1000000 + p)).toArray⟩ ∧ T.size = 7 ∧ Hid (T.data.toList = 49 :: lowF 6 x []) := ⟨_, rfl, hsz, eT⟩
      rw [← hTe]
      clear hTe hsz
      clear hpp
      have hul : (T.extract 1 7).data.toList = lowF 6 x [] := by
        have : (T.extract 1 7).data.toList = (T.data.toList.drop 1).take 6 := by simp
        rw [this, ET.out]
        exact List.take_of_length_le (by show (lowF 6 x []).length ≤ 6; rw [lowF_length]; decide)
      have hus : (T.extract 1 7).size = 6 := by rw [← size_list, hul, lowF_length]; rfl
      go_wp2_with fail
      generalize T.extract 1 7 = U at hul hus ⊢
      have HU := Lib.hid (show trimZ U.data.toList = trimZ (lowF 6 x []) by rw [hul])
      clear hul
      go_loop [5] (fun t => ∃ s : ByteArray, t = .string s ∧ 0 < s.size ∧ s.size ≤ 6 ∧ Hid (trimZ s.data.toList = trimZ (lowF 6 x []))) (fun t => strLen t)
      case atStart => exact ⟨U, rfl, by omega, by omega, HU⟩
      case round =>
        obtain ⟨s, rfl, h0, h6, HI⟩ := hrel
        have HL := Lib.hid (last_app h0)
        have c1 : (0 : Int) ≤ (s.size : Int) - 1 := by omega
        have c2 : (s.size : Int) - 1 < s.size := by omega
        by_cases hl : s[s.size - 1] = 48
        · have e1 : (s[s.size - 1].toNat : Int) = 48 := by rw [hl]; rfl
          have HS : Hid (trimZ (s.extract 0 (s.size - 1)).data.toList = trimZ (lowF 6 x [])) := by
            show _ = _
            rw [← HI.out, HL.out, hl, trimZ_zero]
          have h1 : 0 < s.size - 1 := by
            rcases Nat.eq_zero_or_pos (s.size - 1) with h | h
            · exfalso
              apply HT.out
              rw [← HS.out]
              have : (s.extract 0 (s.size - 1)).data.toList = [] := by
                apply List.eq_nil_of_length_eq_zero
                rw [size_list, ByteArray.size_extract]; omega
              rw [this]; rfl
            · exact h
          clear hl
          go_wp2
          go_round
          case rel => exact ⟨s.extract 0 (s.size - 1), rfl, by rw [ByteArray.size_extract]; omega, by rw [ByteArray.size_extract]; omega, HS⟩
          case measure =>
            show (s.extract 0 (s.size - 1)).size < s.size
            rw [ByteArray.size_extract]; omega
        · have e1 : ¬ (s[s.size - 1].toNat : Int) = 48 := fun e => hl (UInt8.toNat_inj.1 (Int.ofNat.inj e))
          have HS : Hid (s.data.toList = trimZ (lowF 6 x [])) := by
            show _ = _
            rw [← HI.out, HL.out, trimZ_stop _ _ hl]
          clear hl
          go_wp2
          go_ret
          refine ⟨?_, by first | rfl | trivial⟩
          have ef : (⟨(showI a).toArray⟩ : ByteArray) = G ++ ⟨#[46]⟩ ++ s := str_of (by rw [HE.out, ← HS.out]; simp)
          rw [ef]; rfl

end Go.Proofs.YtcndknkdhlmdnaaGreatDoor
