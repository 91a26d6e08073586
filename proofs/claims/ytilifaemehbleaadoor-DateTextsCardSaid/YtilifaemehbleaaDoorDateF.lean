/-
  The walks of a date's text, written: of the program and of the document's answer.
-/
import Derived.Test.YtilifaemehbleaaDoorDateE
import Derived.Test.YtilifaemehbleaaDoorText
import Derived.WalkSmall
namespace Go.Proofs.YtilifaemehbleaaDoor
open Go.RowKit
set_option maxRecDepth 100000

theorem bytes_ext {a b : ByteArray} (h : a.data.toList = b.data.toList) : a = b := by
  cases a; cases b; simp only [ByteArray.mk.injEq]; exact Array.toList_inj.1 h

/-- the library's table of powers is as it was laid -/
def Tab (w : World) : Prop := Lib.TabIs Tryd.prog w "internal/strconv.uint64pow10" .u64 Lib.pow10Tab
theorem Tab.below {w w' : World} (h : Tab w) (hb : Below w.heap.size w w') : Tab w' := by
  have hg : Tryd.prog.globalNamed "internal/strconv.uint64pow10" = some 0 := by kernel_rfl
  unfold Tab Lib.TabIs World.var? at *
  rw [hg] at h ⊢
  simp only [Option.bind_some] at h ⊢
  have hlt : 0 < w.heap.size := by
    rcases Nat.lt_or_ge 0 w.heap.size with h' | h'
    · exact h'
    · rw [Array.getElem?_eq_none h'] at h; cases h
  rw [hb.block _ hlt]
  exact h

theorem below_grows (w : World) (k : Nat) (os : Array Obj) : Below w.heap.size w (Sort.grow (w.drewN k) os) :=
  ⟨rfl, rfl, rfl, by rw [Sort.size_grow]; exact Nat.le_add_right _ _, fun i hi => Sort.heap_grow_old (w.drewN k) os hi⟩

theorem itoa_any (n : Int) (w : World) (ht : Hid (Tab w)) (h0 : -9223372036854775808 ≤ n) (h1 : n ≤ 9223372036854775807) :
    Calls Tryd.prog 34 #[.int .i64 n] w fun e w' => e = .returned (.string ⟨(Lib.itoa n).toArray⟩) ∧ Below w.heap.size w w' := by
  refine (Tryd.strconv_Itoa n h0 h1 w ht.out).mono ?_
  rintro e w' ⟨rfl, k, os, rfl⟩
  exact ⟨rfl, below_grows w k os⟩

set_option maxHeartbeats 400000 in
theorem show1_any (n : Int) (w : World) (ht : Hid (Tab w)) (h0 : 0 ≤ n) (h1 : n < 100) :
    Calls Tryd.prog 33 #[.int .i64 n] w fun e w' => e = .returned (.string ⟨(Cal.dig2 n.toNat).toArray⟩) ∧ Below w.heap.size w w' := by
  have hlen := Cal.itoa3_len h0 h1
  have hcut : (ByteArray.mk (Lib.itoa (100 + n)).toArray).extract 1 3 = ⟨(Cal.dig2 n.toNat).toArray⟩ := by
    rw [← Cal.itoa3 h0 h1]
    refine bytes_ext ?_
    rw [Lib.extract_data]
    rw [List.take_of_length_le (by simp [hlen])]
  have HC := Lib.hid hcut
  clear hcut
  go_enter Tryd.func33, Tryd.ntmps33
  go_wp2_with (go_at_call 34; refine (itoa_any _ _ ht (by omega) (by omega)).mono ?_; rintro e w' ⟨rfl, hb⟩)
  go_ret
  exact ⟨congrArg (fun x => Ending.returned (.string x)) HC.out, hb⟩

theorem dig2_toNat {n : Int} (h0 : 0 ≤ n) (h1 : n < 100) : (UInt8.ofNat (48 + n.toNat / 10)).toNat = 48 + n.toNat / 10 ∧ (UInt8.ofNat (48 + n.toNat % 10)).toNat = 48 + n.toNat % 10 := by
  constructor <;> simp only [UInt8.toNat_ofNat'] <;> omega
theorem two_back {n : Int} (h0 : 0 ≤ n) (h1 : n < 100) (w : World) :
    (convert 51 9 (.slice (some ⟨w.heap.size, 0, none⟩) 2 2)).run Tryd.prog (w.alloc (.cells #[.int .u8 (48 + n / 10), .int .u8 (48 + n % 10)] 5)) = .ok (.string ⟨(Cal.dig2 n.toNat).toArray⟩) (w.alloc (.cells #[.int .u8 (48 + n / 10), .int .u8 (48 + n % 10)] 5)) := by
  refine run_convert_bytes_back _ 51 9 5 ⟨w.heap.size, 0, none⟩ 2 (Cal.dig2 n.toNat) (by kernel_rfl) (by kernel_rfl) (by kernel_rfl) ?_
  obtain ⟨a, b⟩ := dig2_toNat h0 h1
  intro j hj
  match j, hj with
  | 0, _ => rw [show ((Cal.dig2 n.toNat)[0]).toNat = 48 + n.toNat / 10 from a]; simp [Addr.add]; omega
  | 1, _ => rw [show ((Cal.dig2 n.toNat)[1]).toNat = 48 + n.toNat % 10 from b]; simp [Addr.add]; omega

set_option maxHeartbeats 400000 in
theorem two_any (n : Int) (w : World) (h0 : 0 ≤ n) (h1 : n < 100) :
    Calls Tryd.prog 35 #[.int .i64 n] w fun e w' => e = .returned (.string ⟨(Cal.dig2 n.toNat).toArray⟩) ∧ Below w.heap.size w w' := by
  have hb := two_back h0 h1 w
  go_enter Tryd.func35, Tryd.ntmps35
  go_wp2
  go_ret
  exact ⟨rfl, below1 _ _⟩

/-- a date's text, as the program's string -/
def textS (y m d : Int) : ByteArray := ⟨(Cal.text y m d).toArray⟩

set_option maxHeartbeats 1000000 in
theorem show_ok (y m d k : Int) (w : World) (ht : Tab w) (h : Cal.ok y m d) (hk : Cal.num y m d = k) :
    Calls Tryd.prog 16 #[.int .i64 k] w fun e w' => e = .returned (.tuple #[.string (textS y m d), .int .i64 0]) ∧ Below w.heap.size w w' := by
  have H := Lib.hid h
  have K := Lib.hid hk
  clear hk
  obtain ⟨h1, h2, h3, h4, h5, h6⟩ := h
  have ml := Cal.mlen_bd y m
  have HB : Hid (Below w.heap.size w w ∧ Tab w) := ⟨Below.refl _ _, ht⟩
  clear ht
  have hi := Lib.hid (Cal.itoa4 (y := y) (by omega) (by omega))
  have l4 : (Lib.itoa y).length = 4 := by rw [hi.out]; rfl
  have l2 : (Cal.dig2 m.toNat).length = 2 := rfl
  have l2' : (Cal.dig2 d.toNat).length = 2 := rfl
  have HT : Hid ((ByteArray.mk (Lib.itoa y).toArray ++ ByteArray.mk #[45] ++ ByteArray.mk (Cal.dig2 m.toNat).toArray ++ ByteArray.mk #[45] ++ ByteArray.mk (Cal.dig2 d.toNat).toArray) = textS y m d) := by
    refine bytes_ext ?_
    rw [hi.out]
    simp [textS, Cal.text, ByteArray.data_append]
  go_enter Tryd.func16, Tryd.ntmps16
  go_wp2_with (first
    | (go_at_call 12; refine (parts_ok _ _ _ _ _ H.out K.out).mono ?_; rintro e w' ⟨rfl, hb⟩; replace HB := Lib.hid (And.intro (HB.out.1.trans (hb.mono HB.out.1.size)) (HB.out.2.below hb)); clear hb)
    | (go_at_call 34; refine (itoa_any _ _ (Lib.hid HB.out.2) (by omega) (by omega)).mono ?_; rintro e w' ⟨rfl, hb⟩; replace HB := Lib.hid (And.intro (HB.out.1.trans (hb.mono HB.out.1.size)) (HB.out.2.below hb)); clear hb)
    | (go_at_call 33; refine (show1_any _ _ (Lib.hid HB.out.2) (by omega) (by omega)).mono ?_; rintro e w' ⟨rfl, hb⟩; replace HB := Lib.hid (And.intro (HB.out.1.trans (hb.mono HB.out.1.size)) (HB.out.2.below hb)); clear hb))
  go_ret2
  exact ⟨congrArg (fun x => Ending.returned (.tuple #[.string x, .int .i64 0])) HT.out, HB.out.1⟩

set_option maxHeartbeats 400000 in
theorem show_bad (k : Int) (w : World) (h : k < 0 ∨ 73048 < k) :
    Calls Tryd.prog 16 #[.int .i64 k] w fun e w' => e = .returned (.tuple #[.string ⟨#[]⟩, .int .i64 30]) ∧ Below w.heap.size w w' := by
  have H := Lib.hid h
  clear h
  go_enter Tryd.func16, Tryd.ntmps16
  go_wp2_with (go_at_call 12; refine (parts_bad _ _ H.out).mono ?_; rintro e w' ⟨rfl, hb⟩)
  go_ret2
  exact ⟨rfl, hb⟩

set_option maxHeartbeats 1000000 in
theorem rshow_ok (y m d k : Int) (w : World) (h : Cal.ok y m d) (hk : Cal.num y m d = k) :
    Calls Tryd.prog 17 #[.int .i64 k] w fun e w' => e = .returned (.tuple #[.string (textS y m d), .int .i64 0]) ∧ Below w.heap.size w w' := by
  have H := Lib.hid h
  have K := Lib.hid hk
  clear hk
  obtain ⟨h1, h2, h3, h4, h5, h6⟩ := h
  have ml := Cal.mlen_bd y m
  have HB : Hid (Below w.heap.size w w) := Below.refl _ _
  have l2 : (Cal.dig2 m.toNat).length = 2 := rfl
  have l2' : (Cal.dig2 d.toNat).length = 2 := rfl
  have l4 : (Cal.dig2 (y / 100).toNat).length = 2 := rfl
  have l4' : (Cal.dig2 (y % 100).toNat).length = 2 := rfl
  have HT : Hid ((ByteArray.mk (Cal.dig2 (y / 100).toNat).toArray ++ ByteArray.mk (Cal.dig2 (y % 100).toNat).toArray ++ ByteArray.mk #[45] ++ ByteArray.mk (Cal.dig2 m.toNat).toArray ++ ByteArray.mk #[45] ++ ByteArray.mk (Cal.dig2 d.toNat).toArray) = textS y m d) := by
    refine bytes_ext ?_
    rw [show (y / 100).toNat = y.toNat / 100 by omega, show (y % 100).toNat = y.toNat % 100 by omega]
    simp [textS, Cal.text, ByteArray.data_append]
  go_enter Tryd.func17, Tryd.ntmps17
  go_wp2_with (first
    | (go_at_call 13; refine (rparts_ok _ _ _ _ _ H.out K.out).mono ?_; rintro e w' ⟨rfl, hb⟩; replace HB := Lib.hid (HB.out.trans (hb.mono HB.out.size)); clear hb)
    | (go_at_call 35; refine (two_any _ _ (by omega) (by omega)).mono ?_; rintro e w' ⟨rfl, hb⟩; replace HB := Lib.hid (HB.out.trans (hb.mono HB.out.size)); clear hb))
  go_ret2
  exact ⟨congrArg (fun x => Ending.returned (.tuple #[.string x, .int .i64 0])) HT.out, HB.out⟩

set_option maxHeartbeats 400000 in
theorem rshow_bad (k : Int) (w : World) (h : k < 0 ∨ 73048 < k) :
    Calls Tryd.prog 17 #[.int .i64 k] w fun e w' => e = .returned (.tuple #[.string ⟨#[]⟩, .int .i64 30]) ∧ Below w.heap.size w w' := by
  have H := Lib.hid h
  clear h
  go_enter Tryd.func17, Tryd.ntmps17
  go_wp2_with (go_at_call 13; refine (rparts_bad _ _ H.out).mono ?_; rintro e w' ⟨rfl, hb⟩)
  go_ret2
  exact ⟨rfl, hb⟩

end Go.Proofs.YtilifaemehbleaaDoor
