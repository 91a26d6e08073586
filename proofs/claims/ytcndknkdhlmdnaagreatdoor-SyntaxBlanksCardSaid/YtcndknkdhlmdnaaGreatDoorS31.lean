/-
  Complement: what one text more of ShowE is rested on.
-/
import Derived.Test.YtcndknkdhlmdnaaGreatDoorS09
import Derived.Test.YtcndknkdhlmdnaaGreatDoorS04
import Derived.Test.YtcndknkdhlmdnaaGreatDoorS30
import Derived.Test.YtcndknkdhlmdnaaGreatDoorS02
import Derived.WalkKit
import Derived.Lib.SlTrimSet
import Derived.Lib.Strings
import Derived.Test.YtcndknkdhlmdnaaGreatDoorS01
import Derived.Test.YtcndknkdhlmdnaaGreatDoorRows
import Derived.Lib.LaidTab
import Derived.Lib.IndexMore
import Derived.Lib.IndexBytes
import Derived.Test.YtcndknkdhlmdnaaGreatDoorS29
import Derived.WalkSpells
import Derived.WalkLawsBesides
import Derived.IntWalk
import Derived.Lib.Hide
import Derived.Shelf.RegionOpenPlain
import Derived.Lib.CutLaws
import Derived.Shelf.Strings.SlTrimAscii
import Derived.Shelf.Abstract
import Derived.Test.YtcndknkdhlmdnaaGreatDoorS03
import Derived.Test.YtcndknkdhlmdnaaGreatDoorProg
import Derived.Deep.RegionWith
import Derived.Deep.RegionHeld3
import Derived.Deep.LoopGhost
import Derived.Sort.Walk7a
namespace Go.Proofs.YtcndknkdhlmdnaaGreatDoor
open Go.RowKit Go.Shelf
set_option maxRecDepth 100000

set_option maxHeartbeats 1000000 in
theorem rWords_any (w : World) : Calls Tryz.prog 112 #[] w fun e w' => e = .returned (.slice (some ⟨w.heap.size, 0, none⟩) 13 13) ∧ w' = w.alloc (.cells (wordTab.map strV).toArray 9) := by
  go_enter Tryz.func112, Tryz.ntmps112
  go_wp2
  go_ret
  exact ⟨rfl, rfl⟩
theorem str_ne {s : ByteArray} {l : List UInt8} (h : l ≠ s.data.toList) : ¬ (⟨l.toArray⟩ : ByteArray).toList = s.toList := by
  rw [Lib.toList_data, Lib.toList_data]
  exact h
theorem str_neb {s : ByteArray} {l : List UInt8} (h : l ≠ s.data.toList) : ((⟨l.toArray⟩ : ByteArray).toList == s.toList) = false := beq_eq_false_iff_ne.2 (str_ne h)
theorem str_eq {s : ByteArray} {l : List UInt8} (h : l = s.data.toList) : s = ⟨l.toArray⟩ := by
  subst h; cases s; simp
theorem mem_tab {L : List (List UInt8)} {l : List UInt8} {k : Nat} (hk : k < L.length) (h : L[k] = l) : L.contains l = true := by
  rw [List.contains_iff_mem, ← h]; exact List.getElem_mem _
theorem no_tab {L : List (List UInt8)} {l : List UInt8} (h : ∀ j (hj : j < L.length), L[j] ≠ l) : L.contains l = false := by
  rw [Bool.eq_false_iff]
  intro e
  obtain ⟨j, hj, e2⟩ := List.getElem_of_mem (List.contains_iff_mem.1 e)
  exact h j hj e2
set_option maxHeartbeats 2000000 in
theorem rIsWord_any (s : ByteArray) (w : World) : Calls Tryz.prog 72 #[.string s] w fun e w' => e = .returned (.bool (wordL s.data.toList)) ∧ Below w.heap.size w w' := by
  have hc : Hid (∀ (k : Nat) (hk : k < wordTab.length), (w.alloc (.cells (wordTab.map strV).toArray 9)).cell? ⟨w.heap.size, k, none⟩ = some (strV wordTab[k])) := row_cell w wordTab _
  have HB := Lib.hid (nbelow1 w (.cells (wordTab.map strV).toArray 9))
  go_enter Tryz.func72, Tryz.ntmps72
  go_wp2_with (go_at_call 112; refine (rWords_any _).mono ?_; rintro e w' ⟨rfl, rfl⟩)
  generalize (w.alloc (.cells (wordTab.map strV).toArray 9)) = W1 at hc HB ⊢
  go_loop [4] (fun i => ∃ k : Nat, k ≤ 13 ∧ i = .int .i64 k ∧ Hid (∀ j (hj : j < wordTab.length), j < k → wordTab[j] ≠ s.data.toList)) (fun i => 13 - (intOf i).toNat)
  case atStart => exact ⟨0, by omega, rfl, fun j hj h => by omega⟩
  case round =>
    obtain ⟨k, hk, rfl, HI⟩ := hrel
    by_cases hlt : k < 13
    · have c := hc.out k hlt
      by_cases he : wordTab[k]'hlt = s.data.toList
      · have F := Lib.hid (show wordL s.data.toList = true from mem_tab hlt he)
        have e1 := str_eq he
        unfold strV at c
        rw [← e1] at c
        clear e1 he
        go_wp2
        go_ret
        exact ⟨nretB F.out.symm, HB.out⟩
      · have e1 := str_neb he
        unfold strV at c
        have HE := Lib.hid he
        clear he
        generalize (⟨(wordTab[k]'hlt).toArray⟩ : ByteArray) = x at c e1
        go_wp2
        go_round
        case rel =>
          refine ⟨k + 1, by omega, by go_num, fun j hj h => ?_⟩
          by_cases ej : j = k
          · subst ej; exact HE.out
          · exact HI.out j hj (by omega)
        case measure => simp [intOf]; omega
    · have F := Lib.hid (show wordL s.data.toList = false from no_tab fun j hj => HI.out j hj (by have : j < 13 := hj; omega))
      go_wp2
      go_ret
      exact ⟨nretB F.out.symm, HB.out⟩
end Go.Proofs.YtcndknkdhlmdnaaGreatDoor
