/-
  Texts that the statements' proofs rest on, one behind another: Orz, Orw, Reg, Names, Nums, Words, ShowLaw, Forms, WordLaw, ApartLaw, ExprLaw, ShowMod, ModLaw, FormLaw, NodeA, NodeB.
-/
import Derived.Test.YtcndknkdhlmdnaaGreatDoorS01
import Derived.Test.YtcndknkdhlmdnaaGreatDoorProg
import Derived.WalkKit
import Derived.Deep.RegionWith
import Derived.Deep.RegionHeld3
import Derived.Lib.SlTrimSet
import Derived.Lib.Strings
import Derived.Lib.IndexMore
import Derived.Lib.IndexBytes
import Derived.WalkSpells
import Derived.WalkLawsBesides
import Derived.IntWalk
import Derived.Lib.Hide

/-
  A region that draws its order: a load may be taken first under a condition that is held till some operations, which all wait for the loads.
-/
namespace Go.Proofs.YtcndknkdhlmdnaaGreatDoor
section
variable {Pr : Program} {ops : Array Oper} {Q : Exit → Act → World → Prop} {md : Region.Mode} {S : World → Prop}
/-- whatever comes up; the condition holds behind each but the operations Z -/
def AnyZ (Pr : Program) (md : Region.Mode) (ops : Array Oper) (Q : Exit → Act → World → Prop) (S : World → Prop) (Z : List Nat) : Nat → Array Bool → Act → World → Prop
  | 0, listed, a, w => Region.ready md ops listed = [] ∧ Q .normal a w
  | n + 1, listed, a, w => (Region.ready md ops listed = [] → Q .normal a w) ∧
    ∀ i ∈ Region.ready md ops listed, wpOp Pr ops Q i (fun a' w' => (i ∉ Z → S w') ∧ AnyZ Pr md ops Q S Z n (listed.setIfInBounds i true) a' w') a w
theorem AnyZ.any {Z : List Nat} : ∀ (n : Nat) (listed : Array Bool) (a : Act) (w : World), AnyZ Pr md ops Q S Z n listed a w → wpAny Pr md ops Q n listed a w
  | 0, _, _, _, h => h
  | n + 1, _, _, _, h => ⟨h.1, fun i hi => wpOp_mono (fun a' w' h' => AnyZ.any n _ a' w' h'.2) (h.2 i hi)⟩
/-- T: what an operation's value hangs on; it is true of the world, and stays so behind all that may come before -/
theorem AnyZ.first {T : World → Prop} {i : Nat} {Z : List Nat} {oi : Oper} {v : Value} (hi : ops[i]? = some oi) (hsel : ∀ (j : Nat) (o : Oper) cs b, ops[j]? = some o → o.op ≠ .select cs b)
    (hT : (∀ w, T w) ∨ ((∀ w, S w → T w) ∧ ∀ z ∈ Z, Waits md ops z i = true)) (hiS : i ∈ Z ∨ ∀ w, T w → S w)
    (hQ : ∀ c a w, Q (.panic c) (a.put oi.dst v) w → Q (.panic c) a w) : ∀ (n : Nat) (listed : Array Bool) (a : Act) (w : World),
      (∀ j oj, ops[j]? = some oj → j ≠ i → listed.getD j true = false → (∀ e ∈ oj.after, Region.binds md e = true → e.on ≠ i) → oi.apart ops oj = true) →
      i ∈ Region.ready md ops listed → YieldsIf Pr ops T oi v a → T w →
      AnyZ Pr md ops Q S Z n (listed.setIfInBounds i true) (a.put oi.dst v) w → AnyZ Pr md ops Q S Z (n + 1) listed a w
  | 0, listed, a, w, _, hr, hy, hS, H => by
    refine ⟨fun h => (by rw [h] at hr; cases hr), fun j hj => ?_⟩
    by_cases hji : j = i
    · subst hji; exact hy.wpOp hi hS ⟨fun hz => hiS.elim (fun h => absurd h hz) fun h => h w hS, H⟩
    · have := ready_mono hj hji
      rw [H.1] at this
      cases this
  | n + 1, listed, a, w, hfree, hr, hy, hS, H => by
    have hun := (mem_ready.1 hr).1
    refine ⟨fun h => (by rw [h] at hr; cases hr), fun j hj => ?_⟩
    by_cases hji : j = i
    · subst hji; exact hy.wpOp hi hS ⟨fun hz => hiS.elim (fun h => absurd h hz) fun h => h w hS, H⟩
    · obtain ⟨hjun, oj, hoj, hall⟩ := mem_ready.1 hj
      have hno : ∀ e ∈ oj.after, Region.binds md e = true → e.on ≠ i := fun e he hb heq => by
        have h1 := hall e he hb
        rw [heq] at h1
        rcases Nat.lt_or_ge i listed.size with g | g
        · simp [g] at hun h1; rw [hun] at h1; cases h1
        · simp [Array.getElem?_eq_none g] at h1
      have h2 := wpOp_putIf hoj (hfree j oj hoj hji hjun hno) (fun cs b => hsel i oi cs b hi) (fun cs b => hsel j oj cs b hoj) hQ hy (H.2 j (ready_mono hj hji))
      refine wpOp_mono (fun a' w' h3 => ⟨h3.2.1, AnyZ.first hi hsel hT hiS hQ n (listed.setIfInBounds j true) a' w' (fun k ok hk hki hku hkn => ?_) (ready_mono hr (Ne.symm hji)) h3.1 ?_ ?_⟩) h2
      · refine hfree k ok hk hki ?_ hkn
        by_cases hjk : j = k
        · subst hjk; exact hjun
        · rw [getD_set_ne true hjk] at hku; exact hku
      · rcases hT with hT | ⟨hT, hz⟩
        · exact hT w'
        · exact hT w' (h3.2.1 fun hjz => Waits.not_ready (hz j hjz) hun hj)
      · rw [Array.setIfInBounds_comm _ _ hji]
        exact h3.2.2
/-- a load, under the condition -/
theorem AnyZ.take {i : Nat} {Z : List Nat} {oi : Oper} {v : Value} {n : Nat} {listed : Array Bool} {a : Act} {w : World} (hi : ops[i]? = some oi) (hs : Region.noSelect ops = true) (hf : Region.free md ops listed i = true) (hr : (Region.ready md ops listed).contains i = true) (hz : (Z.all fun z => Waits md ops z i) = true)
    (hQ : ∀ c a w, Q (.panic c) (a.put oi.dst v) w → Q (.panic c) a w) (hy : YieldsIf Pr ops S oi v a) (hS : S w) (h : AnyZ Pr md ops Q S Z n (listed.setIfInBounds i true) (a.put oi.dst v) w) : AnyZ Pr md ops Q S Z (n + 1) listed a w :=
  AnyZ.first (T := S) hi (Region.noSelect_spec hs) (.inr ⟨fun _ h => h, fun z hz' => List.all_eq_true.1 hz z hz'⟩) (.inr fun _ h => h) hQ n listed a w (Region.free_spec hi hf) (by simpa using hr) hy hS h
/-- what yields in whatever world, behind the loads -/
theorem AnyZ.pure {i : Nat} {Z : List Nat} {oi : Oper} {v : Value} {n : Nat} {listed : Array Bool} {a : Act} {w : World} (hi : ops[i]? = some oi) (hs : Region.noSelect ops = true) (hf : Region.free md ops listed i = true) (hr : (Region.ready md ops listed).contains i = true) (hz : Z.contains i = true)
    (hQ : ∀ c a w, Q (.panic c) (a.put oi.dst v) w → Q (.panic c) a w) (hy : YieldsIf Pr ops (fun _ => True) oi v a) (h : AnyZ Pr md ops Q S Z n (listed.setIfInBounds i true) (a.put oi.dst v) w) : AnyZ Pr md ops Q S Z (n + 1) listed a w :=
  AnyZ.first (T := fun _ => True) hi (Region.noSelect_spec hs) (.inl fun _ => trivial) (.inl (by simpa using hz)) hQ n listed a w (Region.free_spec hi hf) (by simpa using hr) hy trivial h
/-- the one that comes up next, under the condition -/
theorem AnyZ.next {i : Nat} {Z : List Nat} {o : Oper} {n : Nat} {listed : Array Bool} {a : Act} {w : World} (hr : Region.ready md ops listed = [i]) (ho : ops[i]? = some o)
    (h : ∀ K' : Act → World → Prop, Shut (∀ a w, S w → (S w → AnyZ Pr md ops Q S Z n (listed.setIfInBounds i true) a w) → K' a w) → if Region.wanted o (yielded ops a.tmps) = true then Oper.wp Pr o a w K' Q else K' (a.put o.dst undef) w) : AnyZ Pr md ops Q S Z (n + 1) listed a w :=
  ⟨fun h0 => (by rw [h0] at hr; cases hr), fun j hj => by
    rw [hr] at hj
    obtain rfl := List.mem_singleton.1 hj
    exact wpOp_step ho fun K' hK => h K' fun a w hS hW => hK a w ⟨fun _ => hS, hW hS⟩⟩
/-- either of two that may come up next, under the condition -/
theorem AnyZ.two {i j : Nat} {Z : List Nat} {oi oj : Oper} {n : Nat} {listed : Array Bool} {a : Act} {w : World} (hr : Region.ready md ops listed = [i, j]) (hoi : ops[i]? = some oi) (hoj : ops[j]? = some oj)
    (hi : ∀ K' : Act → World → Prop, Shut (∀ a w, S w → (S w → AnyZ Pr md ops Q S Z n (listed.setIfInBounds i true) a w) → K' a w) → if Region.wanted oi (yielded ops a.tmps) = true then Oper.wp Pr oi a w K' Q else K' (a.put oi.dst undef) w)
    (hj : ∀ K' : Act → World → Prop, Shut (∀ a w, S w → (S w → AnyZ Pr md ops Q S Z n (listed.setIfInBounds j true) a w) → K' a w) → if Region.wanted oj (yielded ops a.tmps) = true then Oper.wp Pr oj a w K' Q else K' (a.put oj.dst undef) w) : AnyZ Pr md ops Q S Z (n + 1) listed a w :=
  ⟨fun h0 => (by rw [h0] at hr; cases hr), fun k hk => by
    rw [hr] at hk
    rcases List.mem_cons.1 hk with rfl | hk
    · exact wpOp_step hoi fun K' hK => hi K' fun a w hS hW => hK a w ⟨fun _ => hS, hW hS⟩
    · obtain rfl := List.mem_singleton.1 hk
      exact wpOp_step hoj fun K' hK => hj K' fun a w hS hW => hK a w ⟨fun _ => hS, hW hS⟩⟩
/-- the one that comes up next, behind the condition -/
theorem AnyZ.nextZ {i : Nat} {Z : List Nat} {o : Oper} {n : Nat} {listed : Array Bool} {a : Act} {w : World} (hr : Region.ready md ops listed = [i]) (ho : ops[i]? = some o) (hz : Z.contains i = true)
    (h : ∀ K' : Act → World → Prop, Shut (∀ a w, AnyZ Pr md ops Q S Z n (listed.setIfInBounds i true) a w → K' a w) → if Region.wanted o (yielded ops a.tmps) = true then Oper.wp Pr o a w K' Q else K' (a.put o.dst undef) w) : AnyZ Pr md ops Q S Z (n + 1) listed a w :=
  ⟨fun h0 => (by rw [h0] at hr; cases hr), fun j hj => by
    rw [hr] at hj
    obtain rfl := List.mem_singleton.1 hj
    exact wpOp_step ho fun K' hK => h K' fun a w hW => hK a w ⟨fun e => absurd (by simpa using hz) e, hW⟩⟩
/-- either of two that may come up next, behind the condition -/
theorem AnyZ.twoZ {i j : Nat} {Z : List Nat} {oi oj : Oper} {n : Nat} {listed : Array Bool} {a : Act} {w : World} (hr : Region.ready md ops listed = [i, j]) (hoi : ops[i]? = some oi) (hoj : ops[j]? = some oj) (hiz : Z.contains i = true) (hjz : Z.contains j = true)
    (hi : ∀ K' : Act → World → Prop, Shut (∀ a w, AnyZ Pr md ops Q S Z n (listed.setIfInBounds i true) a w → K' a w) → if Region.wanted oi (yielded ops a.tmps) = true then Oper.wp Pr oi a w K' Q else K' (a.put oi.dst undef) w)
    (hj : ∀ K' : Act → World → Prop, Shut (∀ a w, AnyZ Pr md ops Q S Z n (listed.setIfInBounds j true) a w → K' a w) → if Region.wanted oj (yielded ops a.tmps) = true then Oper.wp Pr oj a w K' Q else K' (a.put oj.dst undef) w) : AnyZ Pr md ops Q S Z (n + 1) listed a w :=
  ⟨fun h0 => (by rw [h0] at hr; cases hr), fun k hk => by
    rw [hr] at hk
    rcases List.mem_cons.1 hk with rfl | hk
    · exact wpOp_step hoi fun K' hK => hi K' fun a w hW => hK a w ⟨fun e => absurd (by simpa using hiz) e, hW⟩
    · obtain rfl := List.mem_singleton.1 hk
      exact wpOp_step hoj fun K' hK => hj K' fun a w hW => hK a w ⟨fun e => absurd (by simpa using hjz) e, hW⟩⟩
theorem AnyZ.done {Z : List Nat} {listed : Array Bool} {a : Act} {w : World} (hr : Region.ready md ops listed = []) (h : Q .normal a w) : ∀ n, AnyZ Pr md ops Q S Z n listed a w
  | 0 => ⟨hr, h⟩
  | _ + 1 => ⟨fun _ => h, by rw [hr]; simp⟩
theorem wp_region_z {id : Nat} {Z : List Nat} {a : Act} {w : World} (hm : Pr.follows .mixedOrders = true) (hS : S w.drew) (h : S w.drew → AnyZ Pr .any ops Q S Z ops.size (Array.replicate ops.size false) a w.drew) : (Code.region id ops true).wp Pr Q a w :=
  wp_region_any hm (AnyZ.any _ _ _ _ (h hS))
end

end Go.Proofs.YtcndknkdhlmdnaaGreatDoor

/-
  A region that draws its order: a load may be taken first if each of the late operations waits for it or has been.
-/
namespace Go.Proofs.YtcndknkdhlmdnaaGreatDoor
section
variable {Pr : Program} {ops : Array Oper} {Q : Exit → Act → World → Prop} {md : Region.Mode} {S : World → Prop}
theorem AnyZ.firstL {i : Nat} {Z : List Nat} {oi : Oper} {v : Value} (hi : ops[i]? = some oi) (hsel : ∀ (j : Nat) (o : Oper) cs b, ops[j]? = some o → o.op ≠ .select cs b)
    (hQ : ∀ c a w, Q (.panic c) (a.put oi.dst v) w → Q (.panic c) a w) : ∀ (n : Nat) (listed : Array Bool) (a : Act) (w : World),
      (∀ z ∈ Z, Waits md ops z i = true ∨ listed.getD z true = true) →
      (∀ j oj, ops[j]? = some oj → j ≠ i → listed.getD j true = false → (∀ e ∈ oj.after, Region.binds md e = true → e.on ≠ i) → oi.apart ops oj = true) →
      i ∈ Region.ready md ops listed → YieldsIf Pr ops S oi v a → S w →
      AnyZ Pr md ops Q S Z n (listed.setIfInBounds i true) (a.put oi.dst v) w → AnyZ Pr md ops Q S Z (n + 1) listed a w
  | 0, listed, a, w, _, _, hr, hy, hS, H => by
    refine ⟨fun h => (by rw [h] at hr; cases hr), fun j hj => ?_⟩
    by_cases hji : j = i
    · subst hji; exact hy.wpOp hi hS ⟨fun _ => hS, H⟩
    · have := ready_mono hj hji
      rw [H.1] at this
      cases this
  | n + 1, listed, a, w, hz, hfree, hr, hy, hS, H => by
    have hun := (mem_ready.1 hr).1
    refine ⟨fun h => (by rw [h] at hr; cases hr), fun j hj => ?_⟩
    by_cases hji : j = i
    · subst hji; exact hy.wpOp hi hS ⟨fun _ => hS, H⟩
    · obtain ⟨hjun, oj, hoj, hall⟩ := mem_ready.1 hj
      have hno : ∀ e ∈ oj.after, Region.binds md e = true → e.on ≠ i := fun e he hb heq => by
        have h1 := hall e he hb
        rw [heq] at h1
        rcases Nat.lt_or_ge i listed.size with g | g
        · simp [g] at hun h1; rw [hun] at h1; cases h1
        · simp [Array.getElem?_eq_none g] at h1
      have h2 := wpOp_putIf hoj (hfree j oj hoj hji hjun hno) (fun cs b => hsel i oi cs b hi) (fun cs b => hsel j oj cs b hoj) hQ hy (H.2 j (ready_mono hj hji))
      refine wpOp_mono (fun a' w' h3 => ⟨h3.2.1, AnyZ.firstL hi hsel hQ n (listed.setIfInBounds j true) a' w' (fun z hz' => (hz z hz').imp id fun hl => ?_) (fun k ok hk hki hku hkn => ?_) (ready_mono hr (Ne.symm hji)) h3.1 ?_ ?_⟩) h2
      · by_cases hjz : j = z
        · subst hjz; rw [hl] at hjun; cases hjun
        · rw [getD_set_ne true hjz]; exact hl
      · refine hfree k ok hk hki ?_ hkn
        by_cases hjk : j = k
        · subst hjk; exact hjun
        · rw [getD_set_ne true hjk] at hku; exact hku
      · exact h3.2.1 fun hjz => (hz j hjz).elim (fun h => Waits.not_ready h hun hj) fun h => by rw [h] at hjun; cases hjun
      · rw [Array.setIfInBounds_comm _ _ hji]
        exact h3.2.2
/-- a load, under the condition -/
theorem AnyZ.takeL {i : Nat} {Z : List Nat} {oi : Oper} {v : Value} {n : Nat} {listed : Array Bool} {a : Act} {w : World} (hi : ops[i]? = some oi) (hs : Region.noSelect ops = true) (hf : Region.free md ops listed i = true) (hr : (Region.ready md ops listed).contains i = true) (hz : (Z.all fun z => Waits md ops z i || listed.getD z true) = true)
    (hQ : ∀ c a w, Q (.panic c) (a.put oi.dst v) w → Q (.panic c) a w) (hy : YieldsIf Pr ops S oi v a) (hS : S w) (h : AnyZ Pr md ops Q S Z n (listed.setIfInBounds i true) (a.put oi.dst v) w) : AnyZ Pr md ops Q S Z (n + 1) listed a w :=
  AnyZ.firstL hi (Region.noSelect_spec hs) hQ n listed a w (fun z hz' => by have := List.all_eq_true.1 hz z hz'; simpa using this) (Region.free_spec hi hf) (by simpa using hr) hy hS h
end
end Go.Proofs.YtcndknkdhlmdnaaGreatDoor

/-
  For regions that are walked operation by operation (region.py).
-/
namespace Go.Proofs.YtcndknkdhlmdnaaGreatDoor

theorem op_at {l : List Oper} {n : Nat} {o : Oper} {r : List Oper} (h : l.drop n = o :: r) : l.toArray[n]? = some o := by
  rw [List.getElem?_toArray]
  have : (l.drop n)[0]? = some o := by rw [h]; rfl
  rw [List.getElem?_drop] at this
  simpa using this
end Go.Proofs.YtcndknkdhlmdnaaGreatDoor

/-
  Plain laws of names' bytes (no program in sight).
-/
namespace Go.Proofs.YtcndknkdhlmdnaaGreatDoor

/-- the bytes that a name may have behind its first one; a currency's letters -/
def innerS : ByteArray := ⟨#[97, 98, 99, 100, 101, 102, 103, 104, 105, 106, 107, 108, 109, 110, 111, 112, 113, 114, 115, 116, 117, 118, 119, 120, 121, 122, 48, 49, 50, 51, 52, 53, 54, 55, 56, 57, 95]⟩
def greatS : ByteArray := ⟨#[65, 66, 67, 68, 69, 70, 71, 72, 73, 74, 75, 76, 77, 78, 79, 80, 81, 82, 83, 84, 85, 86, 87, 88, 89, 90]⟩
def isInner (c : UInt8) : Bool := innerS.data.toList.contains c
def isGreat (c : UInt8) : Bool := greatS.data.toList.contains c
/-- a name's bytes -/
def nameL (l : List UInt8) : Bool := decide (l.length ≤ 24) && (decide (97 ≤ ((l.headD 0).toNat : Int)) && decide (((l.headD 0).toNat : Int) ≤ 122)) && l.all isInner
/-- a currency's -/
def curL (l : List UInt8) : Bool := decide (l.length = 3) && l.all isGreat
theorem dropWhile_nil {α : Type} (p : α → Bool) : ∀ l : List α, l.dropWhile p = [] ↔ l.all p = true
  | [] => by simp
  | a :: l => by
    rw [List.dropWhile_cons]
    cases h : p a
    · simp [h]
    · simp [h, dropWhile_nil p l]
theorem trim_nil (l cs : List UInt8) : Lib.trimS l cs = [] ↔ l.all (cs.contains ·) = true := by
  unfold Lib.trimS Lib.trimLeftS Lib.trimRightS
  rw [dropWhile_nil]
  constructor
  · intro h
    by_cases e : l.reverse.dropWhile (cs.contains ·) = []
    · rw [dropWhile_nil, List.all_reverse] at e; exact e
    · exfalso
      have k := List.head_dropWhile_not (p := (cs.contains ·)) e
      rw [List.all_reverse, List.all_eq_true] at h
      have := h _ (List.head_mem e)
      rw [this] at k
      cases k
  · intro h
    have e : l.reverse.dropWhile (cs.contains ·) = [] := by rw [dropWhile_nil, List.all_reverse]; exact h
    rw [e]; rfl
theorem trim_empty (l cs : List UInt8) : (Lib.trimS l cs).isEmpty = l.all (cs.contains ·) := by
  rw [Bool.eq_iff_iff, List.isEmpty_iff, trim_nil]
theorem size_list (s : ByteArray) : s.data.toList.length = s.size := by cases s; rfl
theorem head_list {s : ByteArray} (h : 0 < s.size) : s.data.toList.headD 0 = s[0] := by
  have : s.data.toList ≠ [] := fun e => by have := size_list s; rw [e] at this; simp at this; omega
  cases hl : s.data.toList with
  | nil => exact absurd hl this
  | cons a l =>
    have : s[0] = s.data.toList[0]'(by rw [size_list]; exact h) := rfl
    rw [this]; simp [hl]
end Go.Proofs.YtcndknkdhlmdnaaGreatDoor

/-
  Plain laws of numbers' texts (no program in sight).
-/
namespace Go.Proofs.YtcndknkdhlmdnaaGreatDoor

end Go.Proofs.YtcndknkdhlmdnaaGreatDoor

/-
  Plain laws of keywords, signs and names with a module's name ahead (no program in sight).
-/
namespace Go.Proofs.YtcndknkdhlmdnaaGreatDoor

theorem contains_cons (b : UInt8) (l sub : List UInt8) : Lib.contains (b :: l) sub = (sub.isPrefixOf (b :: l) || Lib.contains l sub) := by
  unfold Lib.contains
  rw [Lib.index]
  have := Lib.index_ge l sub
  split
  · rename_i h; rw [h]; rfl
  · rename_i h
    rw [Bool.eq_false_iff.2 h, Bool.false_or]
    split
    · rename_i g; rw [eq_of_beq g]
    · rename_i g
      rw [Bool.eq_iff_iff]
      simp only [decide_eq_true_eq]
      have : Lib.index l sub ≠ -1 := fun e => g (by rw [e]; rfl)
      omega
/-- the keywords -/
def wordTab : List (List UInt8) := [[109, 111, 100, 117, 108, 101], [105, 109, 112, 111, 114, 116], [108, 101, 116], [105, 102], [116, 104, 101, 110], [101, 108, 115, 101], [97, 110, 100], [111, 114], [110, 111, 116], [116, 114, 117, 101], [102, 97, 108, 115, 101], [102, 101, 101, 100], [112, 105, 99, 107]]
/-- the signs and words of a Binary -/
def signTab : List (List UInt8) := [[111, 114], [97, 110, 100], [60], [60, 61], [61], [43], [45], [42], [47]]
def wordL (l : List UInt8) : Bool := wordTab.contains l
def signL (l : List UInt8) : Bool := signTab.contains l
/-- a name that is no keyword -/
def nearL (l : List UInt8) : Bool := nameL l && !wordL l
/-- perhaps a module's name and a point ahead -/
def anyL (l : List UInt8) : Bool := nearL (Lib.cut l [46]).1 && (!(Lib.cut l [46]).2.2 || nearL (Lib.cut l [46]).2.1)
/-- with a module's name and a point ahead -/
def farL (l : List UInt8) : Bool := (Lib.cut l [46]).2.2 && (nearL (Lib.cut l [46]).1 && nearL (Lib.cut l [46]).2.1)
theorem inner_no (c : UInt8) (h : isInner c = true) : c ≠ 32 ∧ c ≠ 46 := by
  constructor <;> (rintro rfl; exact absurd h (by decide))
theorem name_inner {l : List UInt8} (h : nameL l = true) : ∀ c ∈ l, isInner c = true := by
  unfold nameL at h
  rw [Bool.and_eq_true] at h
  exact List.all_eq_true.1 h.2
theorem contains_one (l : List UInt8) (c : UInt8) : Lib.contains l [c] = l.contains c := by
  induction l with
  | nil => rfl
  | cons b l ih => rw [contains_cons, ih, List.contains_cons, List.isPrefixOf, List.isPrefixOf, Bool.and_true]
theorem cut_no {l : List UInt8} (h : (Lib.cut l [46]).2.2 = false) : (Lib.cut l [46]).1 = l := by
  unfold Lib.cut at h ⊢
  split
  · rename_i g; rw [if_pos g] at h; cases h
  · rfl
theorem index_mem {l : List UInt8} {c : UInt8} (h : 0 ≤ Lib.index l [c]) : c ∈ l := by
  have := contains_one l c
  unfold Lib.contains at this
  rw [decide_eq_true h] at this
  exact List.contains_iff_mem.1 this.symm
/-- a name is near or far just if it is any -/
theorem any_eq (l : List UInt8) : (nearL l || farL l) = anyL l := by
  unfold farL anyL
  cases h : (Lib.cut l [46]).2.2
  · rw [cut_no h]; simp
  · have hn : nearL l = false := by
      rw [Bool.eq_false_iff]
      intro e
      unfold nearL at e
      rw [Bool.and_eq_true] at e
      have hm : (46 : UInt8) ∈ l := by
        unfold Lib.cut at h
        split at h
        · rename_i g; exact index_mem g
        · cases h
      exact (inner_no 46 (name_inner e.1 46 hm)).2 rfl
    rw [hn]; simp
end Go.Proofs.YtcndknkdhlmdnaaGreatDoor

/-
  Which trees are right, and how each is written: plain laws (no program in sight).
-/
namespace Go.Proofs.YtcndknkdhlmdnaaGreatDoor

instance (y m d : Int) : Decidable (Cal.ok y m d) := inferInstanceAs (Decidable (_ ∧ _))
/-- is a node's text what its kind asks? -/
def textOk (kind : Int) (l : List UInt8) : Bool :=
  if kind = 7 then curL l else if kind = 9 ∨ kind = 15 then nameL l else if kind = 10 ∨ kind = 11 then anyL l
  else if kind = 12 then l == [45] || l == [110, 111, 116] else if kind = 13 then signL l else l.isEmpty
/-- is a node's number what its kind asks? -/
def numOk (kind n : Int) : Bool :=
  if kind = 5 then decide (0 ≤ n) && decide (n ≤ 1000000000000000) else if kind = 6 then decide (0 ≤ n) && decide (n ≤ 73048)
  else if kind = 8 then decide (n = 0) || decide (n = 1) else decide (n = 0)
/-- has a node as many kids as its kind asks? -/
def kidsOk (kind : Int) (k : Nat) : Bool :=
  if 5 ≤ kind ∧ kind ≤ 10 then decide (k = 0) else if kind = 11 then decide (1 ≤ k) && decide (k ≤ 8)
  else if kind = 12 then decide (k = 1) else if kind = 13 then decide (k = 2) else if kind = 14 ∨ kind = 15 then decide (k = 3) else false
mutual
/-- an expression's tree, at a depth -/
def rightN : Nd → Int → Bool
  | .mk kind s n ks _, d => decide (d ≤ 100) && kidsOk kind ks.length && textOk kind s.data.toList && numOk kind n && rightKs ks (d + 1)
def rightKs : List Nd → Int → Bool
  | [], _ => true
  | k :: ks, d => rightN k d && rightKs ks d
end

end Go.Proofs.YtcndknkdhlmdnaaGreatDoor

/-
  Forms as data, and how long texts are: plain laws (no program in sight).
-/
namespace Go.Proofs.YtcndknkdhlmdnaaGreatDoor

end Go.Proofs.YtcndknkdhlmdnaaGreatDoor

/-
  Numbers', dates' and names' texts tell what they are of: plain laws (no program in sight).
-/
namespace Go.Proofs.YtcndknkdhlmdnaaGreatDoor

theorem u8_each {p : UInt8 → Bool} (h : ∀ n : Fin 256, p (UInt8.ofNat n.val) = true) (c : UInt8) : p c = true := by
  have := h ⟨c.toNat, c.toNat_lt⟩
  simpa using this
def dgC (c : UInt8) : Bool := decide (48 ≤ c.toNat) && decide (c.toNat ≤ 57)
theorem data_inj {s s' : ByteArray} (h : s.data.toList = s'.data.toList) : s = s' := by
  cases s; cases s'
  simp only [Array.toList_inj] at h
  rw [h]
theorem near_name {l : List UInt8} (h : nearL l = true) : nameL l = true := by
  unfold nearL at h
  rw [Bool.and_eq_true] at h
  exact h.1
theorem cut_app {l : List UInt8} (h : (Lib.cut l [46]).2.2 = true) : l = (Lib.cut l [46]).1 ++ 46 :: (Lib.cut l [46]).2.1 := by
  unfold Lib.cut at h ⊢
  split at h
  · rename_i g
    rw [if_pos g]
    rcases Lib.index_spec l [46] with ⟨h1, _⟩ | ⟨i, h1, h2, h3, _⟩
    · omega
    · rw [h1]
      show l = l.take i ++ 46 :: l.drop (i + 1)
      unfold Lib.occAt at h3
      cases hd : l.drop i with
      | nil => rw [hd] at h3; cases h3
      | cons c r =>
        rw [hd, List.isPrefixOf, Bool.and_eq_true] at h3
        have : c = 46 := (eq_of_beq h3.1).symm
        subst this
        have e := List.take_append_drop i l
        rw [hd] at e
        have : l.drop (i + 1) = r := by rw [← List.drop_drop, hd]; rfl
        rw [this]
        exact e.symm
  · cases h
end Go.Proofs.YtcndknkdhlmdnaaGreatDoor

/-
  Two right expressions are the same just if their forms are: plain laws (no program in sight).
-/
namespace Go.Proofs.YtcndknkdhlmdnaaGreatDoor

theorem dg_45 {c : UInt8} (h : dgC c = true) : c ≠ 45 := by rintro rfl; exact absurd h (by decide)
end Go.Proofs.YtcndknkdhlmdnaaGreatDoor

/-
  Which expressions are right, as the program asks it: plain laws (no program in sight).
-/
namespace Go.Proofs.YtcndknkdhlmdnaaGreatDoor

end Go.Proofs.YtcndknkdhlmdnaaGreatDoor

/-
  Which modules are right, and how each is written: plain laws (no program in sight).
-/
namespace Go.Proofs.YtcndknkdhlmdnaaGreatDoor

/-- a node of a kind, with a name, and nothing else -/
def bareN (kind : Int) (t : Nd) : Bool := t.kind == kind && nearL t.text.data.toList && t.n == 0 && t.kids.isEmpty
/-- the last kid -/
def lastK (t : Nd) : Nd := t.kids.getLastD (.mk 0 ByteArray.empty 0 [] 0)
/-- a definition -/
def letN (t : Nd) : Bool := t.kind == 3 && nearL t.text.data.toList && t.n == 0 && decide (1 ≤ t.kids.length) && decide (t.kids.length ≤ 9) && (t.kids.dropLast.all (bareN 4) && rightN (lastK t) 1)
/-- how many imports stand ahead -/
def impsN (ks : List Nd) : Nat := (ks.takeWhile (bareN 2)).length
/-- is it a module's tree? -/
def modN (t : Nd) : Bool := t.kind == 1 && nearL t.text.data.toList && t.n == 0 && smallN t && (decide (impsN t.kids ≤ 100) && decide (t.kids.length - impsN t.kids ≤ 200) && (t.kids.drop (impsN t.kids)).all letN)
end Go.Proofs.YtcndknkdhlmdnaaGreatDoor

/-
  Which modules are right, kid by kid (no program in sight).
-/
namespace Go.Proofs.YtcndknkdhlmdnaaGreatDoor

theorem letN_eq (t : Nd) : letN t = (t.kind == 3 && nearL t.text.data.toList && t.n == 0 && decide (1 ≤ t.kids.length) && decide (t.kids.length ≤ 9) && (t.kids.dropLast.all (bareN 4) && rightN (lastK t) 1)) := rfl
theorem bareN_eq (kind : Int) (t : Nd) : bareN kind t = (t.kind == kind && nearL t.text.data.toList && t.n == 0 && decide ((t.kids.length : Int) = 0)) := by
  unfold bareN
  cases t.kids with
  | nil => rfl
  | cons a l =>
    have : decide ((((a :: l).length : Nat) : Int) = 0) = false := decide_eq_false (by simp; omega)
    rw [this]; rfl
end Go.Proofs.YtcndknkdhlmdnaaGreatDoor

/-
  Forms in parentheses, one by one (no program in sight).
-/
namespace Go.Proofs.YtcndknkdhlmdnaaGreatDoor

end Go.Proofs.YtcndknkdhlmdnaaGreatDoor

/-
  usanceref07: how many nodes a tree has, and whether two are the same.
-/
namespace Go.Proofs.YtcndknkdhlmdnaaGreatDoor
open Go.RowKit
set_option maxRecDepth 100000

theorem nbelow1 (w : World) (o : Obj) : Below w.heap.size w (w.alloc o) := (Below.refl _ _).alloc (Nat.le_refl _) _
theorem nretB {a b : Bool} (h : a = b) : Ending.returned (.bool a) = .returned (.bool b) := by rw [h]
theorem nbox (w : World) (x0 x1 x2 x3 x4 : Value) : (w.alloc (.cells #[x0, x1, x2, x3, x4] 24)).cell? ⟨w.heap.size, 0, none⟩ = some x0 ∧ (w.alloc (.cells #[x0, x1, x2, x3, x4] 24)).cell? ⟨w.heap.size, 1, none⟩ = some x1 ∧
    (w.alloc (.cells #[x0, x1, x2, x3, x4] 24)).cell? ⟨w.heap.size, 2, none⟩ = some x2 ∧ (w.alloc (.cells #[x0, x1, x2, x3, x4] 24)).cell? ⟨w.heap.size, 3, none⟩ = some x3 ∧ (w.alloc (.cells #[x0, x1, x2, x3, x4] 24)).cell? ⟨w.heap.size, 4, none⟩ = some x4 := by
  refine ⟨?_, ?_, ?_, ?_, ?_⟩ <;> simp
end Go.Proofs.YtcndknkdhlmdnaaGreatDoor

/-
  usanceref07.Same: are two trees the same, but for places?
-/
namespace Go.Proofs.YtcndknkdhlmdnaaGreatDoor
open Go.RowKit
set_option maxRecDepth 100000

theorem nbytes {s s' : ByteArray} (h : s.toList = s'.toList) : s = s' := by
  rw [Lib.toList_data, Lib.toList_data] at h
  cases s
  cases s'
  simp only [ByteArray.mk.injEq]
  exact Array.toList_inj.1 h
set_option maxHeartbeats 4000000 in
theorem rSame_any' (N : Nat) : ∀ (t : Nd), SizeOf.sizeOf t < N → ∀ (u : Nd) (a : Option Addr) (cap : Nat) (a' : Option Addr) (cap' n₀ : Nat) (w : World), t.hold n₀ w a cap → u.hold n₀ w a' cap' → n₀ ≤ w.heap.size →
    Calls Tryz.prog 30 #[.agg #[.int .i64 t.kind, .string t.text, .int .i64 t.n, .slice a t.kids.length cap, .int .i64 t.place], .agg #[.int .i64 u.kind, .string u.text, .int .i64 u.n, .slice a' u.kids.length cap', .int .i64 u.place]] w fun e w' => e = .returned (.bool (sameN t u)) ∧ Below w.heap.size w w' := by
  induction N with
  | zero => intro t ht; omega
  | succ N ih =>
  intro t ht
  cases t with
  | mk kind s n ks p =>
  intro u
  cases u with
  | mk kind' s' n' ks' p' =>
  intro a cap a' cap' n₀ w hh hu hn
  show Calls Tryz.prog 30 #[.agg #[.int .i64 kind, .string s, .int .i64 n, .slice a ks.length cap, .int .i64 p], .agg #[.int .i64 kind', .string s', .int .i64 n', .slice a' ks'.length cap', .int .i64 p']] w _
  have hkl : ks.length ≤ cap ∧ cap ≤ maxLen := ⟨hh.2.2.2.2.1, hh.2.2.2.2.2.1⟩
  have hkl' : ks'.length ≤ cap' ∧ cap' ≤ maxLen := ⟨hu.2.2.2.2.1, hu.2.2.2.2.2.1⟩
  have hm := hkl
  have hm' := hkl'
  unfold maxLen at hm hm'
  have HH := Lib.hid hh
  have HU := Lib.hid hu
  have IH := Lib.hid ih
  have HT := Lib.hid ht
  clear hh hu ih ht
  have E := Lib.hid (show sameN (.mk kind s n ks p) (.mk kind' s' n' ks' p') = (kind == kind' && s.toList == s'.toList && n == n' && sameKs ks ks') from sameN_eq _ _)
  by_cases q1 : kind = kind'
  case neg =>
    have HB : Hid (Below w.heap.size w ((w.alloc (.cells #[.int .i64 kind, .string s, .int .i64 n, .slice a ks.length cap, .int .i64 p] 24)).alloc (.cells #[.int .i64 kind', .string s', .int .i64 n', .slice a' ks'.length cap', .int .i64 p'] 24))) := (nbelow1 _ _).alloc (by simp) _
    have e1 : (kind != kind') = true := by simpa using q1
    have F := Lib.hid (show sameN (.mk kind s n ks p) (.mk kind' s' n' ks' p') = false by rw [E.out, beq_eq_false_iff_ne.2 q1]; rfl)
    clear q1
    go_enter Tryz.func30, Tryz.ntmps30
    go_wp2
    go_ret
    exact ⟨nretB F.out.symm, HB.out⟩
  subst q1
  by_cases q2 : s = s'
  case neg =>
    have HB : Hid (Below w.heap.size w ((w.alloc (.cells #[.int .i64 kind, .string s, .int .i64 n, .slice a ks.length cap, .int .i64 p] 24)).alloc (.cells #[.int .i64 kind, .string s', .int .i64 n', .slice a' ks'.length cap', .int .i64 p'] 24))) := (nbelow1 _ _).alloc (by simp) _
    have e2 : ¬ s.toList = s'.toList := fun e => q2 (nbytes e)
    have F := Lib.hid (show sameN (.mk kind s n ks p) (.mk kind s' n' ks' p') = false by rw [E.out, beq_eq_false_iff_ne.2 e2]; simp)
    clear q2
    go_enter Tryz.func30, Tryz.ntmps30
    go_wp2
    go_ret
    exact ⟨nretB F.out.symm, HB.out⟩
  subst q2
  by_cases q3 : n = n'
  case neg =>
    have HB : Hid (Below w.heap.size w ((w.alloc (.cells #[.int .i64 kind, .string s, .int .i64 n, .slice a ks.length cap, .int .i64 p] 24)).alloc (.cells #[.int .i64 kind, .string s, .int .i64 n', .slice a' ks'.length cap', .int .i64 p'] 24))) := (nbelow1 _ _).alloc (by simp) _
    have e3 : (n != n') = true := by simpa using q3
    have F := Lib.hid (show sameN (.mk kind s n ks p) (.mk kind s n' ks' p') = false by rw [E.out, beq_eq_false_iff_ne.2 q3]; simp)
    clear q3
    go_enter Tryz.func30, Tryz.ntmps30
    go_wp2
    go_ret
    exact ⟨nretB F.out.symm, HB.out⟩
  subst q3
  have HB : Hid (Below w.heap.size w ((w.alloc (.cells #[.int .i64 kind, .string s, .int .i64 n, .slice a ks.length cap, .int .i64 p] 24)).alloc (.cells #[.int .i64 kind, .string s, .int .i64 n, .slice a' ks'.length cap', .int .i64 p'] 24))) := (nbelow1 _ _).alloc (by simp) _
  by_cases q4 : ks.length = ks'.length
  case neg =>
    have e4 : ((ks.length : Int) != (ks'.length : Int)) = true := by rw [bne_iff_ne]; omega
    have F := Lib.hid (show sameN (.mk kind s n ks p) (.mk kind s n ks' p') = false by
      rw [E.out, show sameKs ks ks' = false from Bool.eq_false_iff.2 fun e => q4 (sameKs_length _ _ e)]; simp)
    clear q4
    go_enter Tryz.func30, Tryz.ntmps30
    go_wp2
    go_ret
    exact ⟨nretB F.out.symm, HB.out⟩
  have e4 : ((ks.length : Int) != (ks'.length : Int)) = false := by rw [bne_eq_false_iff_eq, q4]
  have Q4 := Lib.hid q4
  have F := Lib.hid (show sameN (.mk kind s n ks p) (.mk kind s n ks' p') = sameKs ks ks' by rw [E.out]; simp)
  clear q4
  go_enter Tryz.func30, Tryz.ntmps30
  go_wp2
  obtain ⟨W1, hW1⟩ : ∃ W1, W1 = (w.alloc (.cells #[.int .i64 kind, .string s, .int .i64 n, .slice a ks.length cap, .int .i64 p] 24)).alloc (.cells #[.int .i64 kind, .string s, .int .i64 n, .slice a' ks'.length cap', .int .i64 p'] 24) := ⟨_, rfl⟩
  rw [← hW1] at HB ⊢
  have hsz : W1.heap.size = w.heap.size + 2 := by rw [hW1]; simp
  have D := Lib.hid (show W1.cell? ⟨w.heap.size, 3, none⟩ = some (.slice a ks.length cap) ∧ W1.cell? ⟨w.heap.size + 1, 3, none⟩ = some (.slice a' ks'.length cap') from by
    have c := nbox w (.int .i64 kind) (.string s) (.int .i64 n) (.slice a ks.length cap) (.int .i64 p)
    have c' := nbox (w.alloc (.cells #[.int .i64 kind, .string s, .int .i64 n, .slice a ks.length cap, .int .i64 p] 24)) (.int .i64 kind) (.string s) (.int .i64 n) (.slice a' ks'.length cap') (.int .i64 p')
    simp only [World.size_alloc] at c'
    rw [hW1]
    exact ⟨((nbelow1 _ _).cell (p := ⟨w.heap.size, 3, none⟩) (by simp)).trans c.2.2.2.1, c'.2.2.2.1⟩)
  clear hW1
  go_loopw [5] (fun i wr => ∃ (k : Nat), k ≤ ks.length ∧ i = .int .i64 k ∧ Hid (sameKs (ks.drop k) (ks'.drop k) = sameKs ks ks') ∧ Hid (Below W1.heap.size W1 wr)) (fun i _ => (ks.length - (intOf i).toNat))
  case atStart => exact ⟨0, Nat.zero_le _, rfl, rfl, Below.refl _ _⟩
  case round =>
    obtain ⟨k, hk, rfl, HI, HBr⟩ := hrel
    have d3 := (HBr.out.cell (p := ⟨w.heap.size, 3, none⟩) (by show w.heap.size < W1.heap.size; omega)).trans D.out.1
    have HW := Lib.hid (HB.out.trans (HBr.out.mono HB.out.size))
    by_cases hlt : k < ks.length
    · have hlt' : k < ks'.length := Q4.out ▸ hlt
      obtain ⟨b, off, x, cx, A⟩ := (HH.out.below (HB.out.mono hn)).kid k hlt
      obtain ⟨b', off', x', cx', A'⟩ := (HU.out.below (HB.out.mono hn)).kid k hlt'
      obtain ⟨rfl, hb0, c0, c1, c2, c3, c4, hk1⟩ := A
      obtain ⟨rfl, hb0', c0', c1', c2', c3', c4', hk1'⟩ := A'
      have HK := Lib.hid hk1
      have HK' := Lib.hid hk1'
      clear hk1 hk1'
      have S := Lib.hid (sameKs_step ks ks' k hlt hlt')
      have hbw : b < W1.heap.size := Nat.lt_of_lt_of_le hb0 (Nat.le_trans hn HB.out.size)
      have hbw' : b' < W1.heap.size := Nat.lt_of_lt_of_le hb0' (Nat.le_trans hn HB.out.size)
      have HS := Lib.hid (show ∀ cur, Below W1.heap.size W1 cur → Below W1.heap.size W1 cur ∧ cur.cell? ⟨w.heap.size, 3, none⟩ = some (.slice (some ⟨b, off, none⟩) ks.length cap) ∧ cur.cell? ⟨w.heap.size + 1, 3, none⟩ = some (.slice (some ⟨b', off', none⟩) ks'.length cap') ∧
        cur.cell? ⟨b, off + k * 5, none⟩ = some (.int .i64 ks[k].kind) ∧ cur.cell? ⟨b, off + k * 5 + 1, none⟩ = some (.string ks[k].text) ∧ cur.cell? ⟨b, off + k * 5 + 2, none⟩ = some (.int .i64 ks[k].n) ∧ cur.cell? ⟨b, off + k * 5 + 3, none⟩ = some (.slice x ks[k].kids.length cx) ∧ cur.cell? ⟨b, off + k * 5 + 4, none⟩ = some (.int .i64 ks[k].place) ∧
        cur.cell? ⟨b', off' + k * 5, none⟩ = some (.int .i64 ks'[k].kind) ∧ cur.cell? ⟨b', off' + k * 5 + 1, none⟩ = some (.string ks'[k].text) ∧ cur.cell? ⟨b', off' + k * 5 + 2, none⟩ = some (.int .i64 ks'[k].n) ∧ cur.cell? ⟨b', off' + k * 5 + 3, none⟩ = some (.slice x' ks'[k].kids.length cx') ∧ cur.cell? ⟨b', off' + k * 5 + 4, none⟩ = some (.int .i64 ks'[k].place) from fun cur hc =>
        ⟨hc, (hc.cell (p := ⟨w.heap.size, 3, none⟩) (by show w.heap.size < W1.heap.size; omega)).trans D.out.1, (hc.cell (p := ⟨w.heap.size + 1, 3, none⟩) (by show w.heap.size + 1 < W1.heap.size; omega)).trans D.out.2,
          (hc.cell (p := ⟨b, off + k * 5, none⟩) hbw).trans c0, (hc.cell (p := ⟨b, off + k * 5 + 1, none⟩) hbw).trans c1, (hc.cell (p := ⟨b, off + k * 5 + 2, none⟩) hbw).trans c2, (hc.cell (p := ⟨b, off + k * 5 + 3, none⟩) hbw).trans c3, (hc.cell (p := ⟨b, off + k * 5 + 4, none⟩) hbw).trans c4,
          (hc.cell (p := ⟨b', off' + k * 5, none⟩) hbw').trans c0', (hc.cell (p := ⟨b', off' + k * 5 + 1, none⟩) hbw').trans c1', (hc.cell (p := ⟨b', off' + k * 5 + 2, none⟩) hbw').trans c2', (hc.cell (p := ⟨b', off' + k * 5 + 3, none⟩) hbw').trans c3', (hc.cell (p := ⟨b', off' + k * 5 + 4, none⟩) hbw').trans c4'⟩)
      have C1 := Lib.hid (show ∀ cur, Below W1.heap.size W1 cur → Calls Tryz.prog 30 #[.agg #[.int .i64 ks[k].kind, .string ks[k].text, .int .i64 ks[k].n, .slice x ks[k].kids.length cx, .int .i64 ks[k].place], .agg #[.int .i64 ks'[k].kind, .string ks'[k].text, .int .i64 ks'[k].n, .slice x' ks'[k].kids.length cx', .int .i64 ks'[k].place]] cur fun e W' => e = .returned (.bool (sameN ks[k] ks'[k])) ∧ Below W1.heap.size W1 W' from fun cur hc =>
        (IH.out _ (nkid_size hlt HT.out) _ _ _ _ _ n₀ cur (HK.out.below (hc.mono (Nat.le_trans hn HB.out.size))) (HK'.out.below (hc.mono (Nat.le_trans hn HB.out.size))) (Nat.le_trans hn (Nat.le_trans HB.out.size hc.size))).mono (by rintro e W' ⟨rfl, hb⟩; exact ⟨rfl, hc.trans (hb.mono hc.size)⟩))
      have hb := HBr.out
      clear c0 c1 c2 c3 c4 c0' c1' c2' c3' c4' hb0 hb0'
      go_wp2
      clear d3
      go_region_held3 (fun cur => Below W1.heap.size W1 cur ∧ cur.cell? ⟨w.heap.size, 3, none⟩ = some (.slice (some ⟨b, off, none⟩) ks.length cap) ∧ cur.cell? ⟨w.heap.size + 1, 3, none⟩ = some (.slice (some ⟨b', off', none⟩) ks'.length cap') ∧
        cur.cell? ⟨b, off + k * 5, none⟩ = some (.int .i64 ks[k].kind) ∧ cur.cell? ⟨b, off + k * 5 + 1, none⟩ = some (.string ks[k].text) ∧ cur.cell? ⟨b, off + k * 5 + 2, none⟩ = some (.int .i64 ks[k].n) ∧ cur.cell? ⟨b, off + k * 5 + 3, none⟩ = some (.slice x ks[k].kids.length cx) ∧ cur.cell? ⟨b, off + k * 5 + 4, none⟩ = some (.int .i64 ks[k].place) ∧
        cur.cell? ⟨b', off' + k * 5, none⟩ = some (.int .i64 ks'[k].kind) ∧ cur.cell? ⟨b', off' + k * 5 + 1, none⟩ = some (.string ks'[k].text) ∧ cur.cell? ⟨b', off' + k * 5 + 2, none⟩ = some (.int .i64 ks'[k].n) ∧ cur.cell? ⟨b', off' + k * 5 + 3, none⟩ = some (.slice x' ks'[k].kids.length cx') ∧ cur.cell? ⟨b', off' + k * 5 + 4, none⟩ = some (.int .i64 ks'[k].place))
        (first | exact HS.out _ hb | exact HS.out _ hb.drew | exact HS.out _ HBr.out | exact HS.out _ HBr.out.drew)
        (first | (go_at_call 30; refine (C1.out _ ?_).mono ?_; (go_split_ands; assumption); rintro e w' ⟨rfl, hb⟩))
      have HR := Lib.hid hb
      clear hb
      cases hsm : sameN ks[k] ks'[k]
      · go_wp2
        go_ret
        exact ⟨nretB (by rw [F.out, ← HI.out, S.out, hsm]; rfl), HB.out.trans (HR.out.mono HB.out.size)⟩
      · go_wp2
        go_roundw
        case rel => exact ⟨k + 1, by omega, by go_num, by show _ = _; rw [← HI.out, S.out, hsm]; rfl, HR.out⟩
        case measure => simp [intOf]; omega
    · have S := Lib.hid (sameKs_end ks ks' k hlt (by rw [← Q4.out]; exact hlt))
      go_wp2
      go_ret
      exact ⟨nretB (by rw [F.out, ← HI.out, S.out]), HW.out⟩
theorem rSame_any (t u : Nd) (a : Option Addr) (cap : Nat) (a' : Option Addr) (cap' n₀ : Nat) (w : World) (h : t.hold n₀ w a cap) (h' : u.hold n₀ w a' cap') (hn : n₀ ≤ w.heap.size) :
    Calls Tryz.prog 30 #[.agg #[.int .i64 t.kind, .string t.text, .int .i64 t.n, .slice a t.kids.length cap, .int .i64 t.place], .agg #[.int .i64 u.kind, .string u.text, .int .i64 u.n, .slice a' u.kids.length cap', .int .i64 u.place]] w fun e w' => e = .returned (.bool (sameN t u)) ∧ Below w.heap.size w w' :=
  rSame_any' _ t (Nat.lt_succ_self _) u a cap a' cap' n₀ w h h' hn
end Go.Proofs.YtcndknkdhlmdnaaGreatDoor
