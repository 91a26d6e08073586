/-
  Texts that the statements' proofs rest on, one behind another: ShowJ, ShowF, ShowK.
-/
import Derived.Test.YtcndknkdhlmdnaaGreatDoorM09
import Derived.Test.YtcndknkdhlmdnaaGreatDoorM03
import Derived.Test.YtcndknkdhlmdnaaGreatDoorM15
import Derived.Test.YtcndknkdhlmdnaaGreatDoorM07

/-
  show's forms: how each is written.
-/
namespace Go.Proofs.YtcndknkdhlmdnaaGreatDoor
open Go.RowKit Go.Shelf
set_option maxRecDepth 100000

def Fm.ty : Fm → TypeId
  | .leaf _ => 80
  | .called _ _ => 79
  | .unary _ _ => 117
  | .binary _ _ _ => 119
  | .choice _ _ _ => 115
def Fm.fn : Fm → Nat
  | .leaf _ => 266
  | .called _ _ => 67
  | .unary _ _ => 268
  | .binary _ _ _ => 270
  | .choice _ _ _ => 267
mutual
/-- memory holds a form; its kids lie in blocks of av -/
def Fm.is (av : Nat → Prop) (W : World) : Fm → Value → Prop
  | .leaf s, x => x = .string s ∧ s.size ≤ maxLen
  | .called h ks, x => ∃ a cap, x = .agg #[.string h, .slice a ks.length cap] ∧ h.size ≤ maxLen ∧ ks.length ≤ cap ∧ cap ≤ maxLen ∧ Fm.are av W ks a 0
  | .unary s k, x => ∃ y z, x = .agg #[.iface s.ty y, .iface k.ty z] ∧ Fm.is av W s y ∧ Fm.is av W k z
  | .binary a s b, x => ∃ y u z, x = .agg #[.iface a.ty y, .iface s.ty u, .iface b.ty z] ∧ Fm.is av W a y ∧ Fm.is av W s u ∧ Fm.is av W b z
  | .choice a b c, x => ∃ y u z, x = .agg #[.iface a.ty y, .iface b.ty u, .iface c.ty z] ∧ Fm.is av W a y ∧ Fm.is av W b u ∧ Fm.is av W c z
def Fm.are (av : Nat → Prop) (W : World) : List Fm → Option Addr → Nat → Prop
  | [], _, _ => True
  | k :: ks, a, i => (∃ g y cur fz, a = some ⟨g, 0, none⟩ ∧ av g ∧ W.heap[g]? = some (.cells cur 60 fz) ∧ cur[i]? = some (.iface k.ty y) ∧ Fm.is av W k y) ∧ Fm.are av W ks a (i + 1)
end
mutual
theorem Fm.is.kept {av av' : Nat → Prop} {W W' : World} (h : ∀ g cur fz, av g → W.heap[g]? = some (.cells cur 60 fz) → av' g ∧ W'.heap[g]? = some (.cells cur 60 fz)) : ∀ (f : Fm) {x : Value}, f.is av W x → f.is av' W' x
  | .leaf _, _, hx => hx
  | .called _ ks, _, ⟨a, cap, e, h1, h2, h3, h4⟩ => ⟨a, cap, e, h1, h2, h3, Fm.are.kept h ks h4⟩
  | .unary s k, _, ⟨y, z, e, h1, h2⟩ => ⟨y, z, e, Fm.is.kept h s h1, Fm.is.kept h k h2⟩
  | .binary a s b, _, ⟨y, u, z, e, h1, h2, h3⟩ => ⟨y, u, z, e, Fm.is.kept h a h1, Fm.is.kept h s h2, Fm.is.kept h b h3⟩
  | .choice a s b, _, ⟨y, u, z, e, h1, h2, h3⟩ => ⟨y, u, z, e, Fm.is.kept h a h1, Fm.is.kept h s h2, Fm.is.kept h b h3⟩
theorem Fm.are.kept {av av' : Nat → Prop} {W W' : World} (h : ∀ g cur fz, av g → W.heap[g]? = some (.cells cur 60 fz) → av' g ∧ W'.heap[g]? = some (.cells cur 60 fz)) : ∀ (fs : List Fm) {a : Option Addr} {i : Nat}, Fm.are av W fs a i → Fm.are av' W' fs a i
  | [], _, _, _ => trivial
  | k :: ks, _, _, ⟨⟨g, y, cur, fz, e, hg, hh, hc, hi⟩, hr⟩ => ⟨⟨g, y, cur, fz, e, (h g cur fz hg hh).1, (h g cur fz hg hh).2, hc, Fm.is.kept h k hi⟩, Fm.are.kept h ks hr⟩
end
theorem Fm.are.get {av : Nat → Prop} {W : World} {a : Option Addr} : ∀ (fs : List Fm) (i : Nat), Fm.are av W fs a i → ∀ j (hj : j < fs.length), ∃ g y cur fz, a = some ⟨g, 0, none⟩ ∧ av g ∧ W.heap[g]? = some (.cells cur 60 fz) ∧ cur[i + j]? = some (.iface fs[j].ty y) ∧ Fm.is av W fs[j] y
  | k :: ks, i, ⟨h, hr⟩, j, hj => by
    cases j with
    | zero => exact h
    | succ j =>
      have := Fm.are.get ks (i + 1) hr j (by simpa using hj)
      rw [show i + (j + 1) = i + 1 + j by omega]
      exact this

theorem mt_leaf (y : Value) (w : World) : (method 346 80 y "usance/show.write").run Tryz.prog w = .ok (266, y) w := by kernel_rfl
theorem mt_called (y : Value) (w : World) : (method 346 79 y "usance/show.write").run Tryz.prog w = .ok (67, y) w := by kernel_rfl
theorem mt_unary (y : Value) (w : World) : (method 346 117 y "usance/show.write").run Tryz.prog w = .ok (268, y) w := by kernel_rfl
theorem mt_binary (y : Value) (w : World) : (method 346 119 y "usance/show.write").run Tryz.prog w = .ok (270, y) w := by kernel_rfl
theorem mt_choice (y : Value) (w : World) : (method 346 115 y "usance/show.write").run Tryz.prog w = .ok (267, y) w := by kernel_rfl
/-- a form's method, by what it is -/
theorem mt (f : Fm) (y : Value) (w : World) : (method 346 f.ty y "usance/show.write").run Tryz.prog w = .ok (f.fn, y) w := by
  cases f
  · exact mt_leaf y w
  · exact mt_called y w
  · exact mt_unary y w
  · exact mt_binary y w
  · exact mt_choice y w
theorem en (f : Fm) : ∀ args w, (callFunc f.fn args).run Tryz.prog w = .ok (.enter f.fn args) w := by
  cases f
  · exact enters_of Tryz.func266 (by kernel_rfl) rfl
  · exact enters_of Tryz.func67 (by kernel_rfl) rfl
  · exact enters_of Tryz.func268 (by kernel_rfl) rfl
  · exact enters_of Tryz.func270 (by kernel_rfl) rfl
  · exact enters_of Tryz.func267 (by kernel_rfl) rfl

/-- the builder holds a text, and what does not lie in it stands as it stood -/
structure Aft (B b : Nat) (l : List UInt8) (w w' : World) : Prop where
  bld : Bld B b l w'
  below : Below B w w'
  keeps : Keeps b w w'
theorem Aft.start {B b : Nat} {l : List UInt8} {w : World} (h : Bld B b l w) : Aft B b l w w := ⟨h, Below.refl _ _, Lib.OthersKept.refl _ _ _⟩
theorem Aft.alloc {B b : Nat} {l : List UInt8} {w w' : World} (h : Aft B b l w w') (hB : B ≤ w.heap.size) (o : Obj) : Aft B b l w (w'.alloc o) :=
  ⟨Lib.IsBuilderF.alloc h.bld o, h.below.alloc (Nat.le_trans hB h.below.size) o, h.keeps.alloc o⟩
theorem Aft.trans {B b : Nat} {l l' : List UInt8} {w w1 w2 : World} (h : Aft B b l w w1) (k : Aft B b l' w1 w2) : Aft B b l' w w2 :=
  ⟨k.bld, h.below.trans k.below, h.keeps.trans k.keeps⟩
theorem Aft.size {B b : Nat} {l : List UInt8} {w w' : World} (h : Aft B b l w w') (hB : B ≤ w.heap.size) : B ≤ w'.heap.size := Nat.le_trans hB h.below.size
theorem Aft.block {B b : Nat} {l : List UInt8} {w w' : World} (h : Aft B b l w w') {k : Nat} {cs : Array Value} {T : TypeId} {fz : Nat × Nat} (hk : w.heap[k]? = some (.cells cs T fz)) (hb : k ≠ b) (hT : T ≠ 5) : w'.heap[k]? = some (.cells cs T fz) :=
  h.keeps k _ hk (fun e => hb (Option.some.inj e)) (fun c z e => hT (by injection e))
theorem Fm.is.aft {B b : Nat} {l : List UInt8} {w w' : World} (h : Aft B b l w w') {f : Fm} {x : Value} (hf : f.is (· ≠ b) w x) : f.is (· ≠ b) w' x :=
  Fm.is.kept (fun g _ _ hg hh => ⟨hg, h.block hh hg (by decide)⟩) f hf
theorem Fm.are.aft {B b : Nat} {l : List UInt8} {w w' : World} (h : Aft B b l w w') {fs : List Fm} {a : Option Addr} {i : Nat} (hf : Fm.are (· ≠ b) w fs a i) : Fm.are (· ≠ b) w' fs a i :=
  Fm.are.kept (fun g _ _ hg hh => ⟨hg, h.block hh hg (by decide)⟩) fs hf
theorem Bld.lt {B b : Nat} {l : List UInt8} {w : World} (h : Bld B b l w) : b < w.heap.size := by
  rcases h with h | h <;> exact h.lt
theorem heap_top (w : World) (o : Obj) : (w.alloc o).heap[w.heap.size]? = some o := by show (w.heap.push o)[w.heap.size]? = _; simp

/-- a form's contract: its text is written behind what the builder holds -/
def Writes (f : Fm) : Prop := ∀ (x : Value) (B b : Nat) (l : List UInt8) (w : World), f.is (· ≠ b) w x → Bld B b l w → l.length + f.text.length ≤ 1099511627776 → B ≤ w.heap.size →
  Calls Tryz.prog f.fn #[x, .pointer (some ⟨b, 0, none⟩)] w fun e w' => e = .returned (.tuple #[]) ∧ Aft B b (l ++ f.text) w w'

theorem bwrite_aft (B b : Nat) (l : List UInt8) (s : ByteArray) (w : World) (h : Bld B b l w) (hlen : l.length + s.size ≤ 1099511627776) (hBw : B ≤ w.heap.size) :
    Calls Tryz.prog 38 #[.pointer (some ⟨b, 0, none⟩), .string s] w fun e w' => e = .returned (.tuple #[.int .i64 s.size, .nilIface]) ∧ Aft B b (l ++ s.data.toList) w w' :=
  (bwrite_any B b l s w h (by omega) hBw).mono fun _ _ ⟨h1, h2, h3, h4⟩ => ⟨h1, h2, h3, h4⟩

set_option maxHeartbeats 400000 in
theorem wleaf_any (s : ByteArray) : Writes (.leaf s) := by
  intro x B b l w hf hb hlen hB
  obtain ⟨rfl, -⟩ := hf
  have hl : l.length + s.size ≤ 1099511627776 := by
    have : (Fm.leaf s).text.length = s.size := by rw [Fm.text]; exact size_list s
    omega
  show Calls Tryz.prog 266 _ w _
  go_enter Tryz.func266, Tryz.ntmps266
  go_wp2_with (go_at_call 38; refine (bwrite_aft B b l s _ hb hl hB).mono ?_; rintro e w' ⟨rfl, ha⟩)
  refine bodyPost_end (results_none rfl _ _ _) rfl ?_
  exact ⟨rfl, by rw [Fm.text]; exact ha⟩

theorem as_unary_leaf (v : Value) (w : World) : (Instr.typeAssert (.iface 80 v) 60 117 true).run Tryz.prog w = .ok (.tuple #[.agg #[.nilIface, .nilIface], .bool false]) w := by kernel_rfl
theorem as_unary_called (v : Value) (w : World) : (Instr.typeAssert (.iface 79 v) 60 117 true).run Tryz.prog w = .ok (.tuple #[.agg #[.nilIface, .nilIface], .bool false]) w := by kernel_rfl
theorem as_unary_unary (v : Value) (w : World) : (Instr.typeAssert (.iface 117 v) 60 117 true).run Tryz.prog w = .ok (.tuple #[v, .bool true]) w := by kernel_rfl
theorem as_unary_binary (v : Value) (w : World) : (Instr.typeAssert (.iface 119 v) 60 117 true).run Tryz.prog w = .ok (.tuple #[.agg #[.nilIface, .nilIface], .bool false]) w := by kernel_rfl
theorem as_unary_choice (v : Value) (w : World) : (Instr.typeAssert (.iface 115 v) 60 117 true).run Tryz.prog w = .ok (.tuple #[.agg #[.nilIface, .nilIface], .bool false]) w := by kernel_rfl
theorem as_binary_leaf (v : Value) (w : World) : (Instr.typeAssert (.iface 80 v) 60 119 true).run Tryz.prog w = .ok (.tuple #[.agg #[.nilIface, .nilIface, .nilIface], .bool false]) w := by kernel_rfl
theorem as_binary_called (v : Value) (w : World) : (Instr.typeAssert (.iface 79 v) 60 119 true).run Tryz.prog w = .ok (.tuple #[.agg #[.nilIface, .nilIface, .nilIface], .bool false]) w := by kernel_rfl
theorem as_binary_unary (v : Value) (w : World) : (Instr.typeAssert (.iface 117 v) 60 119 true).run Tryz.prog w = .ok (.tuple #[.agg #[.nilIface, .nilIface, .nilIface], .bool false]) w := by kernel_rfl
theorem as_binary_binary (v : Value) (w : World) : (Instr.typeAssert (.iface 119 v) 60 119 true).run Tryz.prog w = .ok (.tuple #[v, .bool true]) w := by kernel_rfl
theorem as_binary_choice (v : Value) (w : World) : (Instr.typeAssert (.iface 115 v) 60 119 true).run Tryz.prog w = .ok (.tuple #[.agg #[.nilIface, .nilIface, .nilIface], .bool false]) w := by kernel_rfl
theorem as_choice_leaf (v : Value) (w : World) : (Instr.typeAssert (.iface 80 v) 60 115 true).run Tryz.prog w = .ok (.tuple #[.agg #[.nilIface, .nilIface, .nilIface], .bool false]) w := by kernel_rfl
theorem as_choice_called (v : Value) (w : World) : (Instr.typeAssert (.iface 79 v) 60 115 true).run Tryz.prog w = .ok (.tuple #[.agg #[.nilIface, .nilIface, .nilIface], .bool false]) w := by kernel_rfl
theorem as_choice_unary (v : Value) (w : World) : (Instr.typeAssert (.iface 117 v) 60 115 true).run Tryz.prog w = .ok (.tuple #[.agg #[.nilIface, .nilIface, .nilIface], .bool false]) w := by kernel_rfl
theorem as_choice_binary (v : Value) (w : World) : (Instr.typeAssert (.iface 119 v) 60 115 true).run Tryz.prog w = .ok (.tuple #[.agg #[.nilIface, .nilIface, .nilIface], .bool false]) w := by kernel_rfl
theorem as_choice_choice (v : Value) (w : World) : (Instr.typeAssert (.iface 115 v) 60 115 true).run Tryz.prog w = .ok (.tuple #[v, .bool true]) w := by kernel_rfl

/-- a part's contract -/
theorem part_any (f : Fm) (hw : Writes f) (x : Value) (B b : Nat) (l : List UInt8) (w : World) (hf : f.is (· ≠ b) w x) (hb : Bld B b l w) (hlen : l.length + (wrapL f.wrap f.text).length ≤ 1099511627776) (hB : B ≤ w.heap.size) :
    Calls Tryz.prog 269 #[.pointer (some ⟨b, 0, none⟩), .iface f.ty x] w fun e w' => e = .returned (.tuple #[]) ∧ Aft B b (l ++ wrapL f.wrap f.text) w w' := by
  have M := mt f x
  have eg := en f
  have HW := Lib.hid hw
  clear hw
  by_cases hwr : f.wrap = true
  · have E := Lib.hid (show l ++ wrapL f.wrap f.text = l ++ [40] ++ f.text ++ [41] by rw [hwr]; simp [wrapL])
    replace hlen : l.length + f.text.length + 2 ≤ 1099511627776 := by
      rw [hwr] at hlen
      simp [wrapL] at hlen
      omega
    have h1 : l.length + (⟨#[40]⟩ : ByteArray).size ≤ 1099511627776 := by show l.length + 1 ≤ _; omega
    cases f
    case leaf => cases hwr
    case called => cases hwr
    case' unary u1 u2 => have a1 := as_unary_unary x; have a2 := as_binary_unary x; have a3 := as_choice_unary x; generalize hg : Fm.unary u1 u2 = g at M eg HW E hf hlen ⊢; have ht : g.ty = 117 := by rw [← hg]; rfl
    case' binary u1 u2 u3 => have a1 := as_unary_binary x; have a2 := as_binary_binary x; have a3 := as_choice_binary x; generalize hg : Fm.binary u1 u2 u3 = g at M eg HW E hf hlen ⊢; have ht : g.ty = 119 := by rw [← hg]; rfl
    case' choice u1 u2 u3 => have a1 := as_unary_choice x; have a2 := as_binary_choice x; have a3 := as_choice_choice x; generalize hg : Fm.choice u1 u2 u3 = g at M eg HW E hf hlen ⊢; have ht : g.ty = 115 := by rw [← hg]; rfl
    all_goals
      rw [ht] at M ⊢
      clear ht hg hwr
      go_enter Tryz.func269, Tryz.ntmps269
      go_wp2_with fail
      refine Calls.mono (bwrite_aft B b l ⟨#[40]⟩ _ hb h1 hB) ?_
      rintro e w1 ⟨rfl, ha⟩
      have HA := Lib.hid ha
      clear ha
      go_wp2_with fail
      refine Calls.mono (HW.out x B b (l ++ [40]) _ (Fm.is.aft HA.out hf) HA.out.bld (by simp; omega) (HA.out.size hB)) ?_
      rintro e w2 ⟨rfl, ha⟩
      have HA2 := Lib.hid (HA.out.trans ha)
      clear ha
      go_wp2_with fail
      refine Calls.mono (bwrite_aft B b _ ⟨#[41]⟩ _ HA2.out.bld (by simp [ByteArray.size]; omega) (HA2.out.size hB)) ?_
      rintro e w3 ⟨rfl, ha⟩
      have HA3 := Lib.hid (HA2.out.trans ha)
      clear ha
      go_wp2_with fail
      refine bodyPost_end (results_none rfl _ _ _) rfl ?_
      exact ⟨rfl, by rw [E.out]; exact HA3.out⟩
  · have E := Lib.hid (show l ++ wrapL f.wrap f.text = l ++ f.text by rw [Bool.eq_false_iff.2 hwr]; rfl)
    replace hlen : l.length + f.text.length ≤ 1099511627776 := by
      rw [Bool.eq_false_iff.2 hwr] at hlen
      exact hlen
    cases f
    case unary => exact absurd rfl hwr
    case binary => exact absurd rfl hwr
    case choice => exact absurd rfl hwr
    case' leaf u1 => have a1 := as_unary_leaf x; have a2 := as_binary_leaf x; have a3 := as_choice_leaf x; generalize hg : Fm.leaf u1 = g at M eg HW E hf hlen ⊢; have ht : g.ty = 80 := by rw [← hg]; rfl
    case' called u1 u2 => have a1 := as_unary_called x; have a2 := as_binary_called x; have a3 := as_choice_called x; generalize hg : Fm.called u1 u2 = g at M eg HW E hf hlen ⊢; have ht : g.ty = 79 := by rw [← hg]; rfl
    all_goals
      rw [ht] at M ⊢
      clear ht hg hwr
      go_enter Tryz.func269, Tryz.ntmps269
      go_wp2_with fail
      refine Calls.mono (HW.out x B b l _ hf hb (by omega) hB) ?_
      rintro e w2 ⟨rfl, ha⟩
      have HA := Lib.hid ha
      clear ha
      go_wp2_with fail
      refine bodyPost_end (results_none rfl _ _ _) rfl ?_
      exact ⟨rfl, by rw [E.out]; exact HA.out⟩

end Go.Proofs.YtcndknkdhlmdnaaGreatDoor

/-
  usanceref09: IsFar, kids, worded, numbered.
-/
namespace Go.Proofs.YtcndknkdhlmdnaaGreatDoor
open Go.RowKit Go.Shelf
set_option maxRecDepth 100000

theorem occ_dot {s : ByteArray} {j : Nat} (hj : j < s.size) : Lib.occAt s.data.toList [46] j = (s[j] == 46) := by
  unfold Lib.occAt
  rw [drop_at hj, List.isPrefixOf, List.isPrefixOf, Bool.and_true, Bool.eq_iff_iff, beq_iff_eq, beq_iff_eq]
  exact eq_comm
theorem cut_dot {s : ByteArray} {k : Nat} (hk : k < s.size) (h : s[k] = 46) (hn : ∀ j (hj : j < s.size), j < k → s[j] ≠ 46) : farL s.data.toList = (nearL (s.extract 0 k).data.toList && nearL (s.extract (k + 1) s.size).data.toList) := by
  have hi : Lib.index s.data.toList [46] = k := Lib.index_first (by rw [size_list]; omega) (by rw [occ_dot hk, h]; rfl) fun j hj => by
    rw [occ_dot (show j < s.size by omega), beq_eq_false_iff_ne]; exact hn j _ hj
  obtain ⟨e1, e2, e3⟩ := Lib.cutB_hit s ⟨#[46]⟩ k hi
  have e1' : (⟨(Lib.cut s.data.toList [46]).1.toArray⟩ : ByteArray) = s.extract 0 k := e1
  have e2' : (⟨(Lib.cut s.data.toList [46]).2.1.toArray⟩ : ByteArray) = s.extract (k + 1) s.size := e2
  have e3' : (Lib.cut s.data.toList [46]).2.2 = true := e3
  unfold farL
  rw [e3', ← e1', ← e2']; rfl
theorem cut_nodot {s : ByteArray} (hn : ∀ j (hj : j < s.size), s[j] ≠ 46) : farL s.data.toList = false := by
  have hi : Lib.index s.data.toList [46] = -1 := Lib.index_none fun j hj => by
    by_cases h : j < s.size
    · rw [occ_dot h, beq_eq_false_iff_ne]; exact hn j h
    · unfold Lib.occAt; rw [drop_end (by omega)]; rfl
  obtain ⟨e1, e2, e3⟩ := Lib.cutB_miss s ⟨#[46]⟩ hi
  have e3' : (Lib.cut s.data.toList [46]).2.2 = false := e3
  unfold farL
  rw [e3']; rfl

set_option maxHeartbeats 2000000 in
theorem rIsFar_any (s : ByteArray) (w : World) (hs : s.size ≤ maxLen) : Calls Tryz.prog 113 #[.string s] w fun e w' => e = .returned (.bool (farL s.data.toList)) ∧ Below w.heap.size w w' := by
  have hm : s.size ≤ 9223372036854775807 := hs
  go_enter Tryz.func113, Tryz.ntmps113
  go_wp2
  go_loop [3] (fun i => ∃ k : Nat, k ≤ s.size ∧ i = .int .i64 k ∧ Hid (∀ j (hj : j < s.size), j < k → s[j] ≠ 46)) (fun i => s.size - (intOf i).toNat)
  case atStart => exact ⟨0, by omega, rfl, fun j hj h => by omega⟩
  case round =>
    obtain ⟨k, hk, rfl, HI⟩ := hrel
    by_cases hlt : k < s.size
    · by_cases he : s[k] = 46
      · have F := Lib.hid (cut_dot hlt he HI.out)
        have e1 : (s[k].toNat : Int) = 46 := by rw [he]; rfl
        have z1 : (s.extract 0 k).size ≤ maxLen := by rw [ByteArray.size_extract]; omega
        have z2 : (s.extract (k + 1) s.size).size ≤ maxLen := by rw [ByteArray.size_extract]; omega
        have c1 : (0 : Int) ≤ ↑k := by omega
        have c2 : (↑k : Int) ≤ ↑s.size := by omega
        have c3 : (0 : Int) ≤ ↑k + 1 := by omega
        have c4 : (↑k + 1 : Int) ≤ ↑s.size := by omega
        clear he
        cases h1 : nearL (s.extract 0 k).data.toList
        all_goals
          go_wp2_with fail
          refine Calls.mono (rIsNear_any (s.extract 0 k) _ z1) ?_
          rintro e w1 ⟨rfl, hb1⟩
          rw [h1]
          have HB := Lib.hid hb1
          clear hb1
          go_wp2_with fail
          refine Calls.mono (rIsNear_any (s.extract (k + 1) s.size) _ z2) ?_
          rintro e w2 ⟨rfl, hb1⟩
          have HC := Lib.hid (HB.out.trans (hb1.mono HB.out.size))
          clear hb1
          go_wp2_with fail
          go_ret
          exact ⟨nretB (by rw [F.out, h1]; simp), HC.out⟩
      · have e1 : ¬ (s[k].toNat : Int) = 46 := fun e => he (UInt8.toNat_inj.1 (Int.ofNat.inj e))
        have HE := Lib.hid he
        clear he
        go_wp2
        go_round
        case rel =>
          refine ⟨k + 1, by omega, by go_num, fun j hj h => ?_⟩
          by_cases ej : j = k
          · subst ej; exact HE.out
          · exact HI.out j hj (by omega)
        case measure => simp [intOf]; omega
    · have F := Lib.hid (cut_nodot fun j hj => HI.out j hj (by omega))
      go_wp2
      go_ret
      exact ⟨nretB F.out.symm, Below.refl _ _⟩

/-- how many kids a kind has, at least and at most -/
def kidsLo (k : Int) : Int := if 5 ≤ k ∧ k ≤ 10 then 0 else if k = 12 then 1 else if k = 13 then 2 else if k = 14 ∨ k = 15 then 3 else 1
def kidsHi (k : Int) : Int := if 5 ≤ k ∧ k ≤ 10 then 0 else if k = 12 then 1 else if k = 13 then 2 else if k = 14 ∨ k = 15 then 3 else if k = 11 then 8 else 0
theorem kids_lohi (k : Int) (n : Nat) : kidsOk k n = (decide (kidsLo k ≤ n) && decide (n ≤ kidsHi k)) := by
  unfold kidsOk kidsLo kidsHi
  rw [Bool.eq_iff_iff]
  repeat' split
  all_goals simp
  all_goals omega
theorem ret2 {a b c d : Int} (h : a = c) (h' : b = d) : Ending.returned (.tuple #[.int .i64 a, .int .i64 b]) = .returned (.tuple #[.int .i64 c, .int .i64 d]) := by rw [h, h']
set_option maxHeartbeats 2000000 in
theorem rkids_any (k : Int) (w : World) : Calls Tryz.prog 73 #[.int .i64 k] w fun e w' => e = .returned (.tuple #[.int .i64 (kidsLo k), .int .i64 (kidsHi k)]) ∧ w = w' := by
  go_enter Tryz.func73, Tryz.ntmps73
  go_wp2
  all_goals go_ret2
  all_goals (try simp only [beq_iff_eq, beq_eq_false_iff_ne, ne_eq] at *)
  all_goals exact ⟨ret2 (by unfold kidsLo; (repeat' split) <;> omega) (by unfold kidsHi; (repeat' split) <;> omega), by first | rfl | trivial⟩

set_option maxHeartbeats 2000000 in
theorem rnumbered_any (t : Nd) (a : Option Addr) (cap : Nat) (w : World) :
    Calls Tryz.prog 75 #[.agg #[.int .i64 t.kind, .string t.text, .int .i64 t.n, .slice a t.kids.length cap, .int .i64 t.place]] w fun e w' => e = .returned (.bool (numOk t.kind t.n)) ∧ Below w.heap.size w w' := by
  have HB := Lib.hid (nbelow1 w (.cells #[.int .i64 t.kind, .string t.text, .int .i64 t.n, .slice a t.kids.length cap, .int .i64 t.place] 24))
  generalize t.n = n at HB ⊢
  generalize t.kind = k at HB ⊢
  go_enter Tryz.func75, Tryz.ntmps75
  go_wp2
  all_goals go_ret
  all_goals (try simp only [beq_iff_eq, beq_eq_false_iff_ne, ne_eq] at *)
  all_goals exact ⟨nretB (by unfold numOk; rw [Bool.eq_iff_iff]; (repeat' split) <;> (try simp) <;> omega), nbelow1 _ _⟩

/-- what a boxed node's cells hold, of whatever kind -/
theorem Boxed.kind {b : Nat} {t : Nd} {a : Option Addr} {cap : Nat} {w : World} (h : Boxed b t a cap w) {k : Int} (hk : t.kind = k) : w.cell? ⟨b, 0, none⟩ = some (.int .i64 k) := hk ▸ h.c0
set_option maxHeartbeats 4000000 in
theorem rworded_any (t : Nd) (a : Option Addr) (cap : Nat) (w : World) (hs : t.text.size ≤ maxLen) :
    Calls Tryz.prog 74 #[.agg #[.int .i64 t.kind, .string t.text, .int .i64 t.n, .slice a t.kids.length cap, .int .i64 t.place]] w fun e w' => e = .returned (.bool (textOk t.kind t.text.data.toList)) ∧ Below w.heap.size w w' := by
  have HB := Lib.hid (nbelow1 w (.cells #[.int .i64 t.kind, .string t.text, .int .i64 t.n, .slice a t.kids.length cap, .int .i64 t.place] 24))
  have B0 := Lib.hid (Boxed.make w t a cap)
  go_enter Tryz.func74, Tryz.ntmps74
  go_wp2_with fail
  refine Calls.mono (rIsNear_any t.text _ hs) ?_
  rintro e w1 ⟨rfl, hb⟩
  have HC := Lib.hid (HB.out.trans (hb.mono HB.out.size))
  have B1 := Lib.hid (B0.out.below hb)
  clear hb B0 HB
  have c1 := B1.out.c1
  go_wp2_with fail
  refine Calls.mono (rIsFar_any t.text _ hs) ?_
  rintro e w2 ⟨rfl, hb⟩
  have HD := Lib.hid (HC.out.trans (hb.mono HC.out.size))
  have B2 := Lib.hid (B1.out.below hb)
  clear hb B1 HC c1
  have c1 := B2.out.c1
  have hk : t.kind = 7 ∨ t.kind = 9 ∨ t.kind = 15 ∨ t.kind = 10 ∨ t.kind = 11 ∨ t.kind = 12 ∨ t.kind = 13 ∨ (t.kind ≠ 7 ∧ t.kind ≠ 9 ∧ t.kind ≠ 15 ∧ t.kind ≠ 10 ∧ t.kind ≠ 11 ∧ t.kind ≠ 12 ∧ t.kind ≠ 13) := by omega
  rcases hk with hk | hk | hk | hk | hk | hk | hk | hk
  · have c0 := B2.out.kind hk
    have E := Lib.hid (show textOk t.kind t.text.data.toList = curL t.text.data.toList by rw [hk]; rfl)
    clear hk
    go_wp2_with (go_at_call 114; refine (rIsCur_any t.text _ hs).mono ?_; rintro e w' ⟨rfl, rfl⟩)
    go_ret
    exact ⟨nretB E.out.symm, HD.out⟩
  · have c0 := B2.out.kind hk
    have E := Lib.hid (show textOk t.kind t.text.data.toList = nameR t.text.data.toList by rw [hk, nameR_eq]; rfl)
    clear hk
    go_wp2_with (go_at_call 71; refine (rIsName_any t.text _ hs).mono ?_; rintro e w' ⟨rfl, rfl⟩)
    go_ret
    exact ⟨nretB E.out.symm, HD.out⟩
  · have c0 := B2.out.kind hk
    have E := Lib.hid (show textOk t.kind t.text.data.toList = nameR t.text.data.toList by rw [hk, nameR_eq]; rfl)
    clear hk
    go_wp2_with (go_at_call 71; refine (rIsName_any t.text _ hs).mono ?_; rintro e w' ⟨rfl, rfl⟩)
    go_ret
    exact ⟨nretB E.out.symm, HD.out⟩
  · have c0 := B2.out.kind hk
    have E := Lib.hid (show textOk t.kind t.text.data.toList = (nearL t.text.data.toList || farL t.text.data.toList) by rw [hk, any_eq]; rfl)
    clear hk
    cases h1 : nearL t.text.data.toList
    all_goals
      go_wp2_with fail
      go_ret
      exact ⟨nretB (by rw [E.out, h1]; rfl), HD.out⟩
  · have c0 := B2.out.kind hk
    have E := Lib.hid (show textOk t.kind t.text.data.toList = (nearL t.text.data.toList || farL t.text.data.toList) by rw [hk, any_eq]; rfl)
    clear hk
    cases h1 : nearL t.text.data.toList
    all_goals
      go_wp2_with fail
      go_ret
      exact ⟨nretB (by rw [E.out, h1]; rfl), HD.out⟩
  · have c0 := B2.out.kind hk
    have E := Lib.hid (show textOk t.kind t.text.data.toList = (t.text.toList == [45] || t.text.toList == [110, 111, 116]) by rw [hk, Lib.toList_data]; rfl)
    clear hk
    by_cases h1 : t.text.toList = [45]
    · go_wp2_with fail
      go_ret
      exact ⟨nretB (by rw [E.out, h1]; simp), HD.out⟩
    · by_cases h2 : t.text.toList = [110, 111, 116]
      · go_wp2_with fail
        go_ret
        exact ⟨nretB (by rw [E.out, h2]; rfl), HD.out⟩
      · go_wp2_with fail
        go_ret
        exact ⟨nretB (by rw [E.out] <;> simp [h1, h2]), HD.out⟩
  · have c0 := B2.out.kind hk
    have E := Lib.hid (show textOk t.kind t.text.data.toList = signL t.text.data.toList by rw [hk]; rfl)
    clear hk
    go_wp2_with (go_at_call 115; refine (rsign_any t.text _).mono ?_; rintro e w' ⟨rfl, hb⟩)
    go_ret
    exact ⟨nretB E.out.symm, HD.out.trans (hb.mono HD.out.size)⟩
  · have c0 := B2.out.c0
    have E := Lib.hid (show textOk t.kind t.text.data.toList = t.text.toList.isEmpty by
      unfold textOk
      rw [if_neg (by omega), if_neg (by omega), if_neg (by omega), if_neg (by omega), if_neg (by omega), Lib.toList_data])
    obtain ⟨k1, k2, k3, k4, k5, k6, k7⟩ := hk
    go_wp2_with fail
    go_ret
    exact ⟨nretB E.out.symm, HD.out⟩

end Go.Proofs.YtcndknkdhlmdnaaGreatDoor

/-
  show's forms: each form's method writes its text.
-/
namespace Go.Proofs.YtcndknkdhlmdnaaGreatDoor
open Go.RowKit Go.Shelf
set_option maxRecDepth 100000

theorem wrapL_len (b : Bool) (l : List UInt8) : l.length ≤ (wrapL b l).length ∧ (wrapL b l).length ≤ l.length + 2 := by
  unfold wrapL
  split <;> simp <;> omega
theorem Fm.is.alloc {b : Nat} {w : World} {f : Fm} {x : Value} (hf : f.is (· ≠ b) w x) (o : Obj) : f.is (· ≠ b) (w.alloc o) x :=
  Fm.is.kept (fun g _ _ hg hh => ⟨hg, (Lib.alloc_old w o g (Array.getElem?_eq_some_iff.1 hh).1).trans hh⟩) f hf
theorem Fm.are.alloc {b : Nat} {w : World} {fs : List Fm} {a : Option Addr} {i : Nat} (hf : Fm.are (· ≠ b) w fs a i) (o : Obj) : Fm.are (· ≠ b) (w.alloc o) fs a i :=
  Fm.are.kept (fun g _ _ hg hh => ⟨hg, (Lib.alloc_old w o g (Array.getElem?_eq_some_iff.1 hh).1).trans hh⟩) fs hf

set_option maxHeartbeats 1000000 in
theorem wunary_any (s k : Fm) (hs : Writes s) (hk : Writes k) : Writes (.unary s k) := by
  intro x B b l w hf hb hlen hB
  obtain ⟨y, z, rfl, hy, hz⟩ := hf
  have E := Lib.hid (show (Fm.unary s k).text = s.text ++ wrapL k.wrap k.text by rw [Fm.text])
  have hl : l.length + s.text.length + (wrapL k.wrap k.text).length ≤ 1099511627776 := by
    rw [E.out, List.length_append] at hlen; omega
  have hwl := wrapL_len k.wrap k.text
  clear hlen
  have hne : w.heap.size ≠ b := by have := hb.lt; omega
  have A0 := Lib.hid ((Aft.start hb).alloc hB (.cells #[.iface s.ty y, .iface k.ty z] 117))
  have hbk := heap_top w (.cells #[.iface s.ty y, .iface k.ty z] 117)
  have HY := Lib.hid (hy.alloc (.cells #[.iface s.ty y, .iface k.ty z] 117))
  have HZ := Lib.hid (hz.alloc (.cells #[.iface s.ty y, .iface k.ty z] 117))
  have HS := Lib.hid hs
  have HK := Lib.hid hk
  clear hs hk hy hz hb
  have M := mt s y
  have eg := en s
  show Calls Tryz.prog 268 _ w _
  go_enter Tryz.func268, Tryz.ntmps268
  go_wp2_with fail
  generalize hW : w.alloc (.cells #[.iface s.ty y, .iface k.ty z] 117) = W1 at A0 hbk HY HZ ⊢
  clear hW
  refine Calls.mono (HS.out y B b l _ HY.out A0.out.bld (by omega) (A0.out.size hB)) ?_
  rintro e w1 ⟨rfl, ha⟩
  have A1 := Lib.hid (A0.out.trans ha)
  have hbk1 := ha.block hbk hne (by decide)
  have HZ1 := Lib.hid (Fm.is.aft ha HZ.out)
  clear ha
  have c1 : w1.cell? ⟨w.heap.size, 1, none⟩ = some (.iface k.ty z) := by rw [Lib.cell_of_heap hbk1]; rfl
  go_wp2_with fail
  refine Calls.mono (part_any k HK.out z B b (l ++ s.text) _ HZ1.out A1.out.bld (by rw [List.length_append]; omega) (A1.out.size hB)) ?_
  rintro e w2 ⟨rfl, ha⟩
  have A2 := Lib.hid (A1.out.trans ha)
  clear ha
  go_wp2_with fail
  refine bodyPost_end (results_none rfl _ _ _) rfl ?_
  exact ⟨rfl, by rw [E.out, ← List.append_assoc]; exact A2.out⟩

set_option maxHeartbeats 2000000 in
theorem wbinary_any (f s k : Fm) (hf : Writes f) (hs : Writes s) (hk : Writes k) : Writes (.binary f s k) := by
  intro x B b l w hx hb hlen hB
  obtain ⟨v, y, z, rfl, hv, hy, hz⟩ := hx
  have E := Lib.hid (show l ++ (Fm.binary f s k).text = l ++ wrapL f.wrap f.text ++ [32] ++ s.text ++ [32] ++ wrapL k.wrap k.text by rw [Fm.text]; simp)
  have hl : l.length + (wrapL f.wrap f.text).length + 1 + s.text.length + 1 + (wrapL k.wrap k.text).length ≤ 1099511627776 := by
    rw [Fm.text] at hlen
    simp only [List.length_append, List.length_cons, List.length_nil] at hlen
    omega
  clear hlen
  have hne : w.heap.size ≠ b := by have := hb.lt; omega
  have A0 := Lib.hid ((Aft.start hb).alloc hB (.cells #[.iface f.ty v, .iface s.ty y, .iface k.ty z] 119))
  have hbk := heap_top w (.cells #[.iface f.ty v, .iface s.ty y, .iface k.ty z] 119)
  have HV := Lib.hid (hv.alloc (.cells #[.iface f.ty v, .iface s.ty y, .iface k.ty z] 119))
  have HY := Lib.hid (hy.alloc (.cells #[.iface f.ty v, .iface s.ty y, .iface k.ty z] 119))
  have HZ := Lib.hid (hz.alloc (.cells #[.iface f.ty v, .iface s.ty y, .iface k.ty z] 119))
  have HF := Lib.hid hf
  have HS := Lib.hid hs
  have HK := Lib.hid hk
  clear hf hs hk hv hy hz hb
  have M := mt s y
  have eg := en s
  show Calls Tryz.prog 270 _ w _
  go_enter Tryz.func270, Tryz.ntmps270
  go_wp2_with fail
  generalize hW : w.alloc (.cells #[.iface f.ty v, .iface s.ty y, .iface k.ty z] 119) = W1 at A0 hbk HV HY HZ ⊢
  clear hW
  refine Calls.mono (part_any f HF.out v B b l _ HV.out A0.out.bld (by omega) (A0.out.size hB)) ?_
  rintro e w1 ⟨rfl, ha⟩
  have A1 := Lib.hid (A0.out.trans ha)
  have hbk1 := ha.block hbk hne (by decide)
  have HY1 := Lib.hid (Fm.is.aft ha HY.out)
  have HZ1 := Lib.hid (Fm.is.aft ha HZ.out)
  clear ha hbk A0 HY HZ
  go_wp2_with fail
  refine Calls.mono (bwrite_aft B b _ ⟨#[32]⟩ _ A1.out.bld (by rw [List.length_append]; show _ + 1 ≤ _; omega) (A1.out.size hB)) ?_
  rintro e w2 ⟨rfl, ha⟩
  have A2 := Lib.hid (A1.out.trans ha)
  have hbk2 := ha.block hbk1 hne (by decide)
  have HY2 := Lib.hid (Fm.is.aft ha HY1.out)
  have HZ2 := Lib.hid (Fm.is.aft ha HZ1.out)
  clear ha hbk1 A1 HY1 HZ1
  have c1 : w2.cell? ⟨w.heap.size, 1, none⟩ = some (.iface s.ty y) := by rw [Lib.cell_of_heap hbk2]; rfl
  go_wp2_with fail
  refine Calls.mono (HS.out y B b _ _ HY2.out A2.out.bld (by simp only [List.length_append]; show _ + 1 + _ ≤ _; omega) (A2.out.size hB)) ?_
  rintro e w3 ⟨rfl, ha⟩
  have A3 := Lib.hid (A2.out.trans ha)
  have hbk3 := ha.block hbk2 hne (by decide)
  have HZ3 := Lib.hid (Fm.is.aft ha HZ2.out)
  clear ha hbk2 A2 HY2 HZ2 c1
  go_wp2_with fail
  refine Calls.mono (bwrite_aft B b _ ⟨#[32]⟩ _ A3.out.bld (by simp only [List.length_append]; show _ + 1 + _ + 1 ≤ _; omega) (A3.out.size hB)) ?_
  rintro e w4 ⟨rfl, ha⟩
  have A4 := Lib.hid (A3.out.trans ha)
  have hbk4 := ha.block hbk3 hne (by decide)
  have HZ4 := Lib.hid (Fm.is.aft ha HZ3.out)
  clear ha hbk3 A3 HZ3
  have c2 : w4.cell? ⟨w.heap.size, 2, none⟩ = some (.iface k.ty z) := by rw [Lib.cell_of_heap hbk4]; rfl
  go_wp2_with fail
  refine Calls.mono (part_any k HK.out z B b _ _ HZ4.out A4.out.bld (by simp only [List.length_append]; show _ + 1 + _ + 1 + _ ≤ _; omega) (A4.out.size hB)) ?_
  rintro e w5 ⟨rfl, ha⟩
  have A5 := Lib.hid (A4.out.trans ha)
  clear ha
  go_wp2_with fail
  refine bodyPost_end (results_none rfl _ _ _) rfl ?_
  exact ⟨rfl, by rw [E.out]; exact A5.out⟩

/-- what a choice has written behind so many parts -/
def chT (f g h : Fm) : Nat → List UInt8
  | 0 => []
  | 1 => [105, 102, 32] ++ f.text
  | 2 => [105, 102, 32] ++ f.text ++ [32, 116, 104, 101, 110, 32] ++ g.text
  | _ => [105, 102, 32] ++ f.text ++ [32, 116, 104, 101, 110, 32] ++ g.text ++ [32, 101, 108, 115, 101, 32] ++ h.text
theorem alloc_blocks (w : World) (o o' : Obj) : ((w.alloc o).alloc o').heap[w.heap.size]? = some o ∧ ((w.alloc o).alloc o').heap[w.heap.size + 1]? = some o' := by
  constructor
  · rw [Lib.alloc_old _ _ _ (by simp)]; exact heap_top w o
  · have := heap_top (w.alloc o) o'
    rw [show (w.alloc o).heap.size = w.heap.size + 1 by simp] at this
    exact this
set_option maxHeartbeats 2000000 in
theorem wchoice_any (f g k : Fm) (hf : Writes f) (hg : Writes g) (hk : Writes k) : Writes (.choice f g k) := by
  intro x B b l w hx hb hlen hB
  obtain ⟨v, y, z, rfl, hv, hy, hz⟩ := hx
  have E := Lib.hid (show l ++ (Fm.choice f g k).text = l ++ chT f g k 3 by rw [Fm.text]; rfl)
  have hl : l.length + f.text.length + g.text.length + k.text.length + 15 ≤ 1099511627776 := by
    rw [Fm.text] at hlen
    simp only [List.length_append, List.length_cons, List.length_nil] at hlen
    omega
  clear hlen
  have hne : w.heap.size ≠ b := by have := hb.lt; omega
  have hne' : w.heap.size + 1 ≠ b := by have := hb.lt; omega
  have A0 := Lib.hid (((Aft.start hb).alloc hB (.cells #[.iface f.ty v, .iface g.ty y, .iface k.ty z] 115)).alloc hB (.cells #[.string ⟨#[105, 102, 32]⟩, .string ⟨#[32, 116, 104, 101, 110, 32]⟩, .string ⟨#[32, 101, 108, 115, 101, 32]⟩] 9))
  have HB0 := Lib.hid (alloc_blocks w (.cells #[.iface f.ty v, .iface g.ty y, .iface k.ty z] 115) (.cells #[.string ⟨#[105, 102, 32]⟩, .string ⟨#[32, 116, 104, 101, 110, 32]⟩, .string ⟨#[32, 101, 108, 115, 101, 32]⟩] 9))
  have HV := Lib.hid hv
  have HY := Lib.hid hy
  have HZ := Lib.hid hz
  have HF := Lib.hid hf
  have HG := Lib.hid hg
  have HK := Lib.hid hk
  clear hf hg hk hv hy hz hb
  have M1 := mt f v
  have eg1 := en f
  have M2 := mt g y
  have eg2 := en g
  have M3 := mt k z
  have eg3 := en k
  show Calls Tryz.prog 267 _ w _
  go_enter Tryz.func267, Tryz.ntmps267
  go_wp2_with fail
  go_loopw [8] (fun i wr => ∃ n : Nat, n ≤ 3 ∧ i = .int .i64 n ∧ Hid (Aft B b (l ++ chT f g k n) w wr) ∧ Hid (wr.heap[w.heap.size]? = some (.cells #[.iface f.ty v, .iface g.ty y, .iface k.ty z] 115)) ∧ Hid (wr.heap[w.heap.size + 1]? = some (.cells #[.string ⟨#[105, 102, 32]⟩, .string ⟨#[32, 116, 104, 101, 110, 32]⟩, .string ⟨#[32, 101, 108, 115, 101, 32]⟩] 9))) (fun i _ => 3 - (intOf i).toNat)
  case atStart => exact ⟨0, by omega, rfl, by show Aft B b (l ++ []) w _; rw [List.append_nil]; exact A0.out, HB0.out.1, HB0.out.2⟩
  case round =>
    obtain ⟨n, hn, rfl, AR, HR, HR'⟩ := hrel
    clear A0 HB0
    by_cases hlt : n < 3
    · have d0 : wr.cell? ⟨w.heap.size, 0, none⟩ = some (.iface f.ty v) := by rw [Lib.cell_of_heap HR.out]; rfl
      have d1 : wr.cell? ⟨w.heap.size, 1, none⟩ = some (.iface g.ty y) := by rw [Lib.cell_of_heap HR.out]; rfl
      have d2 : wr.cell? ⟨w.heap.size, 2, none⟩ = some (.iface k.ty z) := by rw [Lib.cell_of_heap HR.out]; rfl
      have r0 : wr.cell? ⟨w.heap.size + 1, 0, none⟩ = some (.string ⟨#[105, 102, 32]⟩) := by rw [Lib.cell_of_heap HR'.out]; rfl
      have r1 : wr.cell? ⟨w.heap.size + 1, 1, none⟩ = some (.string ⟨#[32, 116, 104, 101, 110, 32]⟩) := by rw [Lib.cell_of_heap HR'.out]; rfl
      have r2 : wr.cell? ⟨w.heap.size + 1, 2, none⟩ = some (.string ⟨#[32, 101, 108, 115, 101, 32]⟩) := by rw [Lib.cell_of_heap HR'.out]; rfl
      have hn3 : n = 0 ∨ n = 1 ∨ n = 2 := by omega
      rcases hn3 with rfl | rfl | rfl
      · go_wp2_with fail
        refine Calls.mono (bwrite_aft B b _ ⟨#[105, 102, 32]⟩ _ AR.out.bld (by rw [List.length_append]; show _ + 0 + 3 ≤ _; omega) (AR.out.size hB)) ?_
        rintro e w2 ⟨rfl, ha⟩
        have A2 := Lib.hid (AR.out.trans ha)
        have hb2 := ha.block HR.out hne (by decide)
        have hb2' := ha.block HR'.out hne' (by decide)
        clear ha d0 d1 d2 r0 r1 r2 AR HR HR'
        have d0 : w2.cell? ⟨w.heap.size, 0, none⟩ = some (.iface f.ty v) := by rw [Lib.cell_of_heap hb2]; rfl
        go_wp2_with fail
        refine Calls.mono (HF.out v B b _ _ (Fm.is.aft A2.out HV.out) A2.out.bld (by simp only [List.length_append]; show _ + 0 + 3 + _ ≤ _; omega) (A2.out.size hB)) ?_
        rintro e w3 ⟨rfl, ha⟩
        have A3 := Lib.hid (A2.out.trans ha)
        have hb3 := Lib.hid (ha.block hb2 hne (by decide))
        have hb3' := Lib.hid (ha.block hb2' hne' (by decide))
        clear ha d0
        go_wp2_with fail
        go_roundw
        case rel => exact ⟨1, by omega, by go_num, by show Aft B b (l ++ ([105, 102, 32] ++ f.text)) w _; have := A3.out; simpa [chT] using this, hb3, hb3'⟩
        case measure => simp [intOf]
      · go_wp2_with fail
        refine Calls.mono (bwrite_aft B b _ ⟨#[32, 116, 104, 101, 110, 32]⟩ _ AR.out.bld (by simp only [List.length_append, chT, List.length_cons, List.length_nil]; show _ + 6 ≤ _; omega) (AR.out.size hB)) ?_
        rintro e w2 ⟨rfl, ha⟩
        have A2 := Lib.hid (AR.out.trans ha)
        have hb2 := ha.block HR.out hne (by decide)
        have hb2' := ha.block HR'.out hne' (by decide)
        clear ha d0 d1 d2 r0 r1 r2 AR HR HR'
        have d1 : w2.cell? ⟨w.heap.size, 1, none⟩ = some (.iface g.ty y) := by rw [Lib.cell_of_heap hb2]; rfl
        go_wp2_with fail
        refine Calls.mono (HG.out y B b _ _ (Fm.is.aft A2.out HY.out) A2.out.bld (by simp only [List.length_append, chT, List.length_cons, List.length_nil]; omega) (A2.out.size hB)) ?_
        rintro e w3 ⟨rfl, ha⟩
        have A3 := Lib.hid (A2.out.trans ha)
        have hb3 := Lib.hid (ha.block hb2 hne (by decide))
        have hb3' := Lib.hid (ha.block hb2' hne' (by decide))
        clear ha d1
        go_wp2_with fail
        go_roundw
        case rel => exact ⟨2, by omega, by go_num, by have := A3.out; show Aft B b _ w _; simpa [chT] using this, hb3, hb3'⟩
        case measure => simp [intOf]
      · go_wp2_with fail
        refine Calls.mono (bwrite_aft B b _ ⟨#[32, 101, 108, 115, 101, 32]⟩ _ AR.out.bld (by simp only [List.length_append, chT, List.length_cons, List.length_nil]; show _ + 6 ≤ _; omega) (AR.out.size hB)) ?_
        rintro e w2 ⟨rfl, ha⟩
        have A2 := Lib.hid (AR.out.trans ha)
        have hb2 := ha.block HR.out hne (by decide)
        have hb2' := ha.block HR'.out hne' (by decide)
        clear ha d0 d1 d2 r0 r1 r2 AR HR HR'
        have d2 : w2.cell? ⟨w.heap.size, 2, none⟩ = some (.iface k.ty z) := by rw [Lib.cell_of_heap hb2]; rfl
        go_wp2_with fail
        refine Calls.mono (HK.out z B b _ _ (Fm.is.aft A2.out HZ.out) A2.out.bld (by simp only [List.length_append, chT, List.length_cons, List.length_nil]; omega) (A2.out.size hB)) ?_
        rintro e w3 ⟨rfl, ha⟩
        have A3 := Lib.hid (A2.out.trans ha)
        have hb3 := Lib.hid (ha.block hb2 hne (by decide))
        have hb3' := Lib.hid (ha.block hb2' hne' (by decide))
        clear ha d2
        go_wp2_with fail
        go_roundw
        case rel => exact ⟨3, by omega, by go_num, by have := A3.out; show Aft B b _ w _; simpa [chT] using this, hb3, hb3'⟩
        case measure => simp [intOf]
    · obtain rfl : n = 3 := by omega
      go_wp2_with fail
      refine bodyPost_end (results_none rfl _ _ _) rfl ?_
      exact ⟨rfl, by rw [E.out]; exact AR.out⟩

/-- a call's separators -/
def sepL (n : Nat) : List UInt8 := if n = 0 then [40] else [44, 32]
set_option maxHeartbeats 2000000 in
theorem wcalled_any (h : ByteArray) (ks : List Fm) (ih : ∀ (n : Nat) (hn : n < ks.length), Writes ks[n]) : Writes (.called h ks) := by
  intro x B b l w hx hb hlen hB
  obtain ⟨a, cap, rfl, hh, hkc, hcm, hks⟩ := hx
  have hm : ks.length ≤ 9223372036854775807 := Nat.le_trans hkc hcm
  have E := Lib.hid (show l ++ (Fm.called h ks).text = l ++ h.data.toList ++ Fm.texts true ks ++ [41] by rw [Fm.text]; simp)
  have hl : l.length + h.size + (Fm.texts true ks).length + 1 ≤ 1099511627776 := by
    rw [Fm.text] at hlen
    simp only [List.length_append, List.length_cons, List.length_nil, size_list] at hlen
    omega
  clear hlen
  have hne : w.heap.size ≠ b := by have := hb.lt; omega
  have A0 := Lib.hid ((Aft.start hb).alloc hB (.cells #[.string h, .slice a ks.length cap] 79))
  have hbk := heap_top w (.cells #[.string h, .slice a ks.length cap] 79)
  have HS := Lib.hid (hks.alloc (.cells #[.string h, .slice a ks.length cap] 79))
  have IH := Lib.hid ih
  clear ih hks hb
  show Calls Tryz.prog 67 _ w _
  go_enter Tryz.func67, Tryz.ntmps67
  go_wp2_with fail
  generalize hW : w.alloc (.cells #[.string h, .slice a ks.length cap] 79) = W1 at A0 hbk HS ⊢
  clear hW
  refine Calls.mono (bwrite_aft B b _ h _ A0.out.bld (by omega) (A0.out.size hB)) ?_
  rintro e w1 ⟨rfl, ha⟩
  have A1 := Lib.hid (A0.out.trans ha)
  have hb1 := ha.block hbk hne (by decide)
  have HS1 := Lib.hid (Fm.are.aft ha HS.out)
  clear ha A0 HS hbk
  have c1 : w1.cell? ⟨w.heap.size, 1, none⟩ = some (.slice a ks.length cap) := by rw [Lib.cell_of_heap hb1]; rfl
  clear hb1
  go_wp2_with fail
  clear c1
  go_loopw [13] (fun i wr => ∃ (n : Nat) (t : List UInt8), n ≤ ks.length ∧ i = .int .i64 n ∧ Hid (t ++ Fm.texts (decide (n = 0)) (ks.drop n) = l ++ h.data.toList ++ Fm.texts true ks) ∧ Hid (Aft B b t w wr) ∧ Hid (Fm.are (· ≠ b) wr ks a 0)) (fun i _ => ks.length - (intOf i).toNat)
  case atStart => exact ⟨0, l ++ h.data.toList, by omega, rfl, rfl, A1, HS1⟩
  case round =>
    obtain ⟨n, t, hn, rfl, HI, AR, HR⟩ := hrel
    clear A1 HS1
    have hlen : t.length + (Fm.texts (decide (n = 0)) (ks.drop n)).length + 1 ≤ 1099511627776 := by
      have := congrArg List.length HI.out
      simp only [List.length_append, size_list] at this
      omega
    by_cases hlt : n < ks.length
    · obtain ⟨g, y, cur, fz, rfl, hgb, hg, hcur, hy⟩ := Fm.are.get ks 0 HR.out n hlt
      rw [Nat.zero_add] at hcur
      have S := Lib.hid (texts_step ks n hlt)
      have hsz : t.length + (sepL n).length + ks[n].text.length + 1 ≤ 1099511627776 := by
        rw [S.out] at hlen
        simp only [List.length_append] at hlen
        unfold sepL
        omega
      clear hlen
      have cg : wr.cell? ⟨g, n, none⟩ = some (.iface ks[n].ty y) := by rw [Lib.cell_of_heap hg]; exact hcur
      have M := mt ks[n] y
      have eg := en ks[n]
      have AR2 := Lib.hid (AR.out.alloc hB (.cells #[.string ⟨#[40]⟩, .string ⟨#[44, 32]⟩] 9))
      have HY := Lib.hid (Fm.is.alloc hy (.cells #[.string ⟨#[40]⟩, .string ⟨#[44, 32]⟩] 9))
      have HR2 := Lib.hid (HR.out.alloc (.cells #[.string ⟨#[40]⟩, .string ⟨#[44, 32]⟩] 9))
      have hrow := heap_top wr (.cells #[.string ⟨#[40]⟩, .string ⟨#[44, 32]⟩] 9)
      have r0 : (wr.alloc (.cells #[.string ⟨#[40]⟩, .string ⟨#[44, 32]⟩] 9)).cell? ⟨wr.heap.size, 0, none⟩ = some (.string ⟨#[40]⟩) := by rw [Lib.cell_of_heap hrow]; rfl
      have r1 : (wr.alloc (.cells #[.string ⟨#[40]⟩, .string ⟨#[44, 32]⟩] 9)).cell? ⟨wr.heap.size, 1, none⟩ = some (.string ⟨#[44, 32]⟩) := by rw [Lib.cell_of_heap hrow]; rfl
      clear hrow hy hg hcur
      have IHn := Lib.hid (IH.out n hlt)
      generalize ks[n] = f at M eg hsz S HY cg IHn
      by_cases hn0 : n = 0
      · subst hn0
        have e0 : (sepL 0).length = 1 := rfl
        have r0' : (wr.alloc (.cells #[.string ⟨#[40]⟩, .string ⟨#[44, 32]⟩] 9)).cell? ⟨wr.heap.size, (min (0 : Int) 1).toNat, none⟩ = some (.string ⟨#[40]⟩) := r0
        go_wp2_with fail
        refine Calls.mono (bwrite_aft B b t ⟨#[40]⟩ _ AR2.out.bld (by show _ + 1 ≤ _; omega) (AR2.out.size hB)) ?_
        rintro e w2 ⟨rfl, ha⟩
        have A2 := Lib.hid (AR2.out.trans ha)
        have HY2 := Lib.hid (Fm.is.aft ha HY.out)
        have HR3 := Lib.hid (Fm.are.aft ha HR2.out)
        clear ha r0 r1 r0'
        go_wp2_with fail
        refine Calls.mono (IHn.out y B b _ _ HY2.out A2.out.bld (by rw [List.length_append]; show _ + 1 + _ ≤ _; omega) (A2.out.size hB)) ?_
        rintro e w3 ⟨rfl, ha⟩
        have A3 := Lib.hid (A2.out.trans ha)
        have HR4 := Lib.hid (Fm.are.aft ha HR3.out)
        clear ha
        go_wp2_with fail
        go_roundw
        case rel => exact ⟨1, _, by omega, by go_num, by show _ = _; rw [← HI.out, S.out]; simp, A3, HR4⟩
        case measure => simp [intOf]; omega
      · have e0 : (sepL n).length = 2 := by unfold sepL; rw [if_neg hn0]; rfl
        have hmin : min (n : Int) 1 = 1 := by omega
        have r1' : (wr.alloc (.cells #[.string ⟨#[40]⟩, .string ⟨#[44, 32]⟩] 9)).cell? ⟨wr.heap.size, (min (n : Int) 1).toNat, none⟩ = some (.string ⟨#[44, 32]⟩) := by rw [hmin]; exact r1
        have m1 : (0 : Int) ≤ min (n : Int) 1 := by omega
        have m2 : min (n : Int) 1 < 2 := by omega
        clear hmin
        go_wp2_with fail
        refine Calls.mono (bwrite_aft B b t ⟨#[44, 32]⟩ _ AR2.out.bld (by show _ + 2 ≤ _; omega) (AR2.out.size hB)) ?_
        rintro e w2 ⟨rfl, ha⟩
        have A2 := Lib.hid (AR2.out.trans ha)
        have HY2 := Lib.hid (Fm.is.aft ha HY.out)
        have HR3 := Lib.hid (Fm.are.aft ha HR2.out)
        clear ha r0 r1 r1'
        go_wp2_with fail
        refine Calls.mono (IHn.out y B b _ _ HY2.out A2.out.bld (by rw [List.length_append]; show _ + 2 + _ ≤ _; omega) (A2.out.size hB)) ?_
        rintro e w3 ⟨rfl, ha⟩
        have A3 := Lib.hid (A2.out.trans ha)
        have HR4 := Lib.hid (Fm.are.aft ha HR3.out)
        clear ha
        go_wp2_with fail
        go_roundw
        case rel => exact ⟨n + 1, _, by omega, by go_num, by show _ = _; rw [← HI.out, S.out, if_neg hn0]; simp, A3, HR4⟩
        case measure => simp [intOf]; omega
    · have hz : ks.drop n = [] := List.drop_of_length_le (by omega)
      have HF : Hid (t = l ++ h.data.toList ++ Fm.texts true ks) := by
        show _ = _
        have := HI.out
        rw [hz, Fm.texts, List.append_nil] at this
        exact this
      go_wp2_with fail
      refine Calls.mono (bwrite_aft B b t ⟨#[41]⟩ _ AR.out.bld (by show _ + 1 ≤ _; omega) (AR.out.size hB)) ?_
      rintro e w2 ⟨rfl, ha⟩
      have A2 := Lib.hid (AR.out.trans ha)
      clear ha
      go_wp2_with fail
      refine bodyPost_end (results_none rfl _ _ _) rfl ?_
      exact ⟨rfl, by rw [E.out, ← HF.out]; exact A2.out⟩

theorem writes' (N : Nat) : ∀ f : Fm, SizeOf.sizeOf f < N → Writes f := by
  induction N with
  | zero => intro f h; omega
  | succ N ih =>
  intro f h
  cases f with
  | leaf s => exact wleaf_any s
  | called hd ks => exact wcalled_any hd ks fun n hn => ih _ (fmkid_size hn h)
  | unary s k => exact wunary_any s k (ih s (by simp only [Fm.unary.sizeOf_spec] at h; omega)) (ih k (by simp only [Fm.unary.sizeOf_spec] at h; omega))
  | binary a s k => exact wbinary_any a s k (ih a (by simp only [Fm.binary.sizeOf_spec] at h; omega)) (ih s (by simp only [Fm.binary.sizeOf_spec] at h; omega)) (ih k (by simp only [Fm.binary.sizeOf_spec] at h; omega))
  | choice a s k => exact wchoice_any a s k (ih a (by simp only [Fm.choice.sizeOf_spec] at h; omega)) (ih s (by simp only [Fm.choice.sizeOf_spec] at h; omega)) (ih k (by simp only [Fm.choice.sizeOf_spec] at h; omega))
/-- whatever form: its method writes its text -/
theorem writes (f : Fm) : Writes f := writes' _ f (Nat.lt_succ_self _)

end Go.Proofs.YtcndknkdhlmdnaaGreatDoor
