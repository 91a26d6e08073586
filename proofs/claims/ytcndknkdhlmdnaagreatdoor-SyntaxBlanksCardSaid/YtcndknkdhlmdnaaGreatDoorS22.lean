/-
  Texts that the statements' proofs rest on, one behind another: SxX, DoorZ, DoorS, ScA, ScB.
-/
import Derived.Test.YtcndknkdhlmdnaaGreatDoorS21
import Derived.Test.YtcndknkdhlmdnaaGreatDoorS09
import Derived.Deep.DeepHandedRow
import Derived.Lay
import Derived.Test.YtcndknkdhlmdnaaGreatDoorS06
import Derived.Test.YtcndknkdhlmdnaaGreatDoorS12
import Derived.Lib.SlBytesConst
import Derived.Test.YtcndknkdhlmdnaaGreatDoorS18
import Derived.Deep.QuietTactic
import Derived.BigQuiet

/-
  The program's Expr and Module, over the scanner's contract.
-/
namespace Go.Proofs.YtcndknkdhlmdnaaGreatDoor
open Go.RowKit
set_option maxRecDepth 100000

theorem node_ret {P g cap : Nat} {ts : List Tk} {t : Nd} {a : Option Addr} {cp : Nat} {r : List Tk} {w W2 w3 : World} (hs : SQ P g cap ts 0 r w3) (hg2 : w.grownBy W2 (some P)) (hlt : w.heap.size < W2.heap.size) (hg : W2.grownBy w3 (some P)) (hl : t.lies (Fr W2.heap.size w3.heap.size) w3 a cp) (hb : P < w.heap.size ∧ g < w.heap.size) :
    NQ P g cap ts (.ok (t, r)) w (.returned (t.val a cp)) (put5 w3 w.heap.size t a cp) := by
  refine ⟨a, cp, rfl, hs.keeps ((KeepsV.refl _ _).put (fun c hc e => by rcases hc with rfl | rfl <;> omega) t a cp) (by rw [size_put]; exact Nat.le_refl _), grown_put (grown_trans hg2 hg) (Nat.le_refl _) t a cp, ?_⟩
  refine lies_move hl ((KeepsV.refl _ _).put (fun c hc e => by have := hc.1; omega) t a cp) fun c hc => ⟨by have := hc.1; omega, ?_⟩
  rw [size_put]
  exact hc.2
theorem treeQ_put {t : Nd} {a : Option Addr} {cp : Nat} {f k : Int} {x : Except (Int × Int) Nd} {w W1 W2 : World} (hx : match x with
    | .ok u => u = t ∧ f = 0 ∧ k = 0 ∧ t.lies (Fr W1.heap.size W2.heap.size) W2 a cp
    | .error (c, p) => k = c ∧ f = p ∧ t = nd0 ∧ a = none ∧ cp = 0) (hb : Below w.heap.size w W2) (hlt : w.heap.size < W1.heap.size) :
    TreeQ x w (.returned (.tuple #[t.val a cp, .int .i64 f, .int .i64 k])) (put5 W2 w.heap.size t a cp) := by
  refine ⟨t, a, cp, f, k, rfl, below_grownP (P := w.heap.size) (grown_put (grown_of hb) (Nat.le_refl _) t a cp) (Nat.le_refl _), ?_⟩
  match x, hx with
  | .ok u, hx =>
    refine ⟨hx.1, hx.2.1, hx.2.2.1, lies_move hx.2.2.2 ((KeepsV.refl _ _).put (fun k hk e => by have := hk.1; omega) t a cp) fun k hk => ⟨by have := hk.1; omega, ?_⟩⟩
    rw [size_put]
    exact hk.2
  | .error (c, p), hx => exact hx
set_option maxHeartbeats 4000000 in
theorem qsub_any (P g cap : Nat) (ts : List Tk) (w : World) (he : Ends ts) (htk : ∀ t ∈ ts, TkOk t) (h : SQ P g cap ts 0 ts w) :
    Calls Tryz.prog 54 #[.pointer (some ⟨P, 0, none⟩)] w (NQ P g cap ts (rd .expr 0 ts) w) := by
  have HB := Lib.hid h.blocks
  obtain ⟨W2, hW2⟩ : ∃ W, W = w.alloc (.cells #[.int .i64 0, .string ⟨#[]⟩, .int .i64 0, .slice none 0 0, .int .i64 0] 24) := ⟨_, rfl⟩
  have B2 := Lib.hid (show Below w.heap.size w W2 from hW2 ▸ nbelow1 _ _)
  have Z2 := Lib.hid (show NBox w.heap.size nd0 none 0 W2 from hW2 ▸ NBox.make w nd0 none 0)
  have C := Lib.hid (qexpr_all P g cap ts he htk ts 0 W2 (by decide) (h.below B2.out))
  generalize rd .expr 0 ts = x at C
  clear h he htk
  go_enter Tryz.func54, Tryz.ntmps54
  go_upto_region 1 with fail
  rw [← hW2]
  clear hW2
  go_wp2_with fail
  (with_reducible refine Calls.mono C.out ?_)
  intro e w3 hq
  cases x with
  | error q =>
    obtain ⟨k, p⟩ := q
    obtain ⟨rfl, hg⟩ := hq
    refine And.intro rfl ?_
    exact ⟨rfl, grown_trans (grown_of B2.out) hg⟩
  | ok q =>
    obtain ⟨t, r⟩ := q
    obtain ⟨a, cp, rfl, hs, hg, hl, -⟩ := hq
    have Z3 := Lib.hid (Z2.out.grown hg (by have := HB.out; omega))
    have HS := Lib.hid hs
    have HG := Lib.hid hg
    have HL := Lib.hid hl
    obtain ⟨⟨z0, z1, z2, z3, z4⟩, ⟨f0, f1, f2, f3, f4⟩⟩ := Z3.out.cells
    have hzl := Z3.out.lt
    have htr := qtr_node t a cp
    clear hs hg hl C
    unfold trV
    go_wp2_with fail
    refine bodyPost_ret (v := t.val a cp) (by simp [results, Tryz.results54, go_sem, Nd.val, z0, z1, z2, z3, z4]) rfl ?_
    exact node_ret HS.out (grown_of B2.out) Z2.out.lt HG.out HL.out ⟨HB.out.1, HB.out.2.1⟩
/-- the scanner's contract -/
def ScanAll : Prop := ∀ (s : ByteArray) (w : World), s.size ≤ maxLen → TabS w → Calls Tryz.prog 77 #[.string s] w (ScanQ (scanT s.data.toList) w)
theorem qenter_sub (args : Array Value) (w : World) : (callFunc 54 args).run Tryz.prog w = .ok (.enter 54 args) w := by kernel_rfl
theorem qenter_mod (args : Array Value) (w : World) : (callFunc 57 args).run Tryz.prog w = .ok (.enter 57 args) w := by kernel_rfl
theorem exprR_eq (l : List UInt8) : exprR l = readR (rd .expr 0) l := rfl
def moduleR (l : List UInt8) : Except (Int × Int) Nd := readR modR l
set_option maxHeartbeats 4000000 in
theorem qExpr_any (hS : ScanAll) (s : ByteArray) (w : World) (hs : s.size ≤ maxLen) (ht : TabS w) :
    Calls Tryz.prog 27 #[.string s] w (TreeQ (exprR s.data.toList) w) := by
  obtain ⟨W2, hW2⟩ : ∃ W, W = w.alloc (.cells #[.int .i64 0, .string ⟨#[]⟩, .int .i64 0, .slice none 0 0, .int .i64 0] 24) := ⟨_, rfl⟩
  have B2 := Lib.hid (show Below w.heap.size w W2 from hW2 ▸ nbelow1 _ _)
  have Z2 := Lib.hid (show NBox w.heap.size nd0 none 0 W2 from hW2 ▸ NBox.make w nd0 none 0)
  have C := Lib.hid (qread_any 54 (rd .expr 0) qenter_sub (fun P g cap ts w he htk h => qsub_any P g cap ts w he htk h) hS s W2 hs (ht.below B2.out))
  rw [← exprR_eq] at C
  generalize exprR s.data.toList = x at C
  clear hS ht
  go_enter Tryz.func27, Tryz.ntmps27
  go_upto_region 1 with fail
  rw [← hW2]
  clear hW2
  go_wp2_with fail
  (with_reducible refine Calls.mono C.out ?_)
  rintro e w3 ⟨t, a, cp, f, k, rfl, hb, hx⟩
  have HX := Lib.hid hx
  have HBl := Lib.hid (B2.out.trans (hb.mono B2.out.size))
  obtain ⟨⟨z0, z1, z2, z3, z4⟩, ⟨f0, f1, f2, f3, f4⟩⟩ := (Z2.out.below hb).cells
  have hzl := (Z2.out.below hb).lt
  clear hx hb C
  unfold Nd.val
  go_wp2_with fail
  refine bodyPost_ret (v := .tuple #[t.val a cp, .int .i64 f, .int .i64 k]) (by simp [results, Tryz.results27, go_sem, Nd.val, z0, z1, z2, z3, z4]) rfl ?_
  exact treeQ_put (W1 := W2) HX.out HBl.out Z2.out.lt
set_option maxHeartbeats 4000000 in
theorem qModule_any (hS : ScanAll) (s : ByteArray) (w : World) (hs : s.size ≤ maxLen) (ht : TabS w) :
    Calls Tryz.prog 32 #[.string s] w (TreeQ (moduleR s.data.toList) w) := by
  obtain ⟨W2, hW2⟩ : ∃ W, W = w.alloc (.cells #[.int .i64 0, .string ⟨#[]⟩, .int .i64 0, .slice none 0 0, .int .i64 0] 24) := ⟨_, rfl⟩
  have B2 := Lib.hid (show Below w.heap.size w W2 from hW2 ▸ nbelow1 _ _)
  have Z2 := Lib.hid (show NBox w.heap.size nd0 none 0 W2 from hW2 ▸ NBox.make w nd0 none 0)
  have C := Lib.hid (qread_any 57 modR qenter_mod (fun P g cap ts w he htk h => qmodule_any P g cap ts he htk ts w h) hS s W2 hs (ht.below B2.out))
  rw [show readR modR s.data.toList = moduleR s.data.toList from rfl] at C
  generalize moduleR s.data.toList = x at C
  clear hS ht
  go_enter Tryz.func32, Tryz.ntmps32
  go_upto_region 1 with fail
  rw [← hW2]
  clear hW2
  go_wp2_with fail
  (with_reducible refine Calls.mono C.out ?_)
  rintro e w3 ⟨t, a, cp, f, k, rfl, hb, hx⟩
  have HX := Lib.hid hx
  have HBl := Lib.hid (B2.out.trans (hb.mono B2.out.size))
  obtain ⟨⟨z0, z1, z2, z3, z4⟩, ⟨f0, f1, f2, f3, f4⟩⟩ := (Z2.out.below hb).cells
  have hzl := (Z2.out.below hb).lt
  clear hx hb C
  unfold Nd.val
  go_wp2_with fail
  refine bodyPost_ret (v := .tuple #[t.val a cp, .int .i64 f, .int .i64 k]) (by simp [results, Tryz.results32, go_sem, Nd.val, z0, z1, z2, z3, z4]) rfl ?_
  exact treeQ_put (W1 := W2) HX.out HBl.out Z2.out.lt
end Go.Proofs.YtcndknkdhlmdnaaGreatDoor

/-
  Witnesses in a world in which pointers are laid; the reach of a string; the table of blanks.
-/
namespace Go.Proofs.YtcndknkdhlmdnaaGreatDoor
open Go.ChangeShapes Go.WideShapes Go.ChangeAt Go.RowKit
set_option maxRecDepth 100000

theorem witness_row_zip {H : Type} {enc : TypeId × Value → H} {C : Checked} {os : Os} {f : FuncId} {fn : Func} {s : OpenSpec} {conds : List PathCond} {apart : Bool} {laid : List (String × DataW Unit)} (modest : Bool) (w0 : World) (args : Array Value) (hos : w0.os = os)
    (hv : (w0.forCall (fun _ _ => 0) ⟨#[], args, []⟩).variablesZipB C.prog = true)
    (hr : ((w0.forCall (fun _ _ => 0) ⟨#[], args, []⟩).heap.toList.drop C.prog.globals.size).take ((begin C.prog (fun _ _ => 0) default).world.heap.size - C.prog.globals.size) =
      (begin C.prog (fun _ _ => 0) default).world.heap.toList.drop C.prog.globals.size)
    (hok : Input.okWideB C.prog (w0.forCall (fun _ _ => 0) ⟨#[], args, []⟩) f ⟨#[], args, []⟩ = true)
    (hrow : s.preRow enc C.prog fn conds apart laid (w0.forCall (fun _ _ => 0) ⟨#[], args, []⟩).memory args) :
    ∃ (w : World) (tape : Tape) (i : Input), w.os = os ∧ (w.forCall tape i).Shaped C.prog ∧ i.vars = [] ∧ Input.okWide C.prog (w.forCall tape i) .any w.heap.size f i ∧
      s.preRow enc C.prog fn conds apart laid (w.forCall tape i).memory i.args ∧ ({ modest := modest } : Assume).holds C.prog (lone (Frame.enter C.prog f i.args .normal) [] (w.forCall tape i)) :=
  ⟨w0, fun _ _ => 0, ⟨#[], args, []⟩, hos, World.shaped_of_ZipB hv hr, (Input.okWide_of_okWideB (base := 0) hok).1, (Input.okWide_of_okWideB hok).2, hrow, by
    simp only [Assume.holds]
    exact ⟨by simp, by simp, fun _ => Modest.zero, by simp, by simp⟩⟩
theorem string_sized {H : Type} (s : ByteArray) (h : ((DataW.lit (.string s.data.toList) : DataW H).weights Tryz.prog 9).all (· ≤ reachBytes) = true) : s.size ≤ 140737488355328 := by
  rw [DataW.weights, List.all_cons, Bool.and_eq_true, decide_eq_true_eq] at h
  have h1 : s.data.toList.length = s.size := Array.length_toList
  have h2 := h.1
  unfold reachBytes at h2
  omega
theorem gSpace : Tryz.prog.globalNamed "strings.asciiSpace" = some 1 := by kernel_rfl
theorem gSpaceType : (Tryz.prog.globals[1]?).map (·.type) = some 163 := by kernel_rfl
theorem gSpaceU : Tryz.prog.underlying 163 = some (.array 256 5) := by kernel_rfl
theorem u8U : Tryz.prog.underlying 5 = some (.int .u8) := by kernel_rfl
theorem u8C : Tryz.prog.cellsOf 5 = 1 := by kernel_rfl
theorem gSpaceC : Tryz.prog.cellsOf 163 = 256 := by kernel_rfl
end Go.Proofs.YtcndknkdhlmdnaaGreatDoor

/-
  The list of variables that a given row bears, and a world that holds it (for the witness).
-/
namespace Go.Proofs.YtcndknkdhlmdnaaGreatDoor
open Go.ChangeShapes Go.WideShapes Go.ChangeAt Go.RowKit
set_option maxRecDepth 100000

def laidsS : List (String × DataW Unit) := [("unicode/utf8.acceptRanges", Rows.laid_unicode_utf8_acceptRanges), ("unicode.White_Space", Rows.laid_unicode_White_Space), ("strings.asciiSpace", Rows.laid_strings_asciiSpace), ("unicode/utf8.first", Rows.laid_unicode_utf8_first)]
noncomputable def laidWorldS (os : Os) : World := World.laidAll Tryz.prog os laidsS
theorem tabS_ofS {W : World} (h : laidMetH Tryz.prog laidsS W) : TabS W := by
  have h' : laidMet Tryz.prog laidsS W := h
  exact Lib.tabIs_of_head gSpace gSpaceType gSpaceU u8U u8C gSpaceC h'.tail.tail
end Go.Proofs.YtcndknkdhlmdnaaGreatDoor

/-
  The program's scanner: what it holds in memory; a date's form.
-/
namespace Go.Proofs.YtcndknkdhlmdnaaGreatDoor
open Go.RowKit
set_option maxRecDepth 100000

/-- the scanner: its text, its place, its keywords, its tokens -/
structure SC (X M : Nat) (s : ByteArray) (a : Nat) (ts : List Tk) (W : World) : Prop where
  lt : M < X ∧ X < W.heap.size
  ex : ∃ ao cp, W.heap[X]? = some (.cells #[.string s, .int .i64 a, .map (some M), .slice ao ts.length cp, .pointer none] 129 (0, 0)) ∧ W.ownsRow (X + 1) 96 4 (.slice ao ts.length cp) ts.length (tksCells ts)
  keys : Keys13 M 13 W
section
variable {X M a : Nat} {s : ByteArray} {ts : List Tk} {W W' : World}
theorem SC.below (h : SC X M s a ts W) (hb : Below W.heap.size W W') : SC X M s a ts W' := by
  obtain ⟨ao, cp, h1, h2⟩ := h.ex
  exact ⟨⟨h.lt.1, Nat.lt_of_lt_of_le h.lt.2 hb.size⟩, ⟨ao, cp, (hb.block X h.lt.2).trans h1, own_below h2 hb⟩, h.keys.below hb (by have := h.lt; omega)⟩
theorem SC.sb (h : SC X M s a ts W) : SB X s a W := by
  obtain ⟨ao, cp, h1, -⟩ := h.ex
  exact ⟨by simp [World.cell?, h1], by simp [World.cell?, h1]⟩
theorem SB.below (h : SB X s a W) (hb : Below W.heap.size W W') : SB X s a W' := by
  have hlt : X < W.heap.size := by
    rcases Nat.lt_or_ge X W.heap.size with h' | h'
    · exact h'
    · have := h.1
      simp [World.cell?, Array.getElem?_eq_none h'] at this
  exact ⟨(hb.cell (p := ⟨X, 0, none⟩) hlt).trans h.1, (hb.cell (p := ⟨X, 1, none⟩) hlt).trans h.2⟩
end

theorem pat_step (b : Bool) (P : List Bool) (u : List UInt8) : patF (b :: P) u = ((if b = true then dgC (u.headD 0) else u.headD 0 == 45) && patF P (u.drop 1)) := by
  cases u with
  | nil => cases b <;> rfl
  | cons c u => rfl
theorem form_cell (w : World) (T : TypeId) : ∀ (k : Nat) (hk : k < datePat.length), (w.alloc (.cells #[.int .u8 48, .int .u8 48, .int .u8 48, .int .u8 48, .int .u8 45, .int .u8 48, .int .u8 48, .int .u8 45, .int .u8 48, .int .u8 48] T (10, 11))).cell? ⟨w.heap.size, k, none⟩ = some (.int .u8 (if datePat[k] = true then 48 else 45)) := by
  have h : (w.alloc (.cells #[.int .u8 48, .int .u8 48, .int .u8 48, .int .u8 48, .int .u8 45, .int .u8 48, .int .u8 48, .int .u8 45, .int .u8 48, .int .u8 48] T (10, 11))).heap[w.heap.size]? = some (.cells #[.int .u8 48, .int .u8 48, .int .u8 48, .int .u8 48, .int .u8 45, .int .u8 48, .int .u8 48, .int .u8 45, .int .u8 48, .int .u8 48] T (10, 11)) := by show (w.heap.push _)[w.heap.size]? = _; simp
  intro k hk
  rw [Lib.cell_of_heap h]
  match k, hk with
  | 0, _ => rfl
  | 1, _ => rfl
  | 2, _ => rfl
  | 3, _ => rfl
  | 4, _ => rfl
  | 5, _ => rfl
  | 6, _ => rfl
  | 7, _ => rfl
  | 8, _ => rfl
  | 9, _ => rfl
set_option maxHeartbeats 2000000 in
theorem qdate_any (X : Nat) (s : ByteArray) (a : Nat) (w : World) (h : SB X s a w) (ha : a ≤ 16384) :
    Calls Tryz.prog 178 #[.pointer (some ⟨X, 0, none⟩)] w fun e w' => e = .returned (.bool (dateAt (s.data.toList.drop a))) ∧ Below w.heap.size w w' := by
  rw [date_pat]
  obtain ⟨l, hl⟩ : ∃ l, l = s.data.toList.drop a := ⟨_, rfl⟩
  rw [← hl]
  have HC := Lib.hid (show ∀ (k : Nat) (v : World), SB X s a v → Calls Tryz.prog 177 #[.pointer (some ⟨X, 0, none⟩), .int .i64 ((a : Int) + k)] v fun e w' => e = .returned (.int .u8 ((l.drop k).headD 0).toNat) ∧ v = w' from fun k v hv => by
    rw [hl, List.drop_drop, show ((a : Int) + k) = ((a + k : Nat) : Int) by omega]
    exact qbyteAt_any X s a (a + k) v hv)
  have HF := Lib.hid (form_cell w 5)
  have HB := Lib.hid (nbelow1 w (.cells #[.int .u8 48, .int .u8 48, .int .u8 48, .int .u8 48, .int .u8 45, .int .u8 48, .int .u8 48, .int .u8 45, .int .u8 48, .int .u8 48] 5 (10, 11)))
  have HS := Lib.hid (h.below HB.out)
  have hz : w.heap.size < (w.alloc (.cells #[.int .u8 48, .int .u8 48, .int .u8 48, .int .u8 48, .int .u8 45, .int .u8 48, .int .u8 48, .int .u8 45, .int .u8 48, .int .u8 48] 5 (10, 11))).heap.size := by simp
  have kc := fun (w : World) (C : Array Value) (n c : Nat) => Lib.run_convert_bytes_const (P := Tryz.prog) w 46 5 C n c Tryz.underlying46 Tryz.underlying5
  clear hl h
  go_enter Tryz.func178, Tryz.ntmps178
  go_wp2_with fail
  clear kc
  generalize w.alloc _ = W1 at HF HB HS hz ⊢
  obtain ⟨h0, h1⟩ := HS.out
  go_loop [9] (fun i => ∃ k : Nat, k ≤ 10 ∧ i = .int .i64 k ∧ Hid (patF datePat l = patF (datePat.drop k) (l.drop k))) (fun i => 10 - (intOf i).toNat)
  case atStart => exact ⟨0, by omega, rfl, rfl⟩
  case round =>
    obtain ⟨k, hk, rfl, HI⟩ := hrel
    by_cases hlt : k < 10
    · have c0 := HF.out k hlt
      have ST := Lib.hid (show patF (datePat.drop k) (l.drop k) = ((if datePat[k]'hlt = true then dgC ((l.drop k).headD 0) else (l.drop k).headD 0 == 45) && patF (datePat.drop (k + 1)) (l.drop (k + 1))) by
        rw [show datePat.drop k = datePat[k]'hlt :: datePat.drop (k + 1) from List.drop_eq_getElem_cons hlt, pat_step, List.drop_drop])
      have C := Lib.hid (HC.out k W1 HS.out)
      generalize (l.drop k).headD 0 = c at C ST
      generalize datePat[k]'hlt = b at c0 ST
      have HD := Lib.hid (dgC_I c)
      cases b
      · replace c0 : W1.cell? ⟨w.heap.size, k, none⟩ = some (.int .u8 45) := c0
        by_cases h45 : (c.toNat : Int) = 45
        · have q1 : ((c.toNat : Int) != 45) = false := by rw [h45]; rfl
          have N := Lib.hid (show patF datePat l = patF (datePat.drop (k + 1)) (l.drop (k + 1)) by
            rw [HI.out, ST.out, if_neg (by decide), show (c == 45) = true by rw [beq_iff_eq]; exact UInt8.toNat_inj.1 (Int.ofNat.inj h45), Bool.true_and])
          clear h45
          go_wp2_with (first | ((with_reducible refine Calls.mono C.out ?_); rintro e w1 ⟨rfl, rfl⟩))
          go_round
          case rel => exact ⟨k + 1, by omega, by go_num, N⟩
          case measure => simp [intOf]; omega
        · have q1 : ((c.toNat : Int) != 45) = true := by rw [bne_iff_ne]; exact h45
          have N := Lib.hid (show patF datePat l = false by
            rw [HI.out, ST.out, if_neg (by decide), show (c == 45) = false by rw [beq_eq_false_iff_ne]; intro e; exact h45 (by rw [e]; rfl)]; rfl)
          clear h45
          go_wp2_with (first | ((with_reducible refine Calls.mono C.out ?_); rintro e w1 ⟨rfl, rfl⟩))
          go_ret
          exact ⟨rretB N.out.symm, HB.out⟩
      · replace c0 : W1.cell? ⟨w.heap.size, k, none⟩ = some (.int .u8 48) := c0
        cases hd : dgI c.toNat
        · have N := Lib.hid (show patF datePat l = false by rw [HI.out, ST.out, if_pos rfl, HD.out, hd]; rfl)
          go_wp2_with (first | ((with_reducible refine Calls.mono C.out ?_); rintro e w1 ⟨rfl, rfl⟩) | (go_at_call 148; refine (qdigit_any _ _).mono ?_; rintro e w' ⟨rfl, rfl⟩; rw [hd]))
          go_ret
          exact ⟨rretB N.out.symm, HB.out⟩
        · have N := Lib.hid (show patF datePat l = patF (datePat.drop (k + 1)) (l.drop (k + 1)) by rw [HI.out, ST.out, if_pos rfl, HD.out, hd, Bool.true_and])
          go_wp2_with (first | ((with_reducible refine Calls.mono C.out ?_); rintro e w1 ⟨rfl, rfl⟩) | (go_at_call 148; refine (qdigit_any _ _).mono ?_; rintro e w' ⟨rfl, rfl⟩; rw [hd]))
          go_round
          case rel => exact ⟨k + 1, by omega, by go_num, N⟩
          case measure => simp [intOf]; omega
    · obtain rfl : k = 10 := by omega
      have C := Lib.hid (HC.out 10 W1 HS.out)
      have N := Lib.hid (show patF datePat l = !dgI ((l.drop 10).headD 0).toNat by rw [HI.out, ← dgC_I]; rfl)
      generalize (l.drop 10).headD 0 = c at C N
      go_wp2_with (first | ((with_reducible refine Calls.mono C.out ?_); rintro e w1 ⟨rfl, rfl⟩) | (go_at_call 148; refine (qdigit_any _ _).mono ?_; rintro e w' ⟨rfl, rfl⟩))
      go_ret
      exact ⟨rretB N.out.symm, HB.out⟩
/-- one token more -/
theorem sc_append {X M a gb cap' : Nat} {s : ByteArray} {ts : List Tk} {t : Tk} {ao : Option Addr} {cp : Nat} {W W5 w6 : World} (hMX : M < X) (hXW : X < W.heap.size)
    (hO : W.ownsRow (X + 1) 96 4 (.slice ao ts.length cp) ts.length (tksCells ts)) (hK : Keys13 M 13 W) (hB : Below W.heap.size W W5)
    (hX6 : w6.heap[X]? = some (.cells #[.string s, .int .i64 a, .map (some M), .slice ao ts.length cp, .pointer none] 129 (0, 0)))
    (hO6 : w6.ownsRow (X + 1) 96 4 (.slice (some ⟨gb, 0, none⟩) (ts.length + 1) cap') (ts.length + 1) (tksCells ts ++ tkCells t)) (hG : W5.grownBy w6 (Value.slice ao ts.length cp).ownBlock) :
    SC X M s a (ts ++ [t]) (w6.setCell ⟨X, 3, none⟩ (.slice (some ⟨gb, 0, none⟩) (ts.length + 1) cap')) ∧ Below X W (w6.setCell ⟨X, 3, none⟩ (.slice (some ⟨gb, 0, none⟩) (ts.length + 1) cap')) := by
  have h5 := hB.size
  have h6 := hG.size
  have hlow : ∀ d, d < X → (w6.setCell ⟨X, 3, none⟩ (.slice (some ⟨gb, 0, none⟩) (ts.length + 1) cap')).heap[d]? = W.heap[d]? := fun d hd =>
    (Below.heap_setCell _ _ _ _ (by show d ≠ X; omega)).trans ((hG.block d (by omega) (fun e => by have := (hO.lt d e.symm).1; omega)).trans (hB.block d (by omega)))
  have hgb := hO6.lt gb rfl
  have el : (ts ++ [t]).length = ts.length + 1 := by rw [List.length_append]; rfl
  refine ⟨⟨⟨hMX, by simp [World.setCell]; omega⟩, ⟨some ⟨gb, 0, none⟩, cap', ?_, ?_⟩, ?_⟩, ?_⟩
  · rw [el]; exact heap_set hX6 3 _
  · rw [el, tks_snoc]; exact own_heap hO6 (Below.heap_setCell _ _ _ _ (by show gb ≠ X; omega))
  · obtain ⟨es, clock, k1, k2, k3, k4⟩ := hK
    exact ⟨es, clock, (hlow M hMX).trans k1, k2, k3, k4⟩
  · have hS := grown_set w6 X 3 (.slice (some ⟨gb, 0, none⟩) (ts.length + 1) cap')
    exact ⟨hS.os.trans (hG.os.trans hB.os), hS.tape.trans (hG.tape.trans hB.tape), hS.output.trans (hG.output.trans hB.output), by simp [World.setCell]; omega, fun d hd => hlow d hd⟩
/-- what a reading of a token hands back -/
def TokQ (X M : Nat) (s : ByteArray) (a : Nat) (ts : List Tk) (r : Except Int (Tk × Nat)) (w : World) (e : Ending) (w' : World) : Prop :=
  Below X w w' ∧ match r with
    | .ok (t, n) => e = .returned (.tuple #[.int .i64 n, .int .i64 0]) ∧ SC X M s a (ts ++ [t]) w'
    | .error c => c ≠ 0 ∧ ∃ (n : Int) (ts' : List Tk), e = .returned (.tuple #[.int .i64 n, .int .i64 c]) ∧ SC X M s a ts' w'
theorem tokQ_ok {X M a m : Nat} {s : ByteArray} {ts : List Tk} {r : Except Int (Tk × Nat)} {t u : Tk} {n : Int} {w w' : World} (h : r = .ok (t, m)) (hb : Below X w w') (hn : n = m) (hu : u = t) (hs : SC X M s a (ts ++ [u]) w') : TokQ X M s a ts r w (.returned (.tuple #[.int .i64 n, .int .i64 0])) w' := by
  subst h hn hu; exact ⟨hb, rfl, hs⟩
theorem tokQ_err {X M a : Nat} {s : ByteArray} {ts ts' : List Tk} {r : Except Int (Tk × Nat)} {c n : Int} {w w' : World} (h : r = .error c) (hc : c ≠ 0) (hb : Below X w w') (hs : SC X M s a ts' w') : TokQ X M s a ts r w (.returned (.tuple #[.int .i64 n, .int .i64 c])) w' := by
  subst h; exact ⟨hb, hc, n, ts', rfl, hs⟩
end Go.Proofs.YtcndknkdhlmdnaaGreatDoor

/-
  The program's scanner: strings.
-/
namespace Go.Proofs.YtcndknkdhlmdnaaGreatDoor
open Go.RowKit
set_option maxRecDepth 100000

theorem while_take (p : UInt8 → Bool) : ∀ (l : List UInt8) (n : Nat), (l.take n).takeWhile p = (l.takeWhile p).take n
  | [], n => by simp
  | a :: l, 0 => by simp
  | a :: l, n + 1 => by
    rw [List.take_succ_cons, List.takeWhile_cons, List.takeWhile_cons]
    cases p a with
    | true => simp only [if_true, List.take_succ_cons, while_take p l n]
    | false => simp
theorem while_stop (p : UInt8 → Bool) : ∀ (l : List UInt8) (n : Nat), n < l.length → p ((l.drop n).headD 0) = false → (l.takeWhile p).length ≤ n
  | [], n, h, _ => by simp at h
  | a :: l, 0, _, h => by rw [List.drop_zero, List.headD_cons] at h; rw [List.takeWhile_cons, if_neg (by rw [h]; decide)]; exact Nat.le_refl _
  | a :: l, n + 1, hl, h => by
    rw [List.takeWhile_cons]
    split
    · rw [List.length_cons]; have := while_stop p l n (by rw [List.length_cons] at hl; omega) h; omega
    · simp
/-- are the bytes ahead of a sign a name? -/
theorem quote_name (r : List UInt8) : (r.drop (quoR r)).headD 0 = 34 → (nameL (r.take (quoR r)) = true ↔ quoR r ≠ 0 ∧ quoR r ≤ 24 ∧ spanL r = quoR r) := by
  intro h
  generalize hn : quoR r = n at h
  have hle : n ≤ r.length := by rw [← hn]; exact takeWhile_le quoC r
  have hlt : n < r.length := by
    rcases Nat.lt_or_ge n r.length with g | g
    · exact g
    · rw [List.drop_of_length_le g] at h; exact absurd h (by decide)
  have hlen : (r.take n).length = n := by rw [List.length_take]; omega
  have hw : (r.takeWhile inC).length ≤ n := while_stop inC r n hlt (by rw [h]; decide)
  rw [← nameR_eq]
  unfold nameR
  rw [hlen, Bool.and_eq_true, Bool.and_eq_true, decide_eq_true_eq, decide_eq_true_eq, decide_eq_true_eq]
  have hs : 0 < n → spanL (r.take n) = spanL r := fun h0 => by
    rw [span_of, span_of, while_take, List.length_take, Nat.min_eq_right hw]
    cases r with
    | nil => simp at hlt
    | cons a r =>
      obtain ⟨k, rfl⟩ : ∃ k, n = k + 1 := ⟨n - 1, by omega⟩
      rfl
  constructor
  · rintro ⟨⟨h0, h24⟩, e⟩
    rw [hs h0] at e
    exact ⟨by omega, h24, e⟩
  · rintro ⟨h0, h24, e⟩
    exact ⟨⟨by omega, h24⟩, by rw [hs (by omega)]; exact e⟩
set_option maxHeartbeats 8000000 in
theorem qstring_any (X M : Nat) (s : ByteArray) (a : Nat) (ts : List Tk) (w : World) (h : SC X M s a ts w) (hs : s.size ≤ 16384) (ha : a < s.size) (htl : ts.length ≤ 8192) :
    Calls Tryz.prog 150 #[.pointer (some ⟨X, 0, none⟩)] w (TokQ X M s a ts (quotS (s.data.toList.drop (a + 1)) a) w) := by
  have Q := Lib.hid (show quotS (s.data.toList.drop (a + 1)) a = if ((s.data.toList.drop (a + 1)).drop (quoR (s.data.toList.drop (a + 1)))).headD 0 ≠ 34 then .error 71
    else if nameL ((s.data.toList.drop (a + 1)).take (quoR (s.data.toList.drop (a + 1)))) = true then .ok (⟨7, (s.data.toList.drop (a + 1)).take (quoR (s.data.toList.drop (a + 1))), 0, a⟩, quoR (s.data.toList.drop (a + 1)) + 2) else .error 73 from rfl)
  have hqr : quoR (s.data.toList.drop (a + 1)) ≤ s.size - (a + 1) := by
    have := takeWhile_le quoC (s.data.toList.drop (a + 1))
    rwa [List.length_drop, size_list] at this
  have C1 := Lib.hid (qrun_quo X s a (a + 1) w h.sb hs (by omega))
  have CN := Lib.hid (fun (v : World) (hv : SB X s a v) => qname_any X s a (a + 1) v hv hs (by omega))
  have NT := Lib.hid (quote_name (s.data.toList.drop (a + 1)))
  rw [show ((a + 1 : Nat) : Int) = (a : Int) + 1 by omega] at C1 CN
  generalize hq : quoR (s.data.toList.drop (a + 1)) = n at Q C1 hqr NT
  have C2 := Lib.hid (fun (v : World) (hv : SB X s a v) => qbyteAt_any X s a (a + 1 + n) v hv)
  rw [← List.drop_drop, show ((a + 1 + n : Nat) : Int) = (a : Int) + 1 + n by omega] at C2
  generalize hc : ((s.data.toList.drop (a + 1)).drop n).headD 0 = c at C2 Q NT
  generalize hm : spanL (s.data.toList.drop (a + 1)) = m at CN NT
  obtain ⟨tx, htx, htx2⟩ : ∃ tx : List UInt8, s.extract (a + 1) (a + 1 + n) = ⟨tx.toArray⟩ ∧ tx = (s.data.toList.drop (a + 1)).take n := ⟨_, by rw [ext_eq, Nat.add_sub_cancel_left], rfl⟩
  rw [← htx2] at Q NT
  have HTX := Lib.hid htx
  have HS := Lib.hid h
  have HTL := Lib.hid htl
  obtain ⟨i0, hi, hz0, hz1, hz2⟩ := info_parts (show (Tryz.prog.info? 96).map (fun i => (i.zero, i.size, i.bytes)) = some (some (.agg #[.int .i64 0, .string ⟨#[]⟩, .int .i64 0, .int .i64 0]), 4, 40) by kernel_rfl)
  have HI0 := Lib.hid (show _ ∧ _ ∧ _ ∧ _ from ⟨hi, hz0, hz1, hz2⟩)
  clear hi hz0 hz1 hz2
  clear hq hc hm h htx htx2
  obtain ⟨hX0, hX1⟩ := HS.out.sb
  go_enter Tryz.func150, Tryz.ntmps150
  go_wp2_with fail
  (with_reducible refine Calls.mono C1.out ?_)
  rintro e w1 ⟨rfl, hw1⟩
  rw [← hw1]
  clear hw1 C1 w1
  go_upto_region 2 with fail
  go_quiet (fail)
  go_upto_region 3 with fail
  rw [HTX.out]
  obtain ⟨W1, hW1⟩ : ∃ W, W = w.drewN nq := ⟨_, rfl⟩
  have HS1 := Lib.hid (show SC X M s a ts W1 from hW1 ▸ HS.out.below (Go.Proofs.YtcndknkdhlmdnaaGreatDoor.below_drewN w nq))
  have BX1 := Lib.hid (show Below X w W1 from hW1 ▸ ((Go.Proofs.YtcndknkdhlmdnaaGreatDoor.below_drewN w nq).mono (Nat.le_of_lt HS.out.lt.2)))
  rw [← hW1]
  clear hW1 hX0 hX1
  obtain ⟨hMX, hXW⟩ := HS1.out.lt
  obtain ⟨ao, cp, hat0, how0⟩ := HS1.out.ex
  have HAT0 := Lib.hid hat0
  have HOW0 := Lib.hid how0
  have HKY0 := Lib.hid HS1.out.keys
  have HSI := Lib.hid (show (W1.cell? ⟨X, 3, none⟩ = some (.slice ao ts.length cp) ∧ W1.cell? ⟨X, 1, none⟩ = some (.int .i64 a) ∧ W1.cell? ⟨X, 0, none⟩ = some (.string s)) ∧ True from ⟨⟨by simp [World.cell?, hat0], by simp [World.cell?, hat0], by simp [World.cell?, hat0]⟩, trivial⟩)
  have HSB := Lib.hid (show ∀ vv : World, (∀ b, b < W1.heap.size → (Value.slice ao ts.length cp).ownBlock ≠ some b → vv.heap[b]? = W1.heap[b]?) → vv.cell? ⟨X, 3, none⟩ = some (.slice ao ts.length cp) ∧ vv.cell? ⟨X, 1, none⟩ = some (.int .i64 a) ∧ vv.cell? ⟨X, 0, none⟩ = some (.string s) from fun vv hv => by
    have hX : ∀ i, vv.cell? ⟨X, i, none⟩ = W1.cell? ⟨X, i, none⟩ := fun i => World.cell?_of_block (hv X hXW (fun e => by have := (how0.lt X e).1; omega))
    exact ⟨(hX 3).trans HSI.out.1.1, (hX 1).trans HSI.out.1.2.1, (hX 0).trans HSI.out.1.2.2⟩)
  clear hat0 how0
  refine wp_region_till (S := (fun cur : World => cur.cell? ⟨X, 3, none⟩ = some (.slice ao ts.length cp) ∧ cur.cell? ⟨X, 1, none⟩ = some (.int .i64 a) ∧ cur.cell? ⟨X, 0, none⟩ = some (.string s))) (z := 15) (by kernel_rfl) ?_ (fun hHeld => ?_)
  · exact HSB.out W1.drew (fun b _ _ => rfl)
  refine AnyTill.take (i := 0) (v := ?_) (op_at rfl) (by kernel_rfl) (by kernel_rfl) (by kernel_rfl) (by kernel_rfl) (fun _ _ _ h => h) (Or.inl ⟨by rfl, ?_⟩) (by assumption) ?_
  rotate_left
  · (intro w hSw; (try dsimp only at hSw); go_simp; try with_reducible rfl)
  try simp only [Act.put, List.setIfInBounds_toArray, List.set_cons_zero, List.set_cons_succ]
  refine AnyTill.take (i := 1) (v := ?_) (op_at rfl) (by kernel_rfl) (by kernel_rfl) (by kernel_rfl) (by kernel_rfl) (fun _ _ _ h => h) (Or.inl ⟨by rfl, ?_⟩) (by assumption) ?_
  rotate_left
  · (intro w hSw; (try dsimp only at hSw); go_simp; try with_reducible rfl)
  try simp only [Act.put, List.setIfInBounds_toArray, List.set_cons_zero, List.set_cons_succ]
  refine AnyTill.take (i := 2) (v := ?_) (op_at rfl) (by kernel_rfl) (by kernel_rfl) (by kernel_rfl) (by kernel_rfl) (fun _ _ _ h => h) (Or.inl ⟨by rfl, ?_⟩) (by assumption) ?_
  rotate_left
  · (intro w hSw; (try dsimp only at hSw); go_simp; try with_reducible rfl)
  try simp only [Act.put, List.setIfInBounds_toArray, List.set_cons_zero, List.set_cons_succ]
  refine AnyTill.take (i := 3) (v := ?_) (op_at rfl) (by kernel_rfl) (by kernel_rfl) (by kernel_rfl) (by kernel_rfl) (fun _ _ _ h => h) (Or.inl ⟨by rfl, ?_⟩) (by assumption) ?_
  rotate_left
  · (intro w hSw; (try dsimp only at hSw); go_simp; try with_reducible rfl)
  try simp only [Act.put, List.setIfInBounds_toArray, List.set_cons_zero, List.set_cons_succ]
  refine AnyTill.take (i := 4) (v := ?_) (op_at rfl) (by kernel_rfl) (by kernel_rfl) (by kernel_rfl) (by kernel_rfl) (fun _ _ _ h => h) (Or.inl ⟨by rfl, ?_⟩) (by assumption) ?_
  rotate_left
  · (intro w hSw; (try dsimp only at hSw); go_simp; try with_reducible rfl)
  try simp only [Act.put, List.setIfInBounds_toArray, List.set_cons_zero, List.set_cons_succ]
  refine AnyTill.take (i := 5) (v := ?_) (op_at rfl) (by kernel_rfl) (by kernel_rfl) (by kernel_rfl) (by kernel_rfl) (fun _ _ _ h => h) (Or.inl ⟨by rfl, ?_⟩) (by assumption) ?_
  rotate_left
  · (intro w hSw; (try dsimp only at hSw); go_simp; try with_reducible rfl)
  try simp only [Act.put, List.setIfInBounds_toArray, List.set_cons_zero, List.set_cons_succ]
  refine AnyTill.take (i := 6) (v := ?_) (op_at rfl) (by kernel_rfl) (by kernel_rfl) (by kernel_rfl) (by kernel_rfl) (fun _ _ _ h => h) (Or.inl ⟨by rfl, ?_⟩) (by assumption) ?_
  rotate_left
  · (intro w hSw; (try dsimp only at hSw); go_simp; try with_reducible rfl)
  try simp only [Act.put, List.setIfInBounds_toArray, List.set_cons_zero, List.set_cons_succ]
  refine AnyTill.take (i := 7) (v := ?_) (op_at rfl) (by kernel_rfl) (by kernel_rfl) (by kernel_rfl) (by kernel_rfl) (fun _ _ _ h => h) (Or.inl ⟨by rfl, ?_⟩) (by assumption) ?_
  rotate_left
  · (intro w hSw; (try dsimp only at hSw); go_simp; try with_reducible rfl)
  try simp only [Act.put, List.setIfInBounds_toArray, List.set_cons_zero, List.set_cons_succ]
  refine AnyTill.take (i := 8) (v := ?_) (op_at rfl) (by kernel_rfl) (by kernel_rfl) (by kernel_rfl) (by kernel_rfl) (fun _ _ _ h => h) (Or.inl ⟨by rfl, ?_⟩) (by assumption) ?_
  rotate_left
  · (intro w hSw; (try dsimp only at hSw); go_simp; try with_reducible rfl)
  try simp only [Act.put, List.setIfInBounds_toArray, List.set_cons_zero, List.set_cons_succ]
  refine AnyTill.take (i := 9) (v := ?_) (op_at rfl) (by kernel_rfl) (by kernel_rfl) (by kernel_rfl) (by kernel_rfl) (fun _ _ _ h => h) (Or.inl ⟨by rfl, ?_⟩) (by assumption) ?_
  rotate_left
  · (intro w hSw; (try dsimp only at hSw); go_simp; try with_reducible rfl)
  try simp only [Act.put, List.setIfInBounds_toArray, List.set_cons_zero, List.set_cons_succ]
  refine AnyTill.take (i := 10) (v := ?_) (op_at rfl) (by kernel_rfl) (by kernel_rfl) (by kernel_rfl) (by kernel_rfl) (fun _ _ _ h => h) (Or.inl ⟨by rfl, ?_⟩) (by assumption) ?_
  rotate_left
  · (intro w hSw; (try dsimp only at hSw); go_simp; try with_reducible rfl)
  try simp only [Act.put, List.setIfInBounds_toArray, List.set_cons_zero, List.set_cons_succ]
  refine AnyTill.next (i := 11) (by kernel_rfl) (op_at rfl) (by decide) (fun K hK => ?_)
  go_simp
  obtain ⟨W5, hW5⟩ : ∃ V, V = (W1.alloc (.cells #[.int .i64 7, .string ⟨tx.toArray⟩, .int .i64 0, .int .i64 a] 96)).drew := ⟨_, rfl⟩
  have B5 := Lib.hid (show Below W1.heap.size W1 W5 from hW5 ▸ bdrew (nbelow1 _ _))
  have hz5 : W5.heap.size = W1.heap.size + 1 := by rw [hW5]; show (W1.alloc _).heap.size = _; simp
  have N5 := Lib.hid (show ∀ j u, (tkCells (⟨7, tx, 0, a⟩ : Tk))[j]? = some u → W5.cell? ((⟨W1.heap.size, 0, none⟩ : Addr).add j) = some u from hW5 ▸ cells4_new W1 _ _ _ _ _)
  have O5 := Lib.hid (show W5.ownsRow (X + 1) 96 4 (.slice ao ts.length cp) ts.length (tksCells ts) from own_below HOW0.out B5.out)
  rw [← hW5]
  clear hW5
  refine hK.out _ _ ?_ (fun hHeld => ?_)
  · exact HSB.out W5 (fun b hb _ => B5.out.block b hb)
  clear hK K
  try simp only [Act.put, List.setIfInBounds_toArray, List.set_cons_zero, List.set_cons_succ]
  refine AnyTill.next (i := 12) (by kernel_rfl) (op_at rfl) (by decide) (fun K hK => ?_)
  refine step_append_lies _ rfl _ _ 87 rfl (X + 1) 96 i0 (.agg #[.int .i64 0, .string ⟨#[]⟩, .int .i64 0, .int .i64 0]) 4 40 Tryz.underlying87 HI0.out.1 HI0.out.2.1 HI0.out.2.2.1 HI0.out.2.2.2 rfl (by decide) _ _ _ rfl O5.out ⟨W1.heap.size, 0, none⟩ 1 1 (tkCells (⟨7, tx, 0, a⟩ : Tk)) rfl rfl N5.out (tk_one _) (by decide) (by unfold maxLen; omega) (by omega) (by omega) _ rfl ?_
  intro gb cap' w6 hown' hgrow' hat' hltg
  have HG6 := Lib.hid hgrow'
  have HO6 := Lib.hid hown'
  have HX6 := Lib.hid (show w6.heap[X]? = some (.cells #[.string s, .int .i64 a, .map (some M), .slice ao ts.length cp, .pointer none] 129 (0, 0)) from (hgrow'.block X (by omega) (fun e => by have := (HOW0.out.lt X e.symm).1; omega)).trans ((B5.out.block X hXW).trans HAT0.out))
  clear hown' hgrow' hat' hltg
  refine hK.out _ _ ?_ (fun hHeld => ?_)
  · exact HSB.out w6 (fun b hb hne => (HG6.out.block b (by omega) (fun e => hne e.symm)).trans (B5.out.block b hb))
  clear hK K
  try simp only [Act.put, List.setIfInBounds_toArray, List.set_cons_zero, List.set_cons_succ]
  refine AnyTill.next (i := 13) (by kernel_rfl) (op_at rfl) (by decide) (fun K hK => ?_)
  go_simp
  refine hK.out _ _ ?_ (fun hHeld => ?_)
  · exact hHeld
  clear hK K
  try simp only [Act.put, List.setIfInBounds_toArray, List.set_cons_zero, List.set_cons_succ]
  refine AnyTill.next (i := 14) (by kernel_rfl) (op_at rfl) (by decide) (fun K hK => ?_)
  go_simp
  refine hK.out _ _ ?_ (fun hHeld => ?_)
  · exact hHeld
  clear hK K
  try simp only [Act.put, List.setIfInBounds_toArray, List.set_cons_zero, List.set_cons_succ]
  have hX3 : w6.cell? ⟨X, 3, none⟩ = some (.slice ao ts.length cp) := by simp [World.cell?, HX6.out]
  have hf6 : w6.frozen? ⟨X, 3, none⟩ = false := by simp [World.frozen?, HX6.out]
  have hX6l : X < w6.heap.size := (Array.getElem?_eq_some_iff.1 HX6.out).1
  refine AnyTill.last (z := 15) (by kernel_rfl) (op_at rfl) (by kernel_rfl) (fun K hK => ?_)
  go_simp
  refine hK.out _ _ ?_
  clear hK K hHeld
  obtain ⟨W7, hW7⟩ : ∃ V, V = w6.setCell ⟨X, 3, none⟩ (.slice (some ⟨gb, 0, none⟩) (ts.length + 1) cap') := ⟨_, rfl⟩
  have Z7 := Lib.hid (show SC X M s a (ts ++ [(⟨7, tx, 0, a⟩ : Tk)]) W7 ∧ Below X W1 W7 from hW7 ▸ sc_append hMX hXW HOW0.out HKY0.out B5.out HX6.out HO6.out HG6.out)
  have HS7 := Lib.hid Z7.out.1
  have BX7 := Lib.hid Z7.out.2
  rw [← hW7]
  clear hW7 hX3 hf6 hX6l HX6 HO6 HG6 O5 N5 B5 HSB HSI HAT0 HOW0 HKY0 Z7
  have BX := Lib.hid (BX1.out.trans BX7.out)
  obtain ⟨hX0, hX1⟩ := HS7.out.sb
  replace C2 := Lib.hid (C2.out W7 HS7.out.sb)
  replace CN := Lib.hid (CN.out W7 HS7.out.sb)
  clear HS HS1 BX1 BX7 hMX hXW hz5
  by_cases h34 : (c.toNat : Int) = 34
  case neg =>
    have q1 : ((c.toNat : Int) != 34) = true := by rw [bne_iff_ne]; exact h34
    have R := Lib.hid (show quotS (s.data.toList.drop (a + 1)) a = .error 71 by rw [Q.out, if_pos (fun e => h34 (by rw [e]; rfl))])
    clear h34
    go_wp2_with (first | ((with_reducible refine Calls.mono C2.out ?_); rintro e w1 ⟨rfl, hw⟩; rw [← hw]; clear hw w1))
    go_ret2
    exact tokQ_err R.out (by decide) BX.out HS7.out
  have q1 : ((c.toNat : Int) != 34) = false := by rw [h34]; rfl
  have e34 : c = 34 := UInt8.toNat_inj.1 (Int.ofNat.inj h34)
  have Q2 := Lib.hid (show quotS (s.data.toList.drop (a + 1)) a = if nameL tx = true then .ok (⟨7, tx, 0, a⟩, n + 2) else .error 73 by rw [Q.out, if_neg (fun h => h e34)])
  have N2 := Lib.hid (NT.out e34)
  clear h34 e34 Q NT
  by_cases h0 : n = 0
  · have q0 : ((n : Int) == 0) = true := by rw [h0]; rfl
    have R := Lib.hid (show quotS (s.data.toList.drop (a + 1)) a = .error 73 by rw [Q2.out, if_neg (fun h => (N2.out.1 h).1 h0)])
    clear h0
    go_wp2_with (first | ((with_reducible refine Calls.mono C2.out ?_); rintro e w1 ⟨rfl, hw⟩; rw [← hw]; clear hw w1))
    go_ret2
    exact tokQ_err R.out (by decide) BX.out HS7.out
  have q0 : ((n : Int) == 0) = false := by rw [beq_eq_false_iff_ne]; omega
  by_cases h24 : 24 < (n : Int)
  · have R := Lib.hid (show quotS (s.data.toList.drop (a + 1)) a = .error 73 by rw [Q2.out, if_neg (fun h => by have := (N2.out.1 h).2.1; omega)])
    clear h0
    go_wp2_with (first | ((with_reducible refine Calls.mono C2.out ?_); rintro e w1 ⟨rfl, hw⟩; rw [← hw]; clear hw w1))
    go_ret2
    exact tokQ_err R.out (by decide) BX.out HS7.out
  by_cases hmn : m = n
  · have q2 : ((m : Int) != n) = false := by rw [hmn]; simp
    have R := Lib.hid (show quotS (s.data.toList.drop (a + 1)) a = .ok (⟨7, tx, 0, a⟩, n + 2) by rw [Q2.out, if_pos (N2.out.2 ⟨h0, by omega, hmn⟩)])
    clear h0 hmn
    go_wp2_with (first | ((with_reducible refine Calls.mono C2.out ?_); rintro e w1 ⟨rfl, hw⟩; rw [← hw]; clear hw w1) | ((with_reducible refine Calls.mono CN.out ?_); rintro e w1 ⟨rfl, hw⟩; rw [← hw]; clear hw w1))
    go_ret2
    exact tokQ_ok R.out BX.out (by omega) rfl HS7.out
  · have q2 : ((m : Int) != n) = true := by rw [bne_iff_ne]; omega
    have R := Lib.hid (show quotS (s.data.toList.drop (a + 1)) a = .error 73 by rw [Q2.out, if_neg (fun h => hmn (N2.out.1 h).2.2)])
    clear h0 hmn
    go_wp2_with (first | ((with_reducible refine Calls.mono C2.out ?_); rintro e w1 ⟨rfl, hw⟩; rw [← hw]; clear hw w1) | ((with_reducible refine Calls.mono CN.out ?_); rintro e w1 ⟨rfl, hw⟩; rw [← hw]; clear hw w1))
    go_ret2
    exact tokQ_err R.out (by decide) BX.out HS7.out
end Go.Proofs.YtcndknkdhlmdnaaGreatDoor
