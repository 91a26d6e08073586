/-
  Texts that the statements' proofs rest on, one behind another: SxC, SxY, ParQ, ParR, ParS, ParT, ParU.
-/
import Derived.Test.YtcndknkdhlmdnaaGreatDoorS10
import Derived.Test.YtcndknkdhlmdnaaGreatDoorS09
import Derived.Test.YtcndknkdhlmdnaaGreatDoorS05

/-
  The program's parser: one nest deeper.
-/
namespace Go.Proofs.YtcndknkdhlmdnaaGreatDoor
open Go.RowKit
set_option maxRecDepth 100000

/-- what a reading does -/
def QP (P g cap : Nat) (ts : List Tk) (nest : Nat) (x : Rd) (w : World) (e : Ending) (w' : World) : Prop := match x with
  | .ok (t, r) => ∃ (a : Option Addr) (cp : Nat), e = .returned (trV t a cp) ∧ SQ P g cap ts nest r w' ∧ w.grownBy w' (some P) ∧ t.lies (Fr w.heap.size w'.heap.size) w' a cp ∧ depthN t ≤ 100
  | .error (k, p) => e = flt k p ∧ w.grownBy w' (some P)
theorem QP.below {P g cap : Nat} {ts : List Tk} {nest : Nat} {x : Rd} {w W W' : World} {e : Ending} (h : QP P g cap ts nest x w e W) (hb : Below W.heap.size W W') : QP P g cap ts nest x w e W' := by
  cases x with
  | error q => obtain ⟨k, p⟩ := q; exact ⟨h.1, grown_trans h.2 (grown_of hb)⟩
  | ok q =>
    obtain ⟨t, r⟩ := q
    obtain ⟨a, cp, he, hs, hg', hl, hd⟩ := h
    exact ⟨a, cp, he, hs.below hb, grown_trans hg' (grown_of hb), lies_move hl (fun b hb' => hb.block b hb'.2) (fun b hb' => ⟨hb'.1, Nat.lt_of_lt_of_le hb'.2 hb.size⟩), hd⟩
theorem QP.fin {P g cap : Nat} {ts : List Tk} {nest : Nat} {t : Nd} {a : Option Addr} {cp : Nat} {r : List Tk} {w W : World} {b : Nat} {av : Nat → Prop} (hs : SQ P g cap ts nest r W) (hg : w.grownBy W (some P)) (hb : w.heap.size ≤ b) (hbP : b ≠ P ∧ b ≠ g) (hl : t.lies av W a cp)
    (hav : ∀ c, av c → w.heap.size ≤ c ∧ c < W.heap.size ∧ c ≠ b) (hd : depthN t ≤ 100) : QP P g cap ts nest (.ok (t, r)) w (.returned (trV t a cp)) (put6 W b t.kind t.text t.n a t.kids.length cp t.place (depthN t)) := by
  have hk := (put6_grown (b := b) W t.kind t.text t.n a t.kids.length cp t.place (depthN t))
  refine ⟨a, cp, rfl, hs.keeps (fun c hc => ?_) hk.size, ?_, lies_move hl (fun c hc => ?_) fun c hc => ⟨(hav c hc).1, ?_⟩, hd⟩
  · have hbl := hs.blocks
    rcases hc with rfl | rfl
    · exact hk.block _ hbl.1 (fun e => hbP.1 (Option.some.inj e).symm)
    · exact hk.block _ hbl.2.1 (fun e => hbP.2 (Option.some.inj e).symm)
  · exact ⟨hk.os.trans hg.os, hk.tape.trans hg.tape, hk.output.trans hg.output, Nat.le_trans hg.size hk.size, fun i hi hr => (hk.block i (Nat.lt_of_lt_of_le hi hg.size) (fun e => by have := Option.some.inj e; omega)).trans (hg.block i hi hr)⟩
  · exact hk.block c (hav c hc).2.1 (fun e => (hav c hc).2.2 (Option.some.inj e))
  · exact Nat.lt_of_lt_of_le (hav c hc).2.1 hk.size
/-- a function value that can be called -/
def Enters (K : Nat) : Prop := ∀ (args : Array Value) (w : World), (callFunc K args).run Tryz.prog w = .ok (.enter K args) w
theorem SQ.nest' {P g cap : Nat} {ts : List Tk} {n : Nat} {l : List Tk} {W : World} (h : SQ P g cap ts n l W) (n' : Nat) : (W.cell? ⟨P, 1, none⟩ = some (.int .i64 n) ∧ W.frozen? ⟨P, 1, none⟩ = false) ∧ SQ P g cap ts n' l (W.setCell ⟨P, 1, none⟩ (.int .i64 n')) := by
  obtain ⟨a, e, h⟩ := h
  exact ⟨⟨h.cells.1.2, h.cells.2.2⟩, a, e, h.set_nest n'⟩
set_option maxHeartbeats 4000000 in
theorem qwithin_any (P g cap : Nat) (ts : List Tk) (nest : Nat) (l : List Tk) (K : Nat) (cs : Array Value) (x : Rd) (w : World) (hn : nest ≤ 300) (h : SQ P g cap ts nest l w) (hK : Enters K)
    (hread : nest + 1 ≤ 300 → ∀ W, SQ P g cap ts (nest + 1) l W → w.grownBy W (some P) → Calls Tryz.prog K cs W (QP P g cap ts (nest + 1) x W)) :
    Calls Tryz.prog 80 #[.pointer (some ⟨P, 0, none⟩), .func (.func K) #[] cs] w (QP P g cap ts nest (nestT nest l x) w) := by
  unfold Enters at hK
  have hpl := h.blocks
  obtain ⟨⟨p1, f1⟩, h1⟩ := h.nest' (nest + 1)
  have HR := Lib.hid hread
  have H1 := Lib.hid h1
  clear h h1 hread
  go_enter Tryz.func80, Tryz.ntmps80
  go_upto_region 2 with fail
  have e1 : ((nest + 1 : Nat) : Int) = (nest : Int) + 1 := by omega
  rw [e1] at H1
  obtain ⟨W1, hW1⟩ : ∃ W, W = w.setCell ⟨P, 1, none⟩ (.int .i64 ((nest : Int) + 1)) := ⟨_, rfl⟩
  have G1 := Lib.hid (show w.grownBy W1 (some P) from hW1 ▸ grown_set w P 1 _)
  have hs1 := Lib.hid (show W1.heap.size = w.heap.size by rw [hW1]; simp [World.setCell])
  obtain ⟨W2, hW2⟩ : ∃ W, W = W1.alloc (.cells #[.int .i64 0, .string ⟨#[]⟩, .int .i64 0, .slice none 0 0, .int .i64 0, .int .i64 0] 67) := ⟨_, rfl⟩
  have B2 := Lib.hid (show Below W1.heap.size W1 W2 from hW2 ▸ nbelow1 _ _)
  have Z2 := Lib.hid (show T6 w.heap.size 0 ⟨#[]⟩ 0 none 0 0 0 0 W2 from hW2 ▸ hs1.out ▸ T6.make W1 _ _ _ _ _ _ _ _)
  have S2 := Lib.hid (show SQ P g cap ts (nest + 1) l W2 from (show SQ P g cap ts (nest + 1) l W1 from hW1 ▸ H1.out).below B2.out)
  have G2 := Lib.hid (grown_trans G1.out (grown_of B2.out))
  rw [← hW1, ← hW2]
  clear hW1 hW2 p1 f1 e1
  by_cases hk : 300 < nest + 1
  · have hk' : (300 : Int) < (nest : Int) + 1 := by omega
    have R := Lib.hid (show nestT nest l x = .error (75, (hd l).pos) from if_pos hk)
    obtain ⟨a, rfl, hp⟩ := S2.out
    have hpos := hp.pos
    have D := Lib.hid (hd_drop hpos)
    obtain ⟨⟨p0, p1⟩, -⟩ := hp.cells
    obtain ⟨t0, t1, t2, t3⟩ := hp.tok
    have hL : 0 < ts.length - a := by omega
    have C3 := Lib.hid (qfail_any P 75 (ts[a]'hpos).pos W2)
    generalize ts[a]'hpos = T at t0 t1 t2 t3 D C3
    generalize ts.length - a = L at p0 hL
    generalize cap - a = C at p0
    generalize a * 4 = off at p0 t0 t1 t2 t3
    rw [Int.natCast_add] at p1
    clear hp hpos hk
    go_wp2_with fail
    (with_reducible refine Calls.mono C3.out ?_)
    rintro e w2 ⟨rfl, rfl⟩
    refine ⟨rfl, ?_⟩
    rw [R.out, D.out]
    exact ⟨rfl, G2.out⟩
  · have hk' : ¬ (300 : Int) < (nest : Int) + 1 := by omega
    have R := Lib.hid (show nestT nest l x = x from if_neg hk)
    have C := Lib.hid (HR.out (by omega) W2 S2.out G2.out)
    have p1 := (S2.out.nest' 0).1.1
    rw [Int.natCast_add] at p1
    have HP := Lib.hid hpl
    clear hk HR
    go_wp2_with fail
    (with_reducible refine Calls.mono C.out ?_)
    intro e w3 hq
    cases x with
    | error q =>
      obtain ⟨k, p⟩ := q
      obtain ⟨rfl, hg⟩ := hq
      refine ⟨rfl, ?_⟩
      rw [R.out]
      exact ⟨rfl, grown_trans G2.out hg⟩
    | ok q =>
      obtain ⟨t, r⟩ := q
      obtain ⟨a, cp, rfl, hs, hg, hl, hd⟩ := hq
      have Z3 := Lib.hid (Z2.out.grown hg (fun e => by have := Option.some.inj e; omega))
      have G3 := Lib.hid (grown_trans G2.out hg)
      have HL := Lib.hid hl
      have HD := Lib.hid hd
      obtain ⟨⟨p2, f2⟩, hs'⟩ := hs.nest' nest
      rw [Int.natCast_add] at p2
      have HS := Lib.hid hs
      have hPl := hs.blocks.1
      have hz3 := Z3.out.lt
      obtain ⟨⟨z0, z1, z2, z3, z4, z5⟩, ⟨y0, y1, y2, y3, y4, y5⟩⟩ := Z3.out.cells
      have hPz : ¬ P = w.heap.size := by omega
      clear hs hg hl hd p1 C hs'
      unfold trV
      go_wp2_with fail
      refine bodyPost_ret (v := trV t a cp) (by simp [results, Tryz.results80, go_sem, trV, hz3, z0, z1, z2, z3, z4, z5]) rfl ?_
      rw [R.out]
      have hsz := G2.out.size
      have hB := B2.out.size
      have hlt2 := Z2.out.lt
      refine (QP.fin (P := P) (g := g) (b := w.heap.size) (W := w3.setCell ⟨P, 1, none⟩ (.int .i64 nest)) (av := Fr W2.heap.size w3.heap.size) (HS.out.nest' nest).2 (grown_trans G3.out (grown_set _ _ _ _)) (Nat.le_refl _) ⟨by have := HP.out; omega, by have := HP.out; omega⟩ (lies_move HL.out ((KeepsV.refl _ _).set (fun c hc e => by have := hc.1; have := HP.out; omega) _ _) fun c hc => hc) (fun c hc => ⟨by have := hc.1; omega, by simp [World.setCell]; exact hc.2, by have := hc.1; omega⟩) HD.out).below (nbelow1 _ _)
end Go.Proofs.YtcndknkdhlmdnaaGreatDoor

/-
  The program's scanner: bytes; how many of a kind stand at a place.
-/
namespace Go.Proofs.YtcndknkdhlmdnaaGreatDoor
open Go.RowKit
set_option maxRecDepth 100000

set_option maxHeartbeats 400000 in
theorem qsmall_any (n : Int) (w : World) : Calls Tryz.prog 146 #[.int .u8 n] w fun e w' => e = .returned (.bool (smI n)) ∧ w = w' := by
  go_enter Tryz.func146, Tryz.ntmps146
  go_wp2
  all_goals go_ret
  all_goals exact ⟨rretB (by unfold smI; rw [Bool.eq_iff_iff]; simp; omega), rfl⟩
set_option maxHeartbeats 400000 in
theorem qdigit_any (n : Int) (w : World) : Calls Tryz.prog 148 #[.int .u8 n] w fun e w' => e = .returned (.bool (dgI n)) ∧ w = w' := by
  go_enter Tryz.func148, Tryz.ntmps148
  go_wp2
  all_goals go_ret
  all_goals exact ⟨rretB (by unfold dgI; rw [Bool.eq_iff_iff]; simp; omega), rfl⟩
set_option maxHeartbeats 400000 in
theorem qgreat_any (n : Int) (w : World) : Calls Tryz.prog 151 #[.int .u8 n] w fun e w' => e = .returned (.bool (grI n)) ∧ w = w' := by
  go_enter Tryz.func151, Tryz.ntmps151
  go_wp2
  all_goals go_ret
  all_goals exact ⟨rretB (by unfold grI; rw [Bool.eq_iff_iff]; simp; omega), rfl⟩
set_option maxHeartbeats 400000 in
theorem qinner_any (n : Int) (w : World) : Calls Tryz.prog 202 #[.int .u8 n] w fun e w' => e = .returned (.bool (inI n)) ∧ w = w' := by
  have e := Lib.hid (show inI n = (smI n || dgI n || n == 95) from rfl)
  cases h1 : smI n
  · cases h2 : dgI n
    all_goals
      go_enter Tryz.func202, Tryz.ntmps202
      go_wp2_with (first | (go_at_call 146; refine (qsmall_any _ _).mono ?_; rintro e w' ⟨rfl, rfl⟩; rw [h1]) | (go_at_call 148; refine (qdigit_any _ _).mono ?_; rintro e w' ⟨rfl, rfl⟩; rw [h2]))
      go_ret
      exact ⟨rretB (by rw [e.out, h1, h2]; rfl), rfl⟩
  · go_enter Tryz.func202, Tryz.ntmps202
    go_wp2_with (first | (go_at_call 146; refine (qsmall_any _ _).mono ?_; rintro e w' ⟨rfl, rfl⟩; rw [h1]))
    go_ret
    exact ⟨rretB (by rw [e.out, h1]; rfl), rfl⟩
set_option maxHeartbeats 400000 in
theorem qline_any (n : Int) (w : World) : Calls Tryz.prog 118 #[.int .u8 n] w fun e w' => e = .returned (.bool (n != 10)) ∧ w = w' := by
  go_enter Tryz.func118, Tryz.ntmps118
  go_wp2
  all_goals go_ret
  all_goals exact ⟨rretB (by first | rfl | simp), rfl⟩
set_option maxHeartbeats 400000 in
theorem qquo_any (n : Int) (w : World) : Calls Tryz.prog 181 #[.int .u8 n] w fun e w' => e = .returned (.bool (n != 34 && n != 10)) ∧ w = w' := by
  go_enter Tryz.func181, Tryz.ntmps181
  go_wp2
  all_goals go_ret
  all_goals exact ⟨rretB (by first | rfl | (rw [Bool.eq_iff_iff]; simp; try omega)), rfl⟩
/-- the scanner's text and place -/
def SB (X : Nat) (s : ByteArray) (a : Nat) (W : World) : Prop := W.cell? ⟨X, 0, none⟩ = some (.string s) ∧ W.cell? ⟨X, 1, none⟩ = some (.int .i64 a)
set_option maxHeartbeats 400000 in
theorem qbyteAt_any (X : Nat) (s : ByteArray) (a p : Nat) (w : World) (h : SB X s a w) :
    Calls Tryz.prog 177 #[.pointer (some ⟨X, 0, none⟩), .int .i64 p] w fun e w' => e = .returned (.int .u8 ((s.data.toList.drop p).headD 0).toNat) ∧ w = w' := by
  obtain ⟨h0, h1⟩ := h
  by_cases hlt : p < s.size
  · have F := Lib.hid (head_drop hlt)
    go_enter Tryz.func177, Tryz.ntmps177
    go_wp2_with fail
    go_ret
    exact ⟨rretI (by rw [F.out]), rfl⟩
  · have F := Lib.hid (head_end (s := s) (k := p) (by omega))
    go_enter Tryz.func177, Tryz.ntmps177
    go_wp2_with fail
    go_ret
    exact ⟨rretI (by rw [F.out]; rfl), rfl⟩
theorem runP_in {P : UInt8 → Bool} {s : ByteArray} {k : Nat} (h : k < s.size) (hs : P s[k] = true) : ((s.data.toList.drop k).takeWhile P).length = 1 + ((s.data.toList.drop (k + 1)).takeWhile P).length := by
  rw [drop_at h, List.takeWhile_cons, if_pos hs]; simp; omega
theorem runP_out {P : UInt8 → Bool} {s : ByteArray} {k : Nat} (h : k < s.size) (hs : P s[k] = false) : ((s.data.toList.drop k).takeWhile P).length = 0 := by
  rw [drop_at h, List.takeWhile_cons, if_neg (by rw [hs]; decide)]; rfl
theorem runP_end {P : UInt8 → Bool} {s : ByteArray} {k : Nat} (h : s.size ≤ k) : ((s.data.toList.drop k).takeWhile P).length = 0 := by rw [drop_end h]; rfl
set_option maxHeartbeats 1000000 in
theorem qrun_any (X : Nat) (s : ByteArray) (a p : Nat) (K : Nat) (P : UInt8 → Bool) (w : World) (hK : Enters K) (hP : ∀ (c : UInt8) (w : World), Calls Tryz.prog K #[.int .u8 c.toNat] w fun e w' => e = .returned (.bool (P c)) ∧ w = w') (h : SB X s a w) (hs : s.size ≤ 16384) (hp : p ≤ 20000) :
    Calls Tryz.prog 117 #[.pointer (some ⟨X, 0, none⟩), .int .i64 p, .func (.func K) #[] #[]] w fun e w' => e = .returned (.int .i64 ((s.data.toList.drop p).takeWhile P).length) ∧ w = w' := by
  unfold Enters at hK
  obtain ⟨h0, h1⟩ := h
  have HP := Lib.hid hP
  clear hP
  go_enter Tryz.func117, Tryz.ntmps117
  go_wp2_with fail
  go_loop [7] (fun n => ∃ k : Nat, k ≤ s.size ∧ n = .int .i64 k ∧ Hid (k + ((s.data.toList.drop (p + k)).takeWhile P).length = ((s.data.toList.drop p).takeWhile P).length)) (fun n => s.size - (intOf n).toNat)
  case atStart => exact ⟨0, by omega, rfl, by show _ = _; rw [Nat.add_zero, Nat.zero_add]⟩
  case round =>
    obtain ⟨k, hk, rfl, HK⟩ := hrel
    by_cases hlt : p + k < s.size
    · have C := Lib.hid (HP.out s[p + k] w)
      cases hc : P s[p + k]
      · have F := Lib.hid (runP_out hlt hc)
        rw [hc] at C
        clear hc
        go_wp2_with fail
        (with_reducible refine Calls.mono C.out ?_)
        rintro e w1 ⟨rfl, rfl⟩
        go_wp2_with fail
        go_ret
        exact ⟨rretI (by have := HK.out; rw [F.out] at this; omega), rfl⟩
      · have F := Lib.hid (runP_in hlt hc)
        rw [hc] at C
        clear hc
        go_wp2_with fail
        (with_reducible refine Calls.mono C.out ?_)
        rintro e w1 ⟨rfl, rfl⟩
        go_wp2_with fail
        go_round
        case rel => exact ⟨k + 1, by omega, by go_num, by show _ = _; have := HK.out; rw [F.out] at this; rw [← Nat.add_assoc]; omega⟩
        case measure => simp [intOf]; omega
    · have F := Lib.hid (runP_end (P := P) (s := s) (k := p + k) (by omega))
      go_wp2_with fail
      go_ret
      exact ⟨rretI (by have := HK.out; rw [F.out] at this; omega), rfl⟩
theorem qenter_inner : Enters 202 := fun args w => by kernel_rfl
theorem qenter_digit : Enters 148 := fun args w => by kernel_rfl
theorem qenter_great : Enters 151 := fun args w => by kernel_rfl
theorem qenter_line : Enters 118 := fun args w => by kernel_rfl
theorem qenter_quo : Enters 181 := fun args w => by kernel_rfl
section
variable (X : Nat) (s : ByteArray) (a p : Nat) (w : World) (h : SB X s a w) (hs : s.size ≤ 16384) (hp : p ≤ 20000)
theorem qrun_digit (h : SB X s a w) (hs : s.size ≤ 16384) (hp : p ≤ 20000) : Calls Tryz.prog 117 #[.pointer (some ⟨X, 0, none⟩), .int .i64 p, .func (.func 148) #[] #[]] w fun e w' => e = .returned (.int .i64 (digR (s.data.toList.drop p) : Nat)) ∧ w = w' :=
  qrun_any X s a p _ dgC w qenter_digit (fun c w => by rw [dgC_I]; exact qdigit_any _ w) h hs hp
theorem qrun_great (h : SB X s a w) (hs : s.size ≤ 16384) (hp : p ≤ 20000) : Calls Tryz.prog 117 #[.pointer (some ⟨X, 0, none⟩), .int .i64 p, .func (.func 151) #[] #[]] w fun e w' => e = .returned (.int .i64 (greR (s.data.toList.drop p) : Nat)) ∧ w = w' :=
  qrun_any X s a p _ grC w qenter_great (fun _ w => qgreat_any _ w) h hs hp
theorem qrun_inner (h : SB X s a w) (hs : s.size ≤ 16384) (hp : p ≤ 20000) : Calls Tryz.prog 117 #[.pointer (some ⟨X, 0, none⟩), .int .i64 p, .func (.func 202) #[] #[]] w fun e w' => e = .returned (.int .i64 (((s.data.toList.drop p).takeWhile inC).length : Nat)) ∧ w = w' :=
  qrun_any X s a p _ inC w qenter_inner (fun _ w => qinner_any _ w) h hs hp
theorem qrun_quo (h : SB X s a w) (hs : s.size ≤ 16384) (hp : p ≤ 20000) : Calls Tryz.prog 117 #[.pointer (some ⟨X, 0, none⟩), .int .i64 p, .func (.func 181) #[] #[]] w fun e w' => e = .returned (.int .i64 (quoR (s.data.toList.drop p) : Nat)) ∧ w = w' :=
  qrun_any X s a p _ quoC w qenter_quo (fun c w => by rw [quoC_eq]; exact qquo_any _ w) h hs hp
theorem line_eq (c : UInt8) : ((c.toNat : Int) != 10) = (c != 10) := by
  have := u8_all (p := fun c => ((c.toNat : Int) != 10) == (c != 10)) (by decide +kernel) c
  simpa using this
theorem qrun_line (h : SB X s a w) (hs : s.size ≤ 16384) (hp : p ≤ 20000) : Calls Tryz.prog 117 #[.pointer (some ⟨X, 0, none⟩), .int .i64 p, .func (.func 118) #[] #[]] w fun e w' => e = .returned (.int .i64 (((s.data.toList.drop p).takeWhile (· != 10)).length : Nat)) ∧ w = w' :=
  qrun_any X s a p _ (· != 10) w qenter_line (fun c w => by rw [← line_eq]; exact qline_any _ w) h hs hp
end

theorem span_of {l : List UInt8} : spanL l = if smC (l.headD 0) = true then (l.takeWhile inC).length else 0 := by
  cases l with
  | nil => rfl
  | cons c l =>
    show (if smC c = true then 1 + (l.takeWhile inC).length else 0) = _
    rw [List.headD_cons]
    split
    · rename_i h
      have : inC c = true := by unfold inC inI; rw [show smI (c.toNat : Int) = true from h]; rfl
      rw [List.takeWhile_cons, if_pos this, List.length_cons]; omega
    · rfl
set_option maxHeartbeats 1000000 in
theorem qname_any (X : Nat) (s : ByteArray) (a p : Nat) (w : World) (h : SB X s a w) (hs : s.size ≤ 16384) (hp : p ≤ 20000) :
    Calls Tryz.prog 176 #[.pointer (some ⟨X, 0, none⟩), .int .i64 p] w fun e w' => e = .returned (.int .i64 (spanL (s.data.toList.drop p) : Nat)) ∧ w = w' := by
  have E := Lib.hid (span_of (l := s.data.toList.drop p))
  have C1 := Lib.hid (qbyteAt_any X s a p w h)
  have C2 := Lib.hid (qrun_inner X s a p w h hs hp)
  have HSM := Lib.hid (show smC ((s.data.toList.drop p).headD 0) = smI ((s.data.toList.drop p).headD 0).toNat from rfl)
  generalize (s.data.toList.drop p).headD 0 = c at C1 E HSM
  generalize ((s.data.toList.drop p).takeWhile inC).length = n at C2 E
  generalize spanL (s.data.toList.drop p) = m at E ⊢
  obtain ⟨h0, h1⟩ := h
  cases hc : smI c.toNat
  · have F := Lib.hid (show m = 0 by rw [E.out, HSM.out, hc]; rfl)
    go_enter Tryz.func176, Tryz.ntmps176
    go_wp2_with fail
    (with_reducible refine Calls.mono C1.out ?_)
    rintro e w1 ⟨rfl, rfl⟩
    go_wp2_with (go_at_call 146; refine (qsmall_any _ _).mono ?_; rintro e w' ⟨rfl, rfl⟩; rw [hc])
    go_ret
    exact ⟨rretI (by rw [F.out]; rfl), rfl⟩
  · have F := Lib.hid (show m = n by rw [E.out, HSM.out, hc]; rfl)
    go_enter Tryz.func176, Tryz.ntmps176
    go_wp2_with fail
    (with_reducible refine Calls.mono C1.out ?_)
    rintro e w1 ⟨rfl, rfl⟩
    go_wp2_with (go_at_call 146; refine (qsmall_any _ _).mono ?_; rintro e w' ⟨rfl, rfl⟩; rw [hc])
    (with_reducible refine Calls.mono C2.out ?_)
    rintro e w2 ⟨rfl, rfl⟩
    go_wp2_with fail
    go_ret
    exact ⟨rretI (by rw [F.out]), rfl⟩
end Go.Proofs.YtcndknkdhlmdnaaGreatDoor

/-
  usanceref07's parser: a call's arguments.
-/
namespace Go.Proofs.YtcndknkdhlmdnaaGreatDoor
open Go.RowKit
set_option maxRecDepth 100000

end Go.Proofs.YtcndknkdhlmdnaaGreatDoor

/-
  usanceref07's parser: which atom stands next (no program in sight).
-/
namespace Go.Proofs.YtcndknkdhlmdnaaGreatDoor
open Go.RowKit
set_option maxRecDepth 100000

/-- what the scanner makes true of a token -/
structure TkZ (t : Tk) : Prop where
  zero : t.kind = 4 ∨ t.kind = 2 → t.n = 0
  sign : t.kind = 8 → t.text ≠ tTrue ∧ t.text ≠ tFalse ∧ t.text ≠ tFeed ∧ t.text ≠ tPick
  word : t.kind = 2 → t.text ≠ tOpen
section
variable {nest : Nat} {l : List Tk}
end

end Go.Proofs.YtcndknkdhlmdnaaGreatDoor

/-
  usanceref07's parser: an atom.
-/
namespace Go.Proofs.YtcndknkdhlmdnaaGreatDoor
open Go.RowKit
set_option maxRecDepth 100000

end Go.Proofs.YtcndknkdhlmdnaaGreatDoor

/-
  usanceref07's parser: what the scanner makes true of its tokens (no program in sight).
-/
namespace Go.Proofs.YtcndknkdhlmdnaaGreatDoor
open Go.RowKit
set_option maxRecDepth 100000

/-- a token as scanning makes it -/
structure TkG (t : Tk) : Prop where
  n : -1000000000000000 ≤ t.n ∧ t.n ≤ 1000000000000000
  len : t.text.length ≤ 49
  z : TkZ t
theorem tkG_plain {k n p : Int} {s : List UInt8} (h8 : k ≠ 8) (h2 : k ≠ 2) (h4 : k = 4 → n = 0) (hn : -1000000000000000 ≤ n ∧ n ≤ 1000000000000000) (hs : s.length ≤ 49) : TkG ⟨k, s, n, p⟩ :=
  ⟨hn, hs, ⟨fun h => by rcases h with h | h; exact h4 h; exact absurd h h2, fun h => absurd h h8, fun h => absurd h h2⟩⟩
theorem tkG_sign {s : List UInt8} {p : Int} (hs : s.length ≤ 2) : TkG ⟨8, s, 0, p⟩ :=
  ⟨⟨by show (-1000000000000000 : Int) ≤ 0; decide, by show (0 : Int) ≤ 1000000000000000; decide⟩, by show s.length ≤ 49; omega, ⟨fun _ => rfl, fun _ => ⟨fun e => by (have : s = tTrue := e); subst this; exact absurd hs (by decide), fun e => by (have : s = tFalse := e); subst this; exact absurd hs (by decide), fun e => by (have : s = tFeed := e); subst this; exact absurd hs (by decide), fun e => by (have : s = tPick := e); subst this; exact absurd hs (by decide)⟩, fun h => absurd h (by show ¬ (8 : Int) = 2; decide)⟩⟩
theorem small_not (c : UInt8) (h : smC c = true) : c ≠ 40 := by
  rintro rfl; exact absurd h (by decide)
theorem named_good {c : UInt8} {r : List UInt8} {pos : Int} {t : Tk} {n : Nat} (hc : smC c = true) (h : namedS (c :: r) pos = .ok (t, n)) : TkG t ∧ t.pos = pos := by
  unfold namedS at h
  simp only at h
  have h1 : 1 ≤ spanL (c :: r) := by show 1 ≤ (if smC c = true then 1 + (r.takeWhile inC).length else 0); rw [if_pos hc]; omega
  obtain ⟨m, hm⟩ : ∃ m, spanL (c :: r) = m + 1 := ⟨spanL (c :: r) - 1, by omega⟩
  split at h
  · split at h
    · cases h
    · rename_i hq
      cases h
      refine ⟨tkG_plain (by decide) (by decide) (fun e => rfl) (by decide) ?_, rfl⟩
      rw [List.length_append, List.length_cons]
      have a1 := List.length_take_le (spanL (c :: r)) (c :: r)
      have a2 := List.length_take_le (spanL ((c :: r).drop (spanL (c :: r) + 1))) ((c :: r).drop (spanL (c :: r) + 1))
      omega
  · split at h
    · cases h
    · rename_i hq
      cases h
      have hl : ((c :: r).take (spanL (c :: r))).length ≤ 49 := by
        have a1 := List.length_take_le (spanL (c :: r)) (c :: r)
        omega
      split
      · refine ⟨⟨by show (-1000000000000000 : Int) ≤ 0 ∧ (0 : Int) ≤ 1000000000000000; decide, hl, ⟨fun _ => rfl, fun e => absurd e (by show ¬ (2 : Int) = 8; decide), fun _ e => ?_⟩⟩, rfl⟩
        replace e : (c :: r).take (spanL (c :: r)) = [40] := e
        rw [hm, List.take_succ_cons] at e
        exact small_not c hc (List.cons.inj e).1
      · exact ⟨tkG_plain (by decide) (by decide) (fun e => rfl) (by decide) hl, rfl⟩
theorem numU_pos {l : List UInt8} {v : Int} (h : numU l = some v) : 0 ≤ v := by
  unfold numU at h
  simp only at h
  split at h
  · rename_i hq
    cases h
    obtain ⟨h1, h2, h3, h4⟩ := hq
    have hw : (l.takeWhile dgC).all dgC = true := List.all_takeWhile
    have ht : (l.drop (l.takeWhile dgC).length).tail.all dgC = true := by
      cases hd : l.drop (l.takeWhile dgC).length with
      | nil => rfl
      | cons c p =>
        rw [hd] at h4
        unfold partOk at h4
        simp only [Bool.and_eq_true] at h4
        exact h4.2.2
    refine (val_le (n := (l.takeWhile dgC ++ (l.drop (l.takeWhile dgC).length).tail ++ List.replicate (6 - (l.drop (l.takeWhile dgC).length).tail.length) 48).length) ?_ (Nat.le_refl _)).1
    rw [List.all_append, List.all_append, hw, ht, List.all_eq_true.2 fun x hx => by rw [List.eq_of_mem_replicate hx]; rfl]
    rfl
  · cases h
theorem numP_bd {l : List UInt8} {v : Int} (h : numP l = some v) : -1000000000000000 ≤ v ∧ v ≤ 1000000000000000 := by
  unfold numP at h
  split at h
  · split at h
    · rename_i n hn
      have := numU_pos hn
      split at h
      · cases h
      · cases h; omega
    · cases h
  · split at h
    · rename_i n hn
      have := numU_pos hn
      split at h
      · cases h
      · cases h; omega
    · cases h
theorem dayP_bd {l : List UInt8} {v : Int} (h : dayP l = some v) : 0 ≤ v ∧ v ≤ 73048 := by
  unfold dayP at h
  split at h
  · rename_i hq
    cases h
    exact Cal.num_bd hq.2.2
  · cases h
theorem tok_good {c : UInt8} {r : List UInt8} {pos : Int} {t : Tk} {n : Nat} (h : tokS c r pos = .ok (t, n)) : TkG t ∧ t.pos = pos := by
  unfold tokS at h
  split at h
  · rename_i hs; exact named_good hs h
  split at h
  · unfold numS at h
    split at h
    · split at h
      · cases h
      · rename_i v hv
        have := dayP_bd hv
        split at h
        · cases h; exact ⟨tkG_plain (by decide) (by decide) (fun e => by cases e) (by omega) (by decide), rfl⟩
        · cases h
    · split at h
      · cases h
      · rename_i v hv
        have := numP_bd hv
        split at h
        · cases h; exact ⟨tkG_plain (by decide) (by decide) (fun e => by cases e) (by omega) (by decide), rfl⟩
        · cases h
  split at h
  · unfold quotS at h
    split at h
    · cases h
    · split at h
      · rename_i hn
        cases h
        obtain ⟨c, r, -, -, -, hl⟩ := name_small hn
        exact ⟨tkG_plain (by decide) (by decide) (fun e => by cases e) (by decide) (by omega), rfl⟩
      · cases h
  split at h
  · unfold curS at h
    split at h
    · cases h
      refine ⟨tkG_plain (by decide) (by decide) (fun e => rfl) (by decide) ?_, rfl⟩
      have := List.length_take_le 3 (c :: r)
      omega
    · cases h
  · unfold markS at h
    split at h
    · cases h; exact ⟨tkG_sign (by decide), rfl⟩
    · split at h
      · cases h; exact ⟨tkG_sign (by show [c].length ≤ 2; simp), rfl⟩
      · cases h
theorem Ends.cons {t : Tk} {ts : List Tk} (h : Ends ts) (hne : ts ≠ []) : Ends (t :: ts) := by
  intro j hj hk
  have hp := List.length_pos_iff.2 hne
  cases j with
  | zero => rw [List.length_cons]; omega
  | succ j =>
    have := h j (by rw [List.length_cons] at hj; omega) hk
    rw [List.length_cons]; omega
theorem scan_good : ∀ (l : List UInt8) (pos : Int) (k s : Nat) (ts : List Tk), scanS l pos k s = .ok ts → (∀ t ∈ ts, TkG t ∧ pos ≤ t.pos ∧ t.pos ≤ pos + l.length) ∧ Ends ts ∧ ts ≠ []
  | [], pos, k, _, ts, h => by
    unfold scanS at h
    cases h
    refine ⟨fun t ht => ?_, fun j hj hk => ?_, by simp⟩
    · obtain rfl := List.mem_singleton.1 ht
      exact ⟨tkG_plain (by decide) (by decide) (fun e => rfl) (by decide) (by decide), Int.le_refl _, by simp⟩
    · have : j = 0 := by simp at hj; omega
      subst this; exact absurd (show (0 : Int) = 0 from rfl) hk
  | c :: r, pos, k, s + 1, ts, h => by
    unfold scanS at h
    obtain ⟨h1, h2, h3⟩ := scan_good r (pos + 1) k s ts h
    refine ⟨fun t ht => ?_, h2, h3⟩
    obtain ⟨a, b, d⟩ := h1 t ht
    exact ⟨a, by omega, by rw [List.length_cons]; omega⟩
  | c :: r, pos, k, 0, ts, h => by
    have go : ∀ s, scanS r (pos + 1) k s = .ok ts → (∀ t ∈ ts, TkG t ∧ pos ≤ t.pos ∧ t.pos ≤ pos + (c :: r).length) ∧ Ends ts ∧ ts ≠ [] := fun s hs => by
      obtain ⟨h1, h2, h3⟩ := scan_good r (pos + 1) k s ts hs
      refine ⟨fun t ht => ?_, h2, h3⟩
      obtain ⟨a, b, d⟩ := h1 t ht
      exact ⟨a, by omega, by rw [List.length_cons]; omega⟩
    unfold scanS at h
    split at h
    · exact go 0 h
    split at h
    · exact go _ h
    split at h
    · cases h
    · rename_i t n ht
      split at h
      · cases h
      · rename_i hk
        split at h
        · cases h
        · rename_i us hus
          cases h
          obtain ⟨h1, h2, h3⟩ := scan_good r (pos + 1) (k + 1) _ us hus
          refine ⟨fun u hu => ?_, h2.cons h3, by simp⟩
          rcases List.mem_cons.1 hu with rfl | hu
          · obtain ⟨a, b⟩ := tok_good ht
            exact ⟨a, by omega, by rw [List.length_cons]; omega⟩
          · obtain ⟨a, b, d⟩ := h1 u hu
            exact ⟨a, by omega, by rw [List.length_cons]; omega⟩
/-- what a scan makes is well formed -/
theorem scanT_good {l : List UInt8} {ts : List Tk} (h : scanT l = .ok ts) : (∀ t ∈ ts, TkOk t) ∧ (∀ t ∈ ts, TkZ t) ∧ Ends ts ∧ ts ≠ [] := by
  unfold scanT at h
  split at h
  · cases h
  · rename_i hl
    obtain ⟨h1, h2, h3⟩ := scan_good l 0 0 0 ts h
    refine ⟨fun t ht => ?_, fun t ht => (h1 t ht).1.z, h2, h3⟩
    obtain ⟨⟨hn, hs, -⟩, hp, hq⟩ := h1 t ht
    exact ⟨WalkArith.wf_i64 (by omega), WalkArith.wf_i64 (by omega), by omega⟩
end Go.Proofs.YtcndknkdhlmdnaaGreatDoor

/-
  usanceref07's parser: all its parts together.
-/
namespace Go.Proofs.YtcndknkdhlmdnaaGreatDoor
open Go.RowKit
set_option maxRecDepth 100000

/-- what is read must be all that there is -/
def endX (x : Rd) : Except (Int × Int) Nd := match x with
  | .error e => .error e
  | .ok (t, r) => if (hd r).kind = 0 then .ok t else .error (74, (hd r).pos)
def exprR (l : List UInt8) : Except (Int × Int) Nd := match scanT l with
  | .error e => .error e
  | .ok ts => endX (rd .expr 0 ts)
end Go.Proofs.YtcndknkdhlmdnaaGreatDoor
