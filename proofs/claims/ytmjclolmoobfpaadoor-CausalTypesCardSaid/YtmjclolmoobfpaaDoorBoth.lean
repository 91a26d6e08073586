/-
  The walks of usancelaw14.deep and CausalBoth.
-/
import Derived.Test.YtmjclolmoobfpaaDoorKids
import Derived.Test.YtmjclolmoobfpaaDoorBothLaw
namespace Go.Proofs.YtmjclolmoobfpaaDoor
open Go.RowKit
set_option maxRecDepth 100000

theorem deepB_mk (op n : Int) (s : ByteArray) (ks : List Tm) (m : Nat) (hm : 2 ≤ m) : deepB (.mk op n s ks) m = true ↔ ∃ k ∈ ks, deepB k (m - 1) = true := by
  unfold deepB
  rw [decide_eq_true_iff, Tm.tall]
  have : m - 1 ≤ talls ks ↔ ∃ k ∈ ks, m - 1 ≤ k.tall := by
    induction ks with
    | nil => rw [talls]; simp; omega
    | cons k ks ih => rw [talls]; simp only [List.mem_cons, exists_eq_or_imp]; rw [← ih]; omega
  simp only [decide_eq_true_iff]
  rw [← this]
  omega

set_option maxHeartbeats 4000000 in
theorem deep_any (N : Nat) : ∀ (t : Tm), SizeOf.sizeOf t < N → ∀ (m : Nat) (a : Option Addr) (cap n₀ : Nat) (w : World), m ≤ 200 → t.hold n₀ w a cap → n₀ ≤ w.heap.size →
    Calls Tryd.prog 11 #[.agg #[.int .i64 t.op, .int .i64 t.n, .string t.s, .slice a t.kids.length cap], .int .i64 m] w fun e w' => e = .returned (.bool (deepB t m)) ∧ Below w.heap.size w w' := by
  induction N with
  | zero => intro t ht; omega
  | succ N ih =>
  intro t ht
  cases t with
  | mk op n s ks =>
  intro m a cap n₀ w hm2 hh hn
  show Calls Tryd.prog 11 #[.agg #[.int .i64 op, .int .i64 n, .string s, .slice a ks.length cap], .int .i64 m] w _
  have hkl : ks.length ≤ cap ∧ cap ≤ maxLen := ⟨hh.2.2.2.1, hh.2.2.2.2.1⟩
  have hm := hkl
  unfold maxLen at hm
  by_cases h1 : (m : Int) ≤ 1
  · have e := Lib.hid (show deepB (.mk op n s ks) m = true by unfold deepB; rw [decide_eq_true_iff]; have := tall_pos (.mk op n s ks); omega)
    go_enter Tryd.func11, Tryd.ntmps11
    go_wp2
    go_ret
    exact ⟨ret_bool e.out.symm, below1 _ _⟩
  obtain ⟨W1, hW1⟩ : ∃ W1, W1 = w.alloc (.cells #[.int .i64 op, .int .i64 n, .string s, .slice a ks.length cap] 24) := ⟨_, rfl⟩
  have hB1 : Below w.heap.size w W1 := hW1 ▸ below1 _ _
  have hsz : W1.heap.size = w.heap.size + 1 := by rw [hW1]; simp
  have hb4 : Box4 W1 w.heap.size 24 (.int .i64 op) (.int .i64 n) (.string s) (.slice a ks.length cap) := hW1 ▸ Box4.new _ _ _ _ _ _
  have x3 := hb4.cells.2.2.2
  have HC := Lib.hid (show ∀ cur, Below W1.heap.size W1 cur → cur.cell? ⟨w.heap.size, 3, none⟩ = some (.slice a ks.length cap) from fun cur (hb : Below W1.heap.size W1 cur) => (hb.cell (p := ⟨w.heap.size, 3, none⟩) (show w.heap.size < W1.heap.size by omega)).trans x3)
  have HH := Lib.hid (show (Tm.mk op n s ks).hold n₀ W1 a cap from hh.below (hB1.mono hn))
  have IH := Lib.hid ih
  have HT := Lib.hid ht
  have HB1 := Lib.hid hB1
  have HSZ := Lib.hid hsz
  have HN := Lib.hid hn
  clear hb4 x3 hh ih ht hB1 hsz hn
  go_enter Tryd.func11, Tryd.ntmps11
  go_wp2
  rw [← hW1]
  have HW1 := Lib.hid hW1
  clear hW1
  go_loopw [5] (fun i wr => ∃ k : Nat, k ≤ ks.length ∧ i = .int .i64 k ∧ Hid (∀ j (hj : j < ks.length), j < k → deepB ks[j] (m - 1) = false) ∧ Hid (Below W1.heap.size W1 wr)) (fun i _ => (ks.length - (intOf i).toNat))
  case atStart => exact ⟨0, Nat.zero_le _, rfl, fun j hj h => by omega, Below.refl _ _⟩
  case round =>
    obtain ⟨k, hk, rfl, HD, HR⟩ := hrel
    have y3 := HC.out _ HR.out
    by_cases hlt : k < ks.length
    · obtain ⟨b, off, a', cap', A⟩ := (HH.out.below (HR.out.mono (Nat.le_trans HN.out HB1.out.size))).kid k hlt
      obtain ⟨rfl, hb, c0, c1, c2, c3, hk1⟩ := A
      have HK := Lib.hid hk1
      clear hk1
      have hcall := IH.out ks[k] (kid_size hlt HT.out) (m - 1) a' cap' n₀ wr (by omega) HK.out (Nat.le_trans HN.out (Nat.le_trans HB1.out.size HR.out.size))
      have em : ((m - 1 : Nat) : Int) = (m : Int) - 1 := by omega
      rw [em] at hcall
      cases hq : deepB ks[k] (m - 1)
      · rw [hq] at hcall
        clear em
        have HQ := Lib.hid hq
        clear hq
        go_wp2_with (go_at_call 11; refine hcall.mono ?_; clear hcall; rintro e w' ⟨rfl, hb⟩)
        go_roundw
        case rel =>
          refine ⟨k + 1, by omega, by go_num, fun j hj h => ?_, HR.out.trans (hb.mono HR.out.size)⟩
          by_cases e : j = k
          · subst e; exact HQ.out
          · exact HD.out j hj (by omega)
        case measure => simp [intOf]; omega
      · rw [hq] at hcall
        have e := Lib.hid (show deepB (.mk op n s ks) m = true from (deepB_mk op n s ks m (by omega)).2 ⟨ks[k], List.getElem_mem hlt, hq⟩)
        clear em hq
        go_wp2_with (go_at_call 11; refine hcall.mono ?_; clear hcall; rintro e w' ⟨rfl, hb⟩)
        go_ret
        exact ⟨ret_bool e.out.symm, HB1.out.trans ((HR.out.trans (hb.mono HR.out.size)).mono HB1.out.size)⟩
    · have e := Lib.hid (show deepB (.mk op n s ks) m = false by
        rw [← Bool.not_eq_true, deepB_mk op n s ks m (by omega)]
        rintro ⟨q, hq, h⟩
        obtain ⟨j, hj, rfl⟩ := List.getElem_of_mem hq
        rw [HD.out j hj (by omega)] at h
        cases h)
      go_wp2
      go_ret
      exact ⟨ret_bool e.out.symm, HB1.out.trans (HR.out.mono HB1.out.size)⟩

/-- two terms laid beside each other, and a term of them -/
def pairO (a : Tm) (aa : Option Addr) (ac : Nat) (b : Tm) (ba : Option Addr) (bc : Nat) : Obj := .cells #[.int .i64 a.op, .int .i64 a.n, .string a.s, .slice aa a.kids.length ac, .int .i64 b.op, .int .i64 b.n, .string b.s, .slice ba b.kids.length bc] 24
def bothO (n : Nat) : Obj := .cells #[.int .i64 27, .int .i64 0, .string ⟨#[]⟩, .slice (some ⟨n, 0, none⟩) 2 2] 24
theorem both_hold {n₀ : Nat} {V : World} {a b : Tm} {aa ba : Option Addr} {ac bc : Nat} (hn : n₀ ≤ V.heap.size) (ha : a.hold n₀ V aa ac) (hb : b.hold n₀ V ba bc) :
    (bothT a b).hold ((V.alloc (pairO a aa ac b ba bc)).alloc (bothO V.heap.size)).heap.size ((V.alloc (pairO a aa ac b ba bc)).alloc (bothO V.heap.size)) (some ⟨V.heap.size, 0, none⟩) 2 := by
  have hB : Below V.heap.size V ((V.alloc (pairO a aa ac b ba bc)).alloc (bothO V.heap.size)) := (below1 _ _).trans ((below1 _ _).mono (by simp))
  have hz : ((V.alloc (pairO a aa ac b ba bc)).alloc (bothO V.heap.size)).heap.size = V.heap.size + 2 := by simp
  obtain ⟨W, hW⟩ : ∃ W, W = (V.alloc (pairO a aa ac b ba bc)).alloc (bothO V.heap.size) := ⟨_, rfl⟩
  have h0 : W.heap[V.heap.size]? = some (pairO a aa ac b ba bc) := by
    rw [hW]
    exact ((below1 (V.alloc (pairO a aa ac b ba bc)) _).block _ (by simp)).trans (World.alloc_heap_new V _)
  rw [← hW] at hz hB ⊢
  have ka := (ha.below (hB.mono hn)).mono (show n₀ ≤ W.heap.size by omega)
  have kb := (hb.below (hB.mono hn)).mono (show n₀ ≤ W.heap.size by omega)
  refine ⟨by decide, by decide, by decide, by show (2 : Nat) ≤ 2; omega, by decide, ?_⟩
  cases a with
  | mk o1 n1 s1 k1 =>
  cases b with
  | mk o2 n2 s2 k2 =>
  refine ⟨⟨V.heap.size, 0, aa, ac, rfl, by omega, ?_, ?_, ?_, ?_, ka⟩, ⟨V.heap.size, 0, ba, bc, rfl, by omega, ?_, ?_, ?_, ?_, kb⟩, trivial⟩
  all_goals (rw [World.cell?, h0]; rfl)

/-- where the law's three terms lie, in whatever world comes later -/
def Lies (B1 B2 : Nat) (a : Tm) (aa : Option Addr) (ac : Nat) (b : Tm) (ba : Option Addr) (bc : Nat) (cur : World) : Prop :=
  (cur.cell? ⟨B1, 0, none⟩ = some (.int .i64 a.op) ∧ cur.cell? ⟨B1, 1, none⟩ = some (.int .i64 a.n) ∧ cur.cell? ⟨B1, 2, none⟩ = some (.string a.s) ∧ cur.cell? ⟨B1, 3, none⟩ = some (.slice aa a.kids.length ac)) ∧
  (cur.cell? ⟨B2, 0, none⟩ = some (.int .i64 b.op) ∧ cur.cell? ⟨B2, 1, none⟩ = some (.int .i64 b.n) ∧ cur.cell? ⟨B2, 2, none⟩ = some (.string b.s) ∧ cur.cell? ⟨B2, 3, none⟩ = some (.slice ba b.kids.length bc))
theorem Lies.below {B1 B2 : Nat} {a : Tm} {aa : Option Addr} {ac : Nat} {b : Tm} {ba : Option Addr} {bc : Nat} {W W' : World} {n : Nat} (h : Lies B1 B2 a aa ac b ba bc W) (hb : Below n W W') (h1 : B1 < n) (h2 : B2 < n) : Lies B1 B2 a aa ac b ba bc W' :=
  ⟨⟨(hb.cell (p := ⟨B1, 0, none⟩) h1).trans h.1.1, (hb.cell (p := ⟨B1, 1, none⟩) h1).trans h.1.2.1, (hb.cell (p := ⟨B1, 2, none⟩) h1).trans h.1.2.2.1, (hb.cell (p := ⟨B1, 3, none⟩) h1).trans h.1.2.2.2⟩,
    ⟨(hb.cell (p := ⟨B2, 0, none⟩) h2).trans h.2.1, (hb.cell (p := ⟨B2, 1, none⟩) h2).trans h.2.2.1, (hb.cell (p := ⟨B2, 2, none⟩) h2).trans h.2.2.2.1, (hb.cell (p := ⟨B2, 3, none⟩) h2).trans h.2.2.2.2⟩⟩

end Go.Proofs.YtmjclolmoobfpaaDoor
