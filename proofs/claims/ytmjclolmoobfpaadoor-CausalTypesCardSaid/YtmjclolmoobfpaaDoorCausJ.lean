/-
  causal.all: the walks of the iterator's inner functions.
-/
import Derived.Test.YtmjclolmoobfpaaDoorCausI
namespace Go.Proofs.YtmjclolmoobfpaaDoor
open Go.RowKit Go.Shelf
set_option maxRecDepth 100000
attribute [local go_sem] Oper.semAt_some

set_option maxHeartbeats 4000000 in
/-- the inner function: a term's terms, as far as no round says 'no more' -/
theorem walkIn (F : Fence) (hd : F.depth = none) (h41 : F.fn 41) (hro : F.round = none) (l n₀ M : Nat) (W₀ : World) (S : Nat → Obj → Prop) (bY bw : Nat)
    (hS : ∀ k, k < n₀ → ∀ o, ¬ S k o) (hSB : ∀ k o, S k o → k < W₀.heap.size ∨ strRow o) (hSy : W₀.heap.size ≤ bY) (hSw : W₀.heap.size ≤ bw)
    (J Jx : List (El n₀ W₀) → World → Prop) (hJ : ∀ xs W W', J xs W → W.grownBy W' none → J xs W')
    (hY : ∀ m xs x W, J xs W → xs.length < M → YieldAt F m Tryd.prog l x.enc W fun e W' =>
      (e = .returned (.bool true) ∧ J (xs ++ [x]) W' ∧ Keeps S W W') ∨ (e = .returned (.bool false) ∧ Jx (xs ++ [x]) W')) (N : Nat) :
    ∀ (t : Tm), SizeOf.sizeOf t < N → ∀ (n : Nat) (d : Int) (a : Option Addr) (cap : Nat) (h : t.hold n₀ W₀ a cap) (xs : List (El n₀ W₀)) (W : World), Keeps S W₀ W → J xs W →
      W.cell? ⟨bY, 0, none⟩ = some (.func (.yield l) #[] #[]) → W.cell? ⟨bw, 0, none⟩ = some (.func (.func 41) #[] #[.pointer (some ⟨bY, 0, none⟩), .pointer (some ⟨bw, 0, none⟩)]) →
      xs.length + (pre n₀ W₀ d t a cap h).length ≤ M →
      CallsIn F n Tryd.prog 41 #[.agg #[.int .i64 t.op, .int .i64 t.n, .string t.s, .slice a t.kids.length cap], .int .i64 d, .pointer (some ⟨bY, 0, none⟩), .pointer (some ⟨bw, 0, none⟩)] W fun e W' =>
        (e = .returned (.bool true) ∧ J (xs ++ pre n₀ W₀ d t a cap h) W' ∧ Keeps S W W') ∨ (e = .returned (.bool false) ∧ ∃ q, q <+: pre n₀ W₀ d t a cap h ∧ Jx (xs ++ q) W') := by
  induction N with
  | zero => intro t ht; omega
  | succ N ih =>
  intro t ht
  cases t with
  | mk op n' s ks =>
  intro n d a cap h xs W hK hJ0 cy cw hM
  show CallsIn F n Tryd.prog 41 #[.agg #[.int .i64 op, .int .i64 n', .string s, .slice a ks.length cap], .int .i64 d, .pointer (some ⟨bY, 0, none⟩), .pointer (some ⟨bw, 0, none⟩)] W _
  have hdd : ∀ k : Nat, (F.depth.isSome = true → 1 ≤ k) := fun k h => by rw [hd] at h; cases h
  have hkl : ks.length ≤ cap ∧ cap ≤ maxLen := ⟨h.2.2.2.1, h.2.2.2.2.1⟩
  have hm := hkl
  unfold maxLen at hm
  rw [pre] at hM ⊢
  obtain ⟨x, hx⟩ : ∃ x : El n₀ W₀, x = ⟨d, .mk op n' s ks, a, cap, h⟩ := ⟨_, rfl⟩
  rw [← hx] at hM ⊢
  obtain ⟨W1, hW1⟩ : ∃ W1, W1 = W.alloc (.cells #[.int .i64 op, .int .i64 n', .string s, .slice a ks.length cap] 24) := ⟨_, rfl⟩
  have hY1 := hY (n - 1) xs x W1 (hW1 ▸ hJ xs W _ hJ0 (World.grownBy_alloc W _ none)) (by simp at hM; omega)
  have hxe : x.enc = #[.int .i64 d, .agg #[.int .i64 op, .int .i64 n', .string s, .slice a ks.length cap]] := by rw [hx]; rfl
  rw [hxe, hW1] at hY1
  obtain ⟨fn, tmps, assign, body, hy, hR⟩ := hY1
  clear hxe hY
  have hK1 : Keeps S W W1 := hW1 ▸ (Keeps.refl S W).alloc _
  have hSb : W₀.heap.size ≤ W.heap.size := hK.size
  have cy1 := hK1.cellN hSB hSy cy (fun _ e => by cases e) cy
  have cw1 := hK1.cellN hSB hSw cw (fun _ e => by cases e) cw
  have c31 := (cell_box W (.int .i64 op) (.int .i64 n') (.string s) (.slice a ks.length cap)).2.2.2
  have cx1 := cell_box W (.int .i64 op) (.int .i64 n') (.string s) (.slice a ks.length cap)
  have c01 := cx1.1
  rw [← hW1] at c31 c01
  rw [hW1] at cy1
  have HK1 := Lib.hid hK1
  have HC := Lib.hid (show _ ∧ _ ∧ _ from ⟨cw1, c31, c01⟩)
  have HK := Lib.hid hK
  have HSB := Lib.hid hSB
  have HSb := Lib.hid hSb
  have HSw := Lib.hid hSw
  have HSy := Lib.hid hSy
  clear hK1 cw1 c31 c01 hK hSB hSb hSw hSy
  refine callsIn_of_wp Tryd.func41 rfl h41 ?_ hro
  simp only [Tryd.ntmps41, List.size_toArray, List.length_cons, List.length_nil, Nat.reduceAdd, Nat.reduceSub, Array.replicate_succ, Array.replicate_zero, List.push_toArray, List.append_toArray, List.nil_append, List.cons_append]
  gi_wp2_with (first
    | ((try refine ⟨hdd _, ?_⟩); refine hR.mono ?_; clear hR; rintro e W2 (⟨rfl, hJ2, hK2⟩ | ⟨rfl, hx2⟩); first | (rw [← hW1] at hK2; have cw2 := hK2.cellN HSB.out HSw.out HC.out.1 (fun _ e => by cases e) HC.out.1; have c32 := hK2.cellN HSB.out HSb.out HC.out.2.2 (fun _ e => by cases e) HC.out.2.1; have cy2 : W2.cell? ⟨bY, 0, none⟩ = some (.func (.yield l) #[] #[]) := hK2.cellN HSB.out HSy.out (hW1.symm ▸ cy1) (fun _ e => by cases e) (hW1.symm ▸ cy1); have HW2 := Lib.hid (show _ ∧ _ from ⟨hJ2, HK1.out.trans hK2⟩); clear hJ2 hK2) | skip))
  · have IH := Lib.hid ih
    have HT := Lib.hid ht
    have HM := Lib.hid hM
    have hX := Lib.hid hx
    clear ih ht hM hx cw2 c32 cy2
    gi_loopw [17] (fun i wr => ∃ (k : Nat) (done : List (El n₀ W₀)) (h' : Tm.holds n₀ W₀ (ks.drop k) a k), k ≤ ks.length ∧ i = .int .i64 k ∧ Hid (done ++ pres n₀ W₀ (wrap64 (d + 1)) (ks.drop k) a k h' = pres n₀ W₀ (wrap64 (d + 1)) ks a 0 h.2.2.2.2.2) ∧
      Hid (J (xs ++ x :: done) wr ∧ Keeps S W wr)) (fun i _ => (ks.length - (intOf i).toNat))
    case atStart => exact ⟨0, [], h.2.2.2.2.2, Nat.zero_le _, rfl, rfl, by show _ ∧ _; simpa using HW2.out⟩
    case round =>
      obtain ⟨k, done, h', hk, rfl, HD, HR⟩ := hrel
      clear HW2
      by_cases hlt : k < ks.length
      · obtain ⟨b, off, A0⟩ := h.kidAt k hlt
        have A0 : Tm.At n₀ W₀ a k ks[k] b off (kidA W₀ a k).1 (kidA W₀ a k).2 := A0
        obtain ⟨rfl, hb, c0, c1, c2, c3, hk1⟩ := A0.keeps hS (HK.out.trans HR.out.2)
        have kk := hk1.bounds
        have wk1 := kk.1
        have wk2 := kk.2.1
        have kk3 := kk.2.2.2
        obtain ⟨Wk, hWk⟩ : ∃ Wk, Wk = wr.alloc (.cells #[.int .i64 ks[k].op, .int .i64 ks[k].n, .string ks[k].s, .slice (kidA W₀ (some ⟨b, off, none⟩) k).1 ks[k].kids.length (kidA W₀ (some ⟨b, off, none⟩) k).2] 24) := ⟨_, rfl⟩
        have hKk : Keeps S wr Wk := hWk ▸ (Keeps.refl S wr).alloc _
        have e1 : ks.drop k = ks[k] :: ks.drop (k + 1) := List.drop_eq_getElem_cons hlt
        have hcall := IH.out ks[k] (kid_size hlt HT.out) (n - 1) (wrap64 (d + 1)) (kidA W₀ (some ⟨b, off, none⟩) k).1 (kidA W₀ (some ⟨b, off, none⟩) k).2 (Tm.holds.head (e1 ▸ h')) (xs ++ x :: done) Wk
          ((HK.out.trans HR.out.2).trans hKk) (hJ _ wr _ HR.out.1 (hWk ▸ World.grownBy_alloc wr _ none))
          (hKk.cellN HSB.out HSy.out (HR.out.2.cellN HSB.out HSy.out cy (fun _ e => by cases e) cy) (fun _ e => by cases e) (HR.out.2.cellN HSB.out HSy.out cy (fun _ e => by cases e) cy)) (hKk.cellN HSB.out HSw.out (HR.out.2.cellN HSB.out HSw.out cw (fun _ e => by cases e) cw) (fun _ e => by cases e) (HR.out.2.cellN HSB.out HSw.out cw (fun _ e => by cases e) cw))
          (by have h1 := HM.out; have h2 := congrArg List.length HD.out; rw [pres_cons e1 h'] at h2; simp only [List.length_append, List.length_cons] at h1 h2 ⊢; omega)
        have cwk := hKk.cellN HSB.out HSw.out (HR.out.2.cellN HSB.out HSw.out cw (fun _ e => by cases e) cw) (fun _ e => by cases e) (HR.out.2.cellN HSB.out HSw.out cw (fun _ e => by cases e) cw)
        rw [hWk] at cwk hcall
        have HKk := Lib.hid hKk
        clear hk1 kk hKk
        gi_wp2_with (((try refine ⟨hdd _, ?_⟩); gi_at_call 41; refine hcall.mono ?_; clear hcall; rintro e W3 (⟨rfl, hJ3, hK3⟩ | ⟨rfl, q, hq, hx3⟩)))
        · go_roundw
          case rel =>
            refine ⟨k + 1, done ++ pre n₀ W₀ (wrap64 (d + 1)) ks[k] _ _ (Tm.holds.head (e1 ▸ h')), Tm.holds.tail (e1 ▸ h'), by omega, by go_num, (List.append_assoc _ _ _).trans ((congrArg (done ++ ·) (pres_cons e1 h').symm).trans HD.out), ?_⟩
            show _ ∧ _
            exact ⟨by simpa [List.append_assoc] using hJ3, HR.out.2.trans (HKk.out.trans (hWk ▸ hK3))⟩
          case measure => simp [intOf]; omega
        · go_ret
          refine .inr ⟨rfl, x :: (done ++ q), ?_, by simpa [List.append_assoc] using hx3⟩
          obtain ⟨r, hr⟩ := hq
          have e2 := HD.out
          rw [pres_cons e1 h', ← hr] at e2
          exact ⟨r ++ pres n₀ W₀ (wrap64 (d + 1)) (ks.drop (k + 1)) (some ⟨b, off, none⟩) (k + 1) (Tm.holds.tail (e1 ▸ h')), by rw [← e2]; simp [List.append_assoc]⟩
      · gi_wp2
        go_ret
        have e1 : ks.drop k = [] := List.drop_of_length_le (by omega)
        have := HD.out
        rw [pres_nil e1 h', List.append_nil] at this
        subst this
        exact .inl ⟨rfl, HR.out.1, HR.out.2⟩
  · go_ret
    exact .inr ⟨rfl, [x], ⟨_, rfl⟩, hx2⟩

end Go.Proofs.YtmjclolmoobfpaaDoor
