/-
  Texts that the statements' proofs rest on, one behind another: WithinW, MoreW.
-/
import Derived.Test.YtcndknkdhlmdnaaGreatDoorS26
import Derived.Deep.RegionHeld3
import Derived.Test.YtcndknkdhlmdnaaGreatDoorS03

/-
  usancelaw07.SyntaxWithin, walked.
-/
namespace Go.Proofs.YtcndknkdhlmdnaaGreatDoor
open Go.RowKit
set_option maxRecDepth 100000

set_option maxHeartbeats 8000000 in
theorem within_true (s : ByteArray) (w : World) (hs : s.size ≤ 140737488355328) (ht : TabS w) :
    Calls Tryz.prog 9 #[.string s] w fun e W' => e = .returned (.bool true) ∧ Below w.heap.size w W' := by
  have C0 := Lib.hid (shown7_any w ht)
  have HT := Lib.hid ht
  clear ht
  go_enter Tryz.func9, Tryz.ntmps9
  go_wp2_with fail
  (with_reducible refine Calls.mono C0.out ?_)
  rintro e w1 ⟨rfl, hb⟩
  have HB := Lib.hid hb
  clear hb C0
  have C1 := Lib.hid (qExpr_is s w1 (by unfold maxLen; omega) (HT.out.below HB.out))
  go_wp2_with fail
  (with_reducible refine Calls.mono C1.out ?_)
  rintro e w2 ⟨t, a, cp, f, k, rfl, hb, hx⟩
  have HX1 := Lib.hid hx
  replace HB := Lib.hid (HB.out.trans (hb.mono HB.out.size))
  clear hb C1 hx
  obtain ⟨W3, hW3⟩ : ∃ W, W = w2.alloc (.cells #[.int .i64 t.kind, .string t.text, .int .i64 t.n, .slice a t.kids.length cp, .int .i64 t.place] 24) := ⟨_, rfl⟩
  have N3 := Lib.hid (show NBox w2.heap.size t a cp W3 from hW3 ▸ NBox.make w2 t a cp)
  have B3 := Lib.hid (show Below w2.heap.size w2 W3 from hW3 ▸ nbelow1 _ _)
  have HB3 := Lib.hid (HB.out.trans (B3.out.mono HB.out.size))
  have hsz : ¬ 9223372036854775807 < 18 + s.size := by omega
  have hsz2 : ¬ 9223372036854775807 < 18 + s.size + 2 := by omega
  have HL := Lib.hid (show (⟨#[109, 111, 100, 117, 108, 101, 32, 97, 59, 32, 108, 101, 116, 32, 120, 32, 61, 32]⟩ ++ s ++ ⟨#[10, 59]⟩ : ByteArray).data.toList = preL ++ (s.data.toList ++ [10, 59]) by
    simp only [ByteArray.data_append, Array.toList_append, List.append_assoc]; rfl)
  have hl2 : (⟨#[109, 111, 100, 117, 108, 101, 32, 97, 59, 32, 108, 101, 116, 32, 120, 32, 61, 32]⟩ ++ s ++ ⟨#[10, 59]⟩ : ByteArray).size ≤ 140737488355348 := by
    rw [ByteArray.size_append, ByteArray.size_append]; show 18 + s.size + 2 ≤ _; omega
  unfold Nd.val
  go_upto_region 3 with fail
  rw [← hW3]
  clear hW3
  have C2 := Lib.hid (qModule_is _ W3 (Nat.le_trans hl2 (by decide)) (HT.out.below HB3.out))
  rw [HL.out] at C2
  clear hl2
  go_wp2_with fail
  (with_reducible refine Calls.mono C2.out ?_)
  rintro e w5 ⟨m, a2, cp2, f2, k2, rfl, hb, hx⟩
  have HX2 := Lib.hid hx
  have B5 := Lib.hid (show Below W3.heap.size W3 w5 from hb)
  clear hb C2 hx HL hsz hsz2
  obtain ⟨W6, hW6⟩ : ∃ W, W = w5.alloc (.cells #[.int .i64 m.kind, .string m.text, .int .i64 m.n, .slice a2 m.kids.length cp2, .int .i64 m.place] 24) := ⟨_, rfl⟩
  have M6 := Lib.hid (show NBox w5.heap.size m a2 cp2 W6 from hW6 ▸ NBox.make w5 m a2 cp2)
  have B6 := Lib.hid (show Below w5.heap.size w5 W6 from hW6 ▸ nbelow1 _ _)
  have N6 := Lib.hid ((N3.out.below B5.out).below B6.out)
  have HB6 := Lib.hid (HB3.out.trans ((B5.out.trans (B6.out.mono B5.out.size)).mono HB3.out.size))
  unfold Nd.val
  go_upto_region 4 with fail
  rw [← hW6]
  clear hW6
  obtain ⟨⟨m0, m1, m2, m3, m4⟩, -⟩ := M6.out.cells
  have hml := M6.out.lt
  cases h1 : exprR s.data.toList with
  | error q =>
    obtain ⟨c, p⟩ := q
    rw [h1] at HX1
    have hk : (k != 0) = true := by rw [bne_iff_ne, HX1.out.1]; exact exprR_err h1
    clear h1
    cases h2 : moduleR (preL ++ (s.data.toList ++ [10, 59])) with
    | error q2 =>
      obtain ⟨c2, p2⟩ := q2
      rw [h2] at HX2
      have hk2 : (k2 == 0) = false := by rw [beq_eq_false_iff_ne, HX2.out.1]; exact moduleR_err h2
      have hml0 : m.kids.length = 0 := by rw [HX2.out.2.2.1]; rfl
      rw [hml0] at m3
      clear h2 hml0
      go_wp2_with fail
      go_ret
      exact ⟨rfl, HB6.out⟩
    | ok m' =>
      rw [h2] at HX2
      obtain ⟨-, -, hk2, -⟩ := HX2.out
      subst hk2
      clear h2
      go_wp2_with fail
      go_ret
      exact ⟨rfl, HB6.out⟩
  | ok t' =>
    rw [h1] at HX1
    obtain ⟨ht1, -, hk1, hl1⟩ := HX1.out
    replace ht1 := ht1.symm
    subst hk1 ht1
    cases h2 : moduleR (preL ++ (s.data.toList ++ [10, 59])) with
    | error q2 =>
      obtain ⟨c2, p2⟩ := q2
      rw [h2] at HX2
      have hk2 : (k2 != 0) = true := by rw [bne_iff_ne, HX2.out.1]; exact moduleR_err h2
      have hk3 : (k2 == 0) = false := by rw [beq_eq_false_iff_ne]; rw [bne_iff_ne] at hk2; exact hk2
      have hml0 : m.kids.length = 0 := by rw [HX2.out.2.2.1]; rfl
      rw [hml0] at m3
      clear h1 h2 hml0 hl1
      go_wp2_with fail
      go_ret
      exact ⟨rfl, HB6.out⟩
    | ok m' =>
      rw [h2] at HX2
      obtain ⟨hm1, -, hk2, hl2⟩ := HX2.out
      replace hm1 := hm1.symm
      subst hk2 hm1
      obtain ⟨x, rfl, hsame⟩ := within_law (readR_ok (show readR (rd .expr 0) s.data.toList = .ok t from h1)) (readR_ok (show readR modR _ = .ok m from h2))
      obtain ⟨b0, o0, x0, y0, A0⟩ := hl2.kid 0 (show 0 < 1 by decide)
      obtain rfl := A0.addr
      obtain ⟨b1, o1, x1, y1, A1⟩ := A0.held.kid 0 (show 0 < 1 by decide)
      obtain rfl := A1.addr
      have HS := Lib.hid hsame
      have hlo0 : b0 < w5.heap.size := A0.ok.2
      have hlo1 : b1 < w5.heap.size := A1.ok.2
      have HXh := Lib.hid (show x.hold w5.heap.size w5 x1 y1 from Nd.lies.hold x (lies_move A1.held (KeepsV.refl _ _) fun b hb => hb.2))
      have HTh := Lib.hid (show t.hold w5.heap.size w5 a cp from (Nd.lies.hold t (lies_move hl1 (KeepsV.refl _ _) fun b hb => hb.2)).below (B3.out.trans (B5.out.mono B3.out.size)) |>.mono (Nat.le_trans B3.out.size B5.out.size))
      have k3 : W6.cell? ⟨b0, o0 + 3, none⟩ = some (.slice (some ⟨b1, o1, none⟩) 1 y0) := by have := A0.c3; simp only [Nat.zero_mul, Nat.add_zero] at this; exact (B6.out.cell (p := ⟨b0, o0 + 3, none⟩) hlo0).trans this
      have e0 : W6.cell? ⟨b1, o1, none⟩ = some (.int .i64 x.kind) := by have := A1.c0; simp only [Nat.zero_mul, Nat.add_zero] at this; exact (B6.out.cell (p := ⟨b1, o1, none⟩) hlo1).trans this
      have e1 : W6.cell? ⟨b1, o1 + 1, none⟩ = some (.string x.text) := by have := A1.c1; simp only [Nat.zero_mul, Nat.add_zero] at this; exact (B6.out.cell (p := ⟨b1, o1 + 1, none⟩) hlo1).trans this
      have e2 : W6.cell? ⟨b1, o1 + 2, none⟩ = some (.int .i64 x.n) := by have := A1.c2; simp only [Nat.zero_mul, Nat.add_zero] at this; exact (B6.out.cell (p := ⟨b1, o1 + 2, none⟩) hlo1).trans this
      have e3 : W6.cell? ⟨b1, o1 + 3, none⟩ = some (.slice x1 x.kids.length y1) := by have := A1.c3; simp only [Nat.zero_mul, Nat.add_zero] at this; exact (B6.out.cell (p := ⟨b1, o1 + 3, none⟩) hlo1).trans this
      have e4 : W6.cell? ⟨b1, o1 + 4, none⟩ = some (.int .i64 x.place) := by have := A1.c4; simp only [Nat.zero_mul, Nat.add_zero] at this; exact (B6.out.cell (p := ⟨b1, o1 + 4, none⟩) hlo1).trans this
      obtain ⟨⟨n0, n1, n2, n3, n4⟩, -⟩ := N6.out.cells
      have hlt0 : w2.heap.size < W6.heap.size := N6.out.lt
      have hlt1 : b0 < W6.heap.size := Nat.lt_of_lt_of_le hlo0 B6.out.size
      have hlt2 : b1 < W6.heap.size := Nat.lt_of_lt_of_le hlo1 B6.out.size
      replace m3 : W6.cell? ⟨w5.heap.size, 3, none⟩ = some (.slice (some ⟨b0, o0, none⟩) 1 cp2) := m3
      have HK := Lib.hid (show ∀ cur, Below W6.heap.size W6 cur → Below W6.heap.size W6 cur ∧ cur.cell? ⟨w5.heap.size, 3, none⟩ = some (.slice (some ⟨b0, o0, none⟩) 1 cp2) ∧ cur.cell? ⟨b0, o0 + 3, none⟩ = some (.slice (some ⟨b1, o1, none⟩) 1 y0) ∧ cur.cell? ⟨b1, o1, none⟩ = some (.int .i64 x.kind) ∧ cur.cell? ⟨b1, o1 + 1, none⟩ = some (.string x.text) ∧ cur.cell? ⟨b1, o1 + 2, none⟩ = some (.int .i64 x.n) ∧ cur.cell? ⟨b1, o1 + 3, none⟩ = some (.slice x1 x.kids.length y1) ∧ cur.cell? ⟨b1, o1 + 4, none⟩ = some (.int .i64 x.place) ∧ cur.cell? ⟨w2.heap.size, 0, none⟩ = some (.int .i64 t.kind) ∧ cur.cell? ⟨w2.heap.size, 1, none⟩ = some (.string t.text) ∧ cur.cell? ⟨w2.heap.size, 2, none⟩ = some (.int .i64 t.n) ∧ cur.cell? ⟨w2.heap.size, 3, none⟩ = some (.slice a t.kids.length cp) ∧ cur.cell? ⟨w2.heap.size, 4, none⟩ = some (.int .i64 t.place) from fun cur hc => by
        have q : ∀ (b o : Nat), b < W6.heap.size → cur.cell? ⟨b, o, none⟩ = W6.cell? ⟨b, o, none⟩ := fun b o h => hc.cell (p := ⟨b, o, none⟩) h
        exact ⟨hc, (q _ _ hml).trans m3, (q _ _ hlt1).trans k3, (q _ _ hlt2).trans e0, (q _ _ hlt2).trans e1, (q _ _ hlt2).trans e2, (q _ _ hlt2).trans e3, (q _ _ hlt2).trans e4, (q _ _ hlt0).trans n0, (q _ _ hlt0).trans n1, (q _ _ hlt0).trans n2, (q _ _ hlt0).trans n3, (q _ _ hlt0).trans n4⟩)
      have R := Lib.hid (show ∀ cur, Below W6.heap.size W6 cur → Calls Tryz.prog 30 #[.agg #[.int .i64 x.kind, .string x.text, .int .i64 x.n, .slice x1 x.kids.length y1, .int .i64 x.place], .agg #[.int .i64 t.kind, .string t.text, .int .i64 t.n, .slice a t.kids.length cp, .int .i64 t.place]] cur fun e W' => e = .returned (.bool (sameN x t)) ∧ Below W6.heap.size W6 W' from fun cur hc =>
        (rSame_any x t x1 y1 a cp w5.heap.size cur (HXh.out.below (B6.out.trans (hc.mono B6.out.size))) (HTh.out.below (B6.out.trans (hc.mono B6.out.size))) (Nat.le_trans B6.out.size hc.size)).mono (by rintro e W' ⟨rfl, hb⟩; exact ⟨rfl, hc.trans (hb.mono hc.size)⟩))
      rw [HS.out] at R
      clear h1 h2 hl1 hl2 A0 A1 hsame
      go_upto_region 8 with fail
      have hb := Below.refl W6.heap.size W6
      go_region_held3 (fun cur => Below W6.heap.size W6 cur ∧ cur.cell? ⟨w5.heap.size, 3, none⟩ = some (.slice (some ⟨b0, o0, none⟩) 1 cp2) ∧ cur.cell? ⟨b0, o0 + 3, none⟩ = some (.slice (some ⟨b1, o1, none⟩) 1 y0) ∧ cur.cell? ⟨b1, o1, none⟩ = some (.int .i64 x.kind) ∧ cur.cell? ⟨b1, o1 + 1, none⟩ = some (.string x.text) ∧ cur.cell? ⟨b1, o1 + 2, none⟩ = some (.int .i64 x.n) ∧ cur.cell? ⟨b1, o1 + 3, none⟩ = some (.slice x1 x.kids.length y1) ∧ cur.cell? ⟨b1, o1 + 4, none⟩ = some (.int .i64 x.place) ∧ cur.cell? ⟨w2.heap.size, 0, none⟩ = some (.int .i64 t.kind) ∧ cur.cell? ⟨w2.heap.size, 1, none⟩ = some (.string t.text) ∧ cur.cell? ⟨w2.heap.size, 2, none⟩ = some (.int .i64 t.n) ∧ cur.cell? ⟨w2.heap.size, 3, none⟩ = some (.slice a t.kids.length cp) ∧ cur.cell? ⟨w2.heap.size, 4, none⟩ = some (.int .i64 t.place))
        (first | exact HK.out _ hb | exact HK.out _ hb.drew)
        (first | (go_at_call 30; with_reducible refine Calls.mono (R.out _ ?_) ?_; (go_split_ands; assumption); rintro e w' ⟨rfl, hb⟩))
      go_wp2
      go_ret
      exact ⟨rfl, HB6.out.trans (hb.mono HB6.out.size)⟩
end Go.Proofs.YtcndknkdhlmdnaaGreatDoor

/-
  usancelaw07.SyntaxMore, walked.
-/
namespace Go.Proofs.YtcndknkdhlmdnaaGreatDoor
open Go.RowKit
set_option maxRecDepth 100000

theorem lie_prefix {av : Nat → Prop} {W : World} {a : Option Addr} : ∀ (ks us : List Nd) (i : Nat), Nd.lie av W (ks ++ us) a i → Nd.lie av W ks a i
  | [], _, _, _ => trivial
  | .mk _ _ _ _ _ :: r, us, i, ⟨h, hr⟩ => ⟨h, lie_prefix r us (i + 1) hr⟩
/-- a node, and the same with fewer kids -/
theorem lies_less {av : Nat → Prop} {W : World} {k n p : Int} {s : List UInt8} {ks us : List Nd} {a : Option Addr} {cp : Nat} (h : (mkN k s n (ks ++ us) p).lies av W a cp) : (mkN k s n ks p).lies av W a cp := by
  obtain ⟨h1, h2, h3, h4, h5, h6, h7⟩ := h
  exact ⟨h1, h2, h3, h4, by rw [List.length_append] at h5; omega, h6, lie_prefix ks us 0 h7⟩
set_option maxHeartbeats 8000000 in
theorem more_true (s : ByteArray) (w : World) (hs : s.size ≤ 140737488355328) (ht : TabS w) :
    Calls Tryz.prog 10 #[.string s] w fun e W' => e = .returned (.bool true) ∧ Below w.heap.size w W' := by
  have C0 := Lib.hid (shown7_any w ht)
  have HT := Lib.hid ht
  clear ht
  go_enter Tryz.func10, Tryz.ntmps10
  go_wp2_with fail
  (with_reducible refine Calls.mono C0.out ?_)
  rintro e w1 ⟨rfl, hb⟩
  have HB := Lib.hid hb
  clear hb C0
  have C1 := Lib.hid (qModule_is s w1 (by unfold maxLen; omega) (HT.out.below HB.out))
  go_wp2_with fail
  (with_reducible refine Calls.mono C1.out ?_)
  rintro e w2 ⟨t, a, cp, f, k, rfl, hb, hx⟩
  have HX1 := Lib.hid hx
  replace HB := Lib.hid (HB.out.trans (hb.mono HB.out.size))
  clear hb C1 hx
  obtain ⟨W3, hW3⟩ : ∃ W, W = w2.alloc (.cells #[.int .i64 t.kind, .string t.text, .int .i64 t.n, .slice a t.kids.length cp, .int .i64 t.place] 24) := ⟨_, rfl⟩
  have N3 := Lib.hid (show NBox w2.heap.size t a cp W3 from hW3 ▸ NBox.make w2 t a cp)
  have B3 := Lib.hid (show Below w2.heap.size w2 W3 from hW3 ▸ nbelow1 _ _)
  have HB3 := Lib.hid (HB.out.trans (B3.out.mono HB.out.size))
  have hsz : ¬ 9223372036854775807 < s.size + 13 := by omega
  have HL := Lib.hid (show (s ++ ⟨#[10, 32, 108, 101, 116, 32, 122, 122, 32, 61, 32, 49, 59]⟩ : ByteArray).data.toList = s.data.toList ++ 10 :: moreL by
    simp only [ByteArray.data_append, Array.toList_append]; rfl)
  have hl2 : (s ++ ⟨#[10, 32, 108, 101, 116, 32, 122, 122, 32, 61, 32, 49, 59]⟩ : ByteArray).size ≤ 140737488355348 := by
    rw [ByteArray.size_append]; show s.size + 13 ≤ _; omega
  unfold Nd.val
  go_upto_region 3 with fail
  rw [← hW3]
  clear hW3
  have C2 := Lib.hid (qModule_is _ W3 (Nat.le_trans hl2 (by decide)) (HT.out.below HB3.out))
  rw [HL.out] at C2
  clear hl2
  go_wp2_with fail
  (with_reducible refine Calls.mono C2.out ?_)
  rintro e w5 ⟨m, a2, cp2, f2, k2, rfl, hb, hx⟩
  have HX2 := Lib.hid hx
  have B5 := Lib.hid (show Below W3.heap.size W3 w5 from hb)
  clear hb C2 hx HL hsz
  obtain ⟨W6, hW6⟩ : ∃ W, W = w5.alloc (.cells #[.int .i64 m.kind, .string m.text, .int .i64 m.n, .slice a2 m.kids.length cp2, .int .i64 m.place] 24) := ⟨_, rfl⟩
  have M6 := Lib.hid (show NBox w5.heap.size m a2 cp2 W6 from hW6 ▸ NBox.make w5 m a2 cp2)
  have B6 := Lib.hid (show Below w5.heap.size w5 W6 from hW6 ▸ nbelow1 _ _)
  have N6 := Lib.hid ((N3.out.below B5.out).below B6.out)
  have HB6 := Lib.hid (HB3.out.trans ((B5.out.trans (B6.out.mono B5.out.size)).mono HB3.out.size))
  have hwl := Lib.hid (show w.heap.size ≤ w5.heap.size from Nat.le_trans HB3.out.size B5.out.size)
  unfold Nd.val
  go_upto_region 4 with fail
  rw [← hW6]
  clear hW6
  obtain ⟨⟨m0, m1, m2, m3, m4⟩, ⟨g0, g1, g2, g3, g4⟩⟩ := M6.out.cells
  have hml := M6.out.lt
  cases h1 : moduleR s.data.toList with
  | error q =>
    obtain ⟨c, p⟩ := q
    rw [h1] at HX1
    have hk : (k != 0) = true := by rw [bne_iff_ne, HX1.out.1]; exact moduleR_err h1
    clear h1
    go_wp2_with fail
    go_ret
    exact ⟨rfl, HB6.out⟩
  | ok t' =>
    rw [h1] at HX1
    obtain ⟨ht1, -, hk1, hl1⟩ := HX1.out
    replace ht1 := ht1.symm
    subst hk1 ht1
    cases h2 : moduleR (s.data.toList ++ 10 :: moreL) with
    | error q2 =>
      obtain ⟨c2, p2⟩ := q2
      rw [h2] at HX2
      have hk2 : (k2 != 0) = true := by rw [bne_iff_ne, HX2.out.1]; exact moduleR_err h2
      clear h1 h2 hl1
      go_wp2_with fail
      go_ret
      exact ⟨rfl, HB6.out⟩
    | ok m' =>
      rw [h2] at HX2
      obtain ⟨hm1, -, hk2, hl2⟩ := HX2.out
      replace hm1 := hm1.symm
      subst hk2 hm1
      obtain ⟨x, ks, p, q, rfl, rfl⟩ := more_law (readR_ok (show readR modR s.data.toList = .ok t from h1)) (readR_ok (show readR modR _ = .ok m from h2))
      have hll : (ks ++ [zzN q]).length = ks.length + 1 := by rw [List.length_append]; rfl
      have hcap := hl2.bounds.2.2.2.2
      rw [kids_mk, hll] at hcap
      have hc1 := hcap.1
      have hc2 := hcap.2
      unfold maxLen at hc2
      obtain ⟨b0, o0, x0, y0, A0⟩ := hl2.kid ks.length (by rw [kids_mk, hll]; omega)
      obtain rfl := A0.addr
      have hz : (mkN 1 x 0 (ks ++ [zzN q]) p).kids[ks.length]'(by rw [kids_mk, hll]; omega) = zzN q := by
        have hz' : ∀ (h : ks.length < (ks ++ [zzN q]).length), (ks ++ [zzN q])[ks.length]'h = zzN q := fun h => by simp
        exact hz' (by rw [hll]; omega)
      rw [hz] at A0
      obtain ⟨b1, o1, x1, y1, A1⟩ := A0.held.kid 0 (show 0 < 1 by decide)
      obtain rfl := A1.addr
      have hlo0 : b0 < w5.heap.size := A0.ok.2
      have hlo1 : b1 < w5.heap.size := A1.ok.2
      have HMh := Lib.hid (show (mkN 1 x 0 ks p).hold w5.heap.size w5 (some ⟨b0, o0, none⟩) cp2 from Nd.lies.hold _ (lies_move (lies_less hl2) (KeepsV.refl _ _) fun b hb => hb.2))
      have HTh := Lib.hid (show (mkN 1 x 0 ks p).hold w5.heap.size w5 a cp from (Nd.lies.hold _ (lies_move hl1 (KeepsV.refl _ _) fun b hb => hb.2)).below (B3.out.trans (B5.out.mono B3.out.size)) |>.mono (Nat.le_trans B3.out.size B5.out.size))
      have z0 : W6.cell? ⟨b0, o0 + ks.length * 5, none⟩ = some (.int .i64 3) := (B6.out.cell (p := ⟨b0, _, none⟩) hlo0).trans A0.c0
      have z1 : W6.cell? ⟨b0, o0 + ks.length * 5 + 1, none⟩ = some (.string ⟨#[122, 122]⟩) := (B6.out.cell (p := ⟨b0, _, none⟩) hlo0).trans A0.c1
      have z2 : W6.cell? ⟨b0, o0 + ks.length * 5 + 2, none⟩ = some (.int .i64 0) := (B6.out.cell (p := ⟨b0, _, none⟩) hlo0).trans A0.c2
      have z3 : W6.cell? ⟨b0, o0 + ks.length * 5 + 3, none⟩ = some (.slice (some ⟨b1, o1, none⟩) 1 y0) := (B6.out.cell (p := ⟨b0, _, none⟩) hlo0).trans A0.c3
      have z4 : ∃ v, W6.cell? ⟨b0, o0 + ks.length * 5 + 4, none⟩ = some (.int .i64 v) := ⟨_, (B6.out.cell (p := ⟨b0, _, none⟩) hlo0).trans A0.c4⟩
      have u2 : W6.cell? ⟨b1, o1 + 2, none⟩ = some (.int .i64 1000000) := by have := A1.c2; simp only [Nat.zero_mul, Nat.add_zero] at this; exact (B6.out.cell (p := ⟨b1, o1 + 2, none⟩) hlo1).trans this
      obtain ⟨v4, z4⟩ := z4
      obtain ⟨⟨n0, n1, n2, n3, n4⟩, -⟩ := N6.out.cells
      have hlt0 : w2.heap.size < W6.heap.size := N6.out.lt
      have hlt1 : b0 < W6.heap.size := Nat.lt_of_lt_of_le hlo0 B6.out.size
      have hlt2 : b1 < W6.heap.size := Nat.lt_of_lt_of_le hlo1 B6.out.size
      have hkc : ks.length ≤ cp2 := by omega
      replace m3 : W6.cell? ⟨w5.heap.size, 3, none⟩ = some (.slice (some ⟨b0, o0, none⟩) (ks.length + 1) cp2) := by have := m3; rw [kids_mk, hll] at this; exact this
      replace m0 : W6.cell? ⟨w5.heap.size, 0, none⟩ = some (.int .i64 1) := m0
      replace m1 : W6.cell? ⟨w5.heap.size, 1, none⟩ = some (.string ⟨x.toArray⟩) := m1
      replace m2 : W6.cell? ⟨w5.heap.size, 2, none⟩ = some (.int .i64 0) := m2
      replace m4 : W6.cell? ⟨w5.heap.size, 4, none⟩ = some (.int .i64 p) := m4
      replace n0 : W6.cell? ⟨w2.heap.size, 0, none⟩ = some (.int .i64 1) := n0
      replace n1 : W6.cell? ⟨w2.heap.size, 1, none⟩ = some (.string ⟨x.toArray⟩) := n1
      replace n2 : W6.cell? ⟨w2.heap.size, 2, none⟩ = some (.int .i64 0) := n2
      replace n3 : W6.cell? ⟨w2.heap.size, 3, none⟩ = some (.slice a ks.length cp) := n3
      replace n4 : W6.cell? ⟨w2.heap.size, 4, none⟩ = some (.int .i64 p) := n4
      have hlt5 : w2.heap.size < w5.heap.size := Nat.lt_of_lt_of_le (N3.out.lt) B5.out.size
      have hne1 : ¬ w2.heap.size = w5.heap.size := by omega
      have hne2 : ¬ b1 = w5.heap.size := by omega
      have HL1 := Lib.hid hlo1
      have U5 := Lib.hid (show w5.cell? ⟨b1, o1 + 2, none⟩ = some (.int .i64 1000000) from by have := A1.c2; simp only [Nat.zero_mul, Nat.add_zero] at this; exact this)
      have HBw := Lib.hid (show Below w.heap.size w w5 from HB3.out.trans (B5.out.mono HB3.out.size))
      clear h1 h2 hl1 hl2 A0 A1 hz hll hcap hlo0 hlo1
      go_upto_region 10 with fail
      obtain ⟨W7, hW7⟩ : ∃ W, W = W6.setCell ⟨w5.heap.size, 3, none⟩ (.slice (some ⟨b0, o0, none⟩) ks.length cp2) := ⟨_, rfl⟩
      have B7 := Lib.hid (show Below w5.heap.size w5 W7 from hW7 ▸ B6.out.setCell (p := ⟨w5.heap.size, 3, none⟩) (Nat.le_refl _) _)
      have hs7 : W7.heap.size = W6.heap.size := by rw [hW7]; simp [World.setCell]
      have M7 := Lib.hid (show W7.heap[w5.heap.size]? = some (.cells #[.int .i64 1, .string ⟨x.toArray⟩, .int .i64 0, .slice (some ⟨b0, o0, none⟩) ks.length cp2, .int .i64 p] 24 (0, 0)) from hW7 ▸ heap_set M6.out 3 _)
      obtain ⟨W8, hW8⟩ : ∃ W, W = W7.alloc (.cells #[.int .i64 3, .string ⟨#[122, 122]⟩, .int .i64 0, .slice (some ⟨b1, o1, none⟩) 1 y0, .int .i64 v4] 24) := ⟨_, rfl⟩
      have E8 := Lib.hid (show Below W7.heap.size W7 W8 from hW8 ▸ nbelow1 _ _)
      have B8 := Lib.hid (B7.out.trans (E8.out.mono B7.out.size))
      have L8 := Lib.hid (show W8.heap[W6.heap.size]? = some (.cells #[.int .i64 3, .string ⟨#[122, 122]⟩, .int .i64 0, .slice (some ⟨b1, o1, none⟩) 1 y0, .int .i64 v4] 24 (0, 0)) by rw [hW8, ← hs7]; show (W7.heap.push _)[W7.heap.size]? = _; simp)
      have M8 := Lib.hid (show W8.heap[w5.heap.size]? = _ from (E8.out.block _ (by omega)).trans M7.out)
      have U8 := Lib.hid (show W8.cell? ⟨b1, o1 + 2, none⟩ = some (.int .i64 1000000) from (E8.out.cell (p := ⟨b1, o1 + 2, none⟩) (by show b1 < W7.heap.size; omega)).trans ((B7.out.cell (p := ⟨b1, o1 + 2, none⟩) (by show b1 < w5.heap.size; have := HL1.out; omega)).trans U5.out))
      rw [← hW7, ← hW8]
      have HS7 := Lib.hid hs7
      have hn : ∀ o v, W6.cell? ⟨w2.heap.size, o, none⟩ = some v → W8.cell? ⟨w2.heap.size, o, none⟩ = some v := fun o v h => (E8.out.cell (p := ⟨w2.heap.size, o, none⟩) (by show w2.heap.size < W7.heap.size; omega)).trans ((B7.out.cell (p := ⟨w2.heap.size, o, none⟩) hlt5).trans ((B6.out.cell (p := ⟨w2.heap.size, o, none⟩) hlt5).symm.trans h))
      have n0' := hn _ _ n0
      have n1' := hn _ _ n1
      have n2' := hn _ _ n2
      have n3' := hn _ _ n3
      have n4' := hn _ _ n4
      have m0' : W8.cell? ⟨w5.heap.size, 0, none⟩ = some (.int .i64 1) := by simp [World.cell?, M8.out]
      have m1' : W8.cell? ⟨w5.heap.size, 1, none⟩ = some (.string ⟨x.toArray⟩) := by simp [World.cell?, M8.out]
      have m2' : W8.cell? ⟨w5.heap.size, 2, none⟩ = some (.int .i64 0) := by simp [World.cell?, M8.out]
      have m3' : W8.cell? ⟨w5.heap.size, 3, none⟩ = some (.slice (some ⟨b0, o0, none⟩) ks.length cp2) := by simp [World.cell?, M8.out]
      have m4' : W8.cell? ⟨w5.heap.size, 4, none⟩ = some (.int .i64 p) := by simp [World.cell?, M8.out]
      have hl8 : w5.heap.size < W8.heap.size := (Array.getElem?_eq_some_iff.1 M8.out).1
      have hl9 : w2.heap.size < W8.heap.size := by omega
      have R := Lib.hid (show Calls Tryz.prog 33 #[.agg #[.int .i64 1, .string ⟨x.toArray⟩, .int .i64 0, .slice a ks.length cp, .int .i64 p], .agg #[.int .i64 1, .string ⟨x.toArray⟩, .int .i64 0, .slice (some ⟨b0, o0, none⟩) ks.length cp2, .int .i64 p]] W8 fun e W' => e = .returned (.bool true) ∧ Below W8.heap.size W8 W' from
        rSameAt_same (mkN 1 x 0 ks p) a cp (some ⟨b0, o0, none⟩) cp2 w5.heap.size W8 (HTh.out.below B8.out) (HMh.out.below B8.out) B8.out.size)
      clear hW7 hW8 hs7 hn n0 n1 n2 n3 n4 m0 m1 m2 m3 m4 z0 z1 z2 z3 z4 u2 g0 g1 g2 g3 g4 hml
      go_wp2_with fail
      (with_reducible refine Calls.mono R.out ?_)
      rintro e w9 ⟨rfl, hb⟩
      have HB9 := Lib.hid hb
      have L9 := Lib.hid ((hb.block W6.heap.size (Array.getElem?_eq_some_iff.1 L8.out).1).trans L8.out)
      have hlw : b1 < W8.heap.size := Nat.lt_trans HL1.out hl8
      have u9 : w9.cell? ⟨b1, o1 + 2, none⟩ = some (.int .i64 1000000) := (hb.cell (p := ⟨b1, o1 + 2, none⟩) hlw).trans U8.out
      have l0 : w9.cell? ⟨W6.heap.size, 0, none⟩ = some (.int .i64 3) := by simp [World.cell?, L9.out]
      have l1 : w9.cell? ⟨W6.heap.size, 1, none⟩ = some (.string ⟨#[122, 122]⟩) := by simp [World.cell?, L9.out]
      have l3 : w9.cell? ⟨W6.heap.size, 3, none⟩ = some (.slice (some ⟨b1, o1, none⟩) 1 y0) := by simp [World.cell?, L9.out]
      clear hb R n0' n1' n2' n3' n4' m0' m1' m2' m3' m4'
      go_wp2_with fail
      go_ret
      exact ⟨rfl, HBw.out.trans ((B8.out.mono hwl.out).trans (HB9.out.mono (Nat.le_trans hwl.out B8.out.size)))⟩
end Go.Proofs.YtcndknkdhlmdnaaGreatDoor
