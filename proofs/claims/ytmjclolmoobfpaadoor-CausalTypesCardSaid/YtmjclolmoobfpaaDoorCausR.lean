/-
  usancelaw14.shown: a payment on a day is a contract.
-/
import Derived.Test.YtmjclolmoobfpaaDoorCausQ
namespace Go.Proofs.YtmjclolmoobfpaaDoor
open Go.RowKit
set_option maxRecDepth 100000

def tFeed : Tm := .mk 4 0 ⟨#[101, 117, 114]⟩ []
def tOne : Tm := .mk 24 0 ⟨#[69, 85, 82]⟩ []
def tScale : Tm := .mk 26 0 ⟨#[]⟩ [tFeed, tOne]
def tAt : Tm := .mk 29 5 ⟨#[]⟩ [tScale]

theorem tAt_type : typeB tAt = 4 := by decide +kernel
theorem tAt_right : rightB tAt = true := by decide +kernel
theorem tAt_check : checkB tAt = 0 := by decide +kernel
theorem tAt_size : sizeB tAt = 4 := by decide +kernel
theorem tAt_horizon : horizonB tAt = 5 := by decide +kernel

set_option maxHeartbeats 4000000 in
theorem shown_any (w : World) (he : Env w) : Calls Tryd.prog 6 #[] w fun e W' => e = .returned (.bool true) ∧ Below w.heap.size w W' := by
  obtain ⟨o0, ho0⟩ : ∃ o : Obj, o = .cells #[.int .i64 4, .int .i64 0, .string ⟨#[101, 117, 114]⟩, .slice none 0 0, .int .i64 24, .int .i64 0, .string ⟨#[69, 85, 82]⟩, .slice none 0 0] 24 := ⟨_, rfl⟩
  obtain ⟨o1, ho1⟩ : ∃ o : Obj, o = .cells #[.int .i64 26, .int .i64 0, .string ⟨#[]⟩, .slice (some ⟨w.heap.size, 0, none⟩) 2 2] 24 := ⟨_, rfl⟩
  obtain ⟨o2, ho2⟩ : ∃ o : Obj, o = .cells #[.int .i64 29, .int .i64 5, .string ⟨#[]⟩, .slice (some ⟨w.heap.size + 1, 0, none⟩) 1 1] 24 := ⟨_, rfl⟩
  obtain ⟨W1, hW1⟩ : ∃ W1, W1 = ((w.alloc o0).alloc o1).alloc o2 := ⟨_, rfl⟩
  have hB1 : Below w.heap.size w W1 := hW1 ▸ (((Below.refl _ w).alloc (Nat.le_refl _) _).alloc (by simp) _).alloc (by simp; omega) _
  have hsz : W1.heap.size = w.heap.size + 3 := by rw [hW1]; simp
  have h0 : W1.heap[w.heap.size]? = some o0 := by
    rw [hW1]
    exact ((below1 ((w.alloc o0).alloc o1) o2).block _ (by simp; omega)).trans (((below1 (w.alloc o0) o1).block _ (by simp)).trans (World.alloc_heap_new w _))
  have h1 : W1.heap[w.heap.size + 1]? = some o1 := by
    have := World.alloc_heap_new (w.alloc o0) o1
    simp only [World.size_alloc] at this
    rw [hW1]
    exact ((below1 ((w.alloc o0).alloc o1) o2).block _ (by simp)).trans this
  have h2 : Box4 W1 (w.heap.size + 1 + 1) 24 (.int .i64 29) (.int .i64 5) (.string ⟨#[]⟩) (.slice (some ⟨w.heap.size + 1, 0, none⟩) 1 1) := by
    have := World.alloc_heap_new ((w.alloc o0).alloc o1) o2
    simp only [World.size_alloc] at this
    rw [hW1, ho2] at *
    exact this
  have hold : tAt.hold W1.heap.size W1 (some ⟨w.heap.size + 1, 0, none⟩) 1 := by
    refine ⟨by decide, by decide, by decide, by decide, by decide, ⟨w.heap.size + 1, 0, some ⟨w.heap.size, 0, none⟩, 2, rfl, by omega, ?_, ?_, ?_, ?_, by decide, by decide, by decide, by decide, by decide,
      ⟨w.heap.size, 0, none, 0, rfl, by omega, ?_, ?_, ?_, ?_, by decide, by decide, by decide, by decide, by decide, trivial⟩,
      ⟨w.heap.size, 0, none, 0, rfl, by omega, ?_, ?_, ?_, ?_, by decide, by decide, by decide, by decide, by decide, trivial⟩, trivial⟩, trivial⟩
    all_goals first
      | (rw [World.cell?, h1, ho1]; rfl)
      | (rw [World.cell?, h0, ho0]; rfl)
  have HH := Lib.hid hold
  have HE := Lib.hid (he.below hB1 he.size)
  have HS := Lib.hid (Nat.lt_of_lt_of_le he.size hB1.size)
  have HB := Lib.hid (Below.refl W1.heap.size W1)
  have H2 := Lib.hid h2
  have HB1 := Lib.hid hB1
  obtain ⟨x0, x1, x2, x3⟩ := h2.cells
  have e1 := tAt_type
  have e2 := tAt_right
  have e3 := tAt_check
  have e4 := tAt_size
  have e5 := tAt_horizon
  have q : w.heap.size + 1 + 1 < W1.heap.size := by omega
  clear h0 h1 h2 hold he hB1
  go_enter Tryd.func6, Tryd.ntmps6
  go_wp2_with (first
    | (go_at_call 7; rw [← ho0, ← ho1, ← ho2, ← hW1]; refine (Type_any tAt (some ⟨w.heap.size + 1, 0, none⟩) 1 W1 HH.out HE.out).mono ?_; rintro e w' ⟨rfl, hb⟩; rw [e1, e2]; replace HB := Lib.hid (HB.out.trans (hb.mono HB.out.size)); have y0 := (hb.cell (p := ⟨w.heap.size + 1 + 1, 0, none⟩) q).trans x0; have y1 := (hb.cell (p := ⟨w.heap.size + 1 + 1, 1, none⟩) q).trans x1; have y2 := (hb.cell (p := ⟨w.heap.size + 1 + 1, 2, none⟩) q).trans x2; have y3 := (hb.cell (p := ⟨w.heap.size + 1 + 1, 3, none⟩) q).trans x3; clear x0 x1 x2 x3 hb)
    | (go_at_call 10; refine (Check_any tAt (some ⟨w.heap.size + 1, 0, none⟩) 1 _ ((HH.out.below HB.out).mono HB.out.size) (HE.out.below HB.out HE.out.size)).mono ?_; rintro e w'' ⟨rfl, hb⟩; rw [e3]; have q' := Nat.lt_of_lt_of_le q HB.out.size; replace HB := Lib.hid (HB.out.trans (hb.mono HB.out.size)); have z0 := (hb.cell (p := ⟨w.heap.size + 1 + 1, 0, none⟩) q').trans y0; have z1 := (hb.cell (p := ⟨w.heap.size + 1 + 1, 1, none⟩) q').trans y1; have z2 := (hb.cell (p := ⟨w.heap.size + 1 + 1, 2, none⟩) q').trans y2; have z3 := (hb.cell (p := ⟨w.heap.size + 1 + 1, 3, none⟩) q').trans y3; clear y0 y1 y2 y3 hb q'; have y0 := z0; have y1 := z1; have y2 := z2; have y3 := z3; clear z0 z1 z2 z3)
    | (go_at_call 9; refine (Horizon_any tAt (some ⟨w.heap.size + 1, 0, none⟩) 1 _ ((HH.out.below HB.out).mono HB.out.size) (HE.out.below HB.out HE.out.size)).mono ?_; rintro e w'' ⟨rfl, hb⟩; rw [e5]; have q' := Nat.lt_of_lt_of_le q HB.out.size; replace HB := Lib.hid (HB.out.trans (hb.mono HB.out.size)); have z0 := (hb.cell (p := ⟨w.heap.size + 1 + 1, 0, none⟩) q').trans y0; have z1 := (hb.cell (p := ⟨w.heap.size + 1 + 1, 1, none⟩) q').trans y1; have z2 := (hb.cell (p := ⟨w.heap.size + 1 + 1, 2, none⟩) q').trans y2; have z3 := (hb.cell (p := ⟨w.heap.size + 1 + 1, 3, none⟩) q').trans y3; clear y0 y1 y2 y3 hb q'; have y0 := z0; have y1 := z1; have y2 := z2; have y3 := z3; clear z0 z1 z2 z3)
    | (go_at_call 8; refine (Size_any tAt (some ⟨w.heap.size + 1, 0, none⟩) 1 _ ((HH.out.below HB.out).mono HB.out.size) (HE.out.below HB.out HE.out.size)).mono ?_; rintro e w'' ⟨rfl, hb⟩; rw [e4]; have q' := Nat.lt_of_lt_of_le q HB.out.size; replace HB := Lib.hid (HB.out.trans (hb.mono HB.out.size)); have z0 := (hb.cell (p := ⟨w.heap.size + 1 + 1, 0, none⟩) q').trans y0; have z1 := (hb.cell (p := ⟨w.heap.size + 1 + 1, 1, none⟩) q').trans y1; have z2 := (hb.cell (p := ⟨w.heap.size + 1 + 1, 2, none⟩) q').trans y2; have z3 := (hb.cell (p := ⟨w.heap.size + 1 + 1, 3, none⟩) q').trans y3; clear y0 y1 y2 y3 hb q'; have y0 := z0; have y1 := z1; have y2 := z2; have y3 := z3; clear z0 z1 z2 z3))
  go_ret
  exact ⟨rfl, HB1.out.trans (HB.out.mono HB1.out.size)⟩

end Go.Proofs.YtmjclolmoobfpaaDoor
