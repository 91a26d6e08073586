/-
  Laws that the proof rests on.
-/
import Derived.Test.YteefedkmgnepmaaGreatDoorE10
import Derived.Test.YteefedkmgnepmaaGreatDoorE04
import Derived.Test.YteefedkmgnepmaaGreatDoorE09
namespace Go.Proofs.YteefedkmgnepmaaGreatDoor
set_option maxRecDepth 100000
set_option maxHeartbeats 16000000
section
open Go.RowKit Go.Shelf
theorem Boxed.kind {b : Nat} {t : Nd} {a : Option Addr} {cap : Nat} {w : World} (h : Boxed b t a cap w) {k : Int} (hk : t.kind=k) : w.cell? ⟨b,0,none⟩=some (.int .i64 k):=hk ▸ h.c0
end
section
open Lib (hid)
open Go.RowKit Go.Shelf
theorem a3o (b : Bool) (l : List UInt8) : l.length≤(Y9 b l).length∧(Y9 b l).length≤l.length + 2:=by
 unfold Y9
 split <;> simp <;> omega
theorem Fm.is.alloc {b : Nat} {w : World} {f : Fm} {x : Value} (hf : f.is (· ≠ b) w x) (o : Obj) : f.is (· ≠ b) (w.alloc o) x :=
 Fm.is.kept (fun g _ _ hg hh => ⟨hg,(Lib.alloc_old w o g (Array.getElem?_eq_some_iff.1 hh).1).trans hh⟩) f hf
theorem Fm.are.alloc {b : Nat} {w : World} {fs : List Fm} {a : Option Addr} {i : Nat} (hf : Fm.are (· ≠ b) w fs a i) (o : Obj) : Fm.are (· ≠ b) (w.alloc o) fs a i :=
 Fm.are.kept (fun g _ _ hg hh => ⟨hg,(Lib.alloc_old w o g (Array.getElem?_eq_some_iff.1 hh).1).trans hh⟩) fs hf
theorem a1d (s k : Fm) (hs : U5 s) (hk : U5 k) : U5 (.unary s k):=by
 intro x B b l w hf hb hlen hB
 obtain ⟨y,z,rfl,hy,hz⟩:=hf
 have E:=hid (show (Fm.unary s k).text=s.text ++ Y9 k.wrap k.text by rw [Fm.text])
 have hl : l.length + s.text.length + (Y9 k.wrap k.text).length≤1099511627776:=by
  rw [E.out,List.length_append] at hlen; omega
 have hwl:=a3o k.wrap k.text
 clear hlen
 have hne : w.heap.size≠b:=by have:=hb.lt; omega
 have A0:=hid ((Aft.start hb).alloc hB (.cells #[.iface s.ty y,.iface k.ty z] 156))
 have hbk:=bU w (.cells #[.iface s.ty y,.iface k.ty z] 156)
 have HY:=hid (hy.alloc (.cells #[.iface s.ty y,.iface k.ty z] 156))
 have HZ:=hid (hz.alloc (.cells #[.iface s.ty y,.iface k.ty z] 156))
 have HS:=hid hs
 have HK:=hid hk
 clear hs hk hy hz hb
 have M:=mt s y
 have eg:=en s
 show Calls Tryz.prog 193 _ w _
 go_enter Tryz.func193,Tryz.ntmps193
 go_wp2_with fail
 generalize hW : w.alloc (.cells #[.iface s.ty y,.iface k.ty z] 156)=W1 at A0 hbk HY HZ ⊢
 clear hW
 refine Calls.mono (HS.out y B b l _ HY A0.out.bld (by omega) (A0.out.size hB)) ?_
 rintro e w1 ⟨rfl,ha⟩
 have A1:=hid (A0.out.trans ha)
 have hbk1:=ha.block hbk hne (by decide)
 have HZ1:=hid (Fm.is.aft ha HZ)
 clear ha
 have c1 : w1.cell? ⟨w.heap.size,1,none⟩=some (.iface k.ty z):=by rw [Lib.cell_of_heap hbk1]; rfl
 go_wp2_with fail
 refine Calls.mono (qB k HK z B b (l ++ s.text) _ HZ1 A1.out.bld (by rw [List.length_append]; omega) (A1.out.size hB)) ?_
 rintro e w2 ⟨rfl,ha⟩
 have A2:=hid (A1.out.trans ha)
 clear ha
 go_wp2_with fail
 refine bodyPost_end (results_none rfl _ _ _) rfl ?_
 exact ⟨rfl,by rw [E.out,← List.append_assoc]; exact A2⟩
theorem vV (f s k : Fm) (hf : U5 f) (hs : U5 s) (hk : U5 k) : U5 (.binary f s k):=by
 intro x B b l w hx hb hlen hB
 obtain ⟨v,y,z,rfl,hv,hy,hz⟩:=hx
 have E:=hid (show l ++ (Fm.binary f s k).text=l ++ Y9 f.wrap f.text ++ [32] ++ s.text ++ [32] ++ Y9 k.wrap k.text by rw [Fm.text]; simp)
 have hl : l.length + (Y9 f.wrap f.text).length + 1 + s.text.length + 1 + (Y9 k.wrap k.text).length≤1099511627776:=by
  rw [Fm.text] at hlen
  simp only [List.length_append,List.length_cons,List.length_nil] at hlen
  omega
 clear hlen
 have hne : w.heap.size≠b:=by have:=hb.lt; omega
 have A0:=hid ((Aft.start hb).alloc hB (.cells #[.iface f.ty v,.iface s.ty y,.iface k.ty z] 158))
 have hbk:=bU w (.cells #[.iface f.ty v,.iface s.ty y,.iface k.ty z] 158)
 have HV:=hid (hv.alloc (.cells #[.iface f.ty v,.iface s.ty y,.iface k.ty z] 158))
 have HY:=hid (hy.alloc (.cells #[.iface f.ty v,.iface s.ty y,.iface k.ty z] 158))
 have HZ:=hid (hz.alloc (.cells #[.iface f.ty v,.iface s.ty y,.iface k.ty z] 158))
 have HF:=hid hf
 have HS:=hid hs
 have HK:=hid hk
 clear hf hs hk hv hy hz hb
 have M:=mt s y
 have eg:=en s
 show Calls Tryz.prog 195 _ w _
 go_enter Tryz.func195,Tryz.ntmps195
 go_wp2_with fail
 generalize hW : w.alloc (.cells #[.iface f.ty v,.iface s.ty y,.iface k.ty z] 158)=W1 at A0 hbk HV HY HZ ⊢
 clear hW
 refine Calls.mono (qB f HF v B b l _ HV A0.out.bld (by omega) (A0.out.size hB)) ?_
 rintro e w1 ⟨rfl,ha⟩
 have A1:=hid (A0.out.trans ha)
 have hbk1:=ha.block hbk hne (by decide)
 have HY1:=hid (Fm.is.aft ha HY)
 have HZ1:=hid (Fm.is.aft ha HZ)
 clear ha hbk A0 HY HZ
 go_wp2_with fail
 refine Calls.mono (n6 B b _ ⟨#[32]⟩ _ A1.out.bld (by rw [List.length_append]; show _ + 1≤_; omega) (A1.out.size hB)) ?_
 rintro e w2 ⟨rfl,ha⟩
 have A2:=hid (A1.out.trans ha)
 have hbk2:=ha.block hbk1 hne (by decide)
 have HY2:=hid (Fm.is.aft ha HY1)
 have HZ2:=hid (Fm.is.aft ha HZ1)
 clear ha hbk1 A1 HY1 HZ1
 have c1 : w2.cell? ⟨w.heap.size,1,none⟩=some (.iface s.ty y):=by rw [Lib.cell_of_heap hbk2]; rfl
 go_wp2_with fail
 refine Calls.mono (HS.out y B b _ _ HY2 A2.out.bld (by simp only [List.length_append]; show _ + 1 + _≤_; omega) (A2.out.size hB)) ?_
 rintro e w3 ⟨rfl,ha⟩
 have A3:=hid (A2.out.trans ha)
 have hbk3:=ha.block hbk2 hne (by decide)
 have HZ3:=hid (Fm.is.aft ha HZ2)
 clear ha hbk2 A2 HY2 HZ2 c1
 go_wp2_with fail
 refine Calls.mono (n6 B b _ ⟨#[32]⟩ _ A3.out.bld (by simp only [List.length_append]; show _ + 1 + _ + 1≤_; omega) (A3.out.size hB)) ?_
 rintro e w4 ⟨rfl,ha⟩
 have A4:=hid (A3.out.trans ha)
 have hbk4:=ha.block hbk3 hne (by decide)
 have HZ4:=hid (Fm.is.aft ha HZ3)
 clear ha hbk3 A3 HZ3
 have c2 : w4.cell? ⟨w.heap.size,2,none⟩=some (.iface k.ty z):=by rw [Lib.cell_of_heap hbk4]; rfl
 go_wp2_with fail
 refine Calls.mono (qB k HK z B b _ _ HZ4 A4.out.bld (by simp only [List.length_append]; show _ + 1 + _ + 1 + _≤_; omega) (A4.out.size hB)) ?_
 rintro e w5 ⟨rfl,ha⟩
 have A5:=hid (A4.out.trans ha)
 clear ha
 go_wp2_with fail
 refine bodyPost_end (results_none rfl _ _ _) rfl ?_
 exact ⟨rfl,by rw [E.out]; exact A5⟩
def chT (f g h : Fm) : Nat→List UInt8
 | 0 => []
 | 1 => [105,102,32] ++ f.text
 | 2 => [105,102,32] ++ f.text ++ [32,116,104,101,110,32] ++ g.text
 | _ => [105,102,32] ++ f.text ++ [32,116,104,101,110,32] ++ g.text ++ [32,101,108,115,101,32] ++ h.text
theorem uS (w : World) (o o' : Obj) : ((w.alloc o).alloc o').heap[w.heap.size]?=some o∧((w.alloc o).alloc o').heap[w.heap.size + 1]?=some o':=by
 constructor
 ·rw [Lib.alloc_old _ _ _ (by simp)]; exact bU w o
 ·have:=bU (w.alloc o) o'
  rw [show (w.alloc o).heap.size=w.heap.size + 1 by simp] at this
  exact this
theorem xT (f g k : Fm) (hf : U5 f) (hg : U5 g) (hk : U5 k) : U5 (.choice f g k):=by
 intro x B b l w hx hb hlen hB
 obtain ⟨v,y,z,rfl,hv,hy,hz⟩:=hx
 have E:=hid (show l ++ (Fm.choice f g k).text=l ++ chT f g k 3 by rw [Fm.text]; rfl)
 have hl : l.length + f.text.length + g.text.length + k.text.length + 15≤1099511627776:=by
  rw [Fm.text] at hlen
  simp only [List.length_append,List.length_cons,List.length_nil] at hlen
  omega
 clear hlen
 have hne : w.heap.size≠b:=by have:=hb.lt; omega
 have hne' : w.heap.size + 1≠b:=by have:=hb.lt; omega
 have A0:=hid (((Aft.start hb).alloc hB (.cells #[.iface f.ty v,.iface g.ty y,.iface k.ty z] 154)).alloc hB (.cells #[.string ⟨#[105,102,32]⟩,.string ⟨#[32,116,104,101,110,32]⟩,.string ⟨#[32,101,108,115,101,32]⟩] 9))
 have HB0:=hid (uS w (.cells #[.iface f.ty v,.iface g.ty y,.iface k.ty z] 154) (.cells #[.string ⟨#[105,102,32]⟩,.string ⟨#[32,116,104,101,110,32]⟩,.string ⟨#[32,101,108,115,101,32]⟩] 9))
 have HV:=hid hv
 have HY:=hid hy
 have HZ:=hid hz
 have HF:=hid hf
 have HG:=hid hg
 have HK:=hid hk
 clear hf hg hk hv hy hz hb
 have M1:=mt f v
 have eg1:=en f
 have M2:=mt g y
 have eg2:=en g
 have M3:=mt k z
 have eg3:=en k
 show Calls Tryz.prog 192 _ w _
 go_enter Tryz.func192,Tryz.ntmps192
 go_wp2_with fail
 go_loopw [8] (fun i wr => ∃ n : Nat,n≤3∧i=.int .i64 n∧Hid (Aft B b (l ++ chT f g k n) w wr)∧Hid (wr.heap[w.heap.size]?=some (.cells #[.iface f.ty v,.iface g.ty y,.iface k.ty z] 154))∧Hid (wr.heap[w.heap.size + 1]?=some (.cells #[.string ⟨#[105,102,32]⟩,.string ⟨#[32,116,104,101,110,32]⟩,.string ⟨#[32,101,108,115,101,32]⟩] 9))) (fun i _ => 3 - (intOf i).toNat)
 case atStart => exact ⟨0,by omega,rfl,by show Aft B b (l ++ []) w _; rw [List.append_nil]; exact A0,HB0.out.1,HB0.out.2⟩
 case round =>
  obtain ⟨n,hn,rfl,AR,HR,HR'⟩:=hrel
  clear A0 HB0
  by_cases hlt : n<3
  ·have d0 : wr.cell? ⟨w.heap.size,0,none⟩=some (.iface f.ty v):=by rw [Lib.cell_of_heap HR.out]; rfl
   have d1 : wr.cell? ⟨w.heap.size,1,none⟩=some (.iface g.ty y):=by rw [Lib.cell_of_heap HR.out]; rfl
   have d2 : wr.cell? ⟨w.heap.size,2,none⟩=some (.iface k.ty z):=by rw [Lib.cell_of_heap HR.out]; rfl
   have r0 : wr.cell? ⟨w.heap.size + 1,0,none⟩=some (.string ⟨#[105,102,32]⟩):=by rw [Lib.cell_of_heap HR'.out]; rfl
   have r1 : wr.cell? ⟨w.heap.size + 1,1,none⟩=some (.string ⟨#[32,116,104,101,110,32]⟩):=by rw [Lib.cell_of_heap HR'.out]; rfl
   have r2 : wr.cell? ⟨w.heap.size + 1,2,none⟩=some (.string ⟨#[32,101,108,115,101,32]⟩):=by rw [Lib.cell_of_heap HR'.out]; rfl
   have hn3 : n=0∨n=1∨n=2:=by omega
   rcases hn3 with rfl | rfl | rfl
   ·go_wp2_with fail
    refine Calls.mono (n6 B b _ ⟨#[105,102,32]⟩ _ AR.out.bld (by rw [List.length_append]; show _ + 0 + 3≤_; omega) (AR.out.size hB)) ?_
    rintro e w2 ⟨rfl,ha⟩
    have A2:=hid (AR.out.trans ha)
    have hb2:=ha.block HR hne (by decide)
    have hb2':=ha.block HR' hne' (by decide)
    clear ha d0 d1 d2 r0 r1 r2 AR HR HR'
    have d0 : w2.cell? ⟨w.heap.size,0,none⟩=some (.iface f.ty v):=by rw [Lib.cell_of_heap hb2]; rfl
    go_wp2_with fail
    refine Calls.mono (HF.out v B b _ _ (Fm.is.aft A2 HV) A2.out.bld (by simp only [List.length_append]; show _ + 0 + 3 + _≤_; omega) (A2.out.size hB)) ?_
    rintro e w3 ⟨rfl,ha⟩
    have A3:=hid (A2.out.trans ha)
    have hb3:=hid (ha.block hb2 hne (by decide))
    have hb3':=hid (ha.block hb2' hne' (by decide))
    clear ha d0
    go_wp2_with fail
    go_roundw
    case rel => exact ⟨1,by omega,by go_num,by show Aft B b (l ++ ([105,102,32] ++ f.text)) w _; have:=A3.out; simpa [chT] using this,hb3,hb3'⟩
    case measure => simp [intOf]
   ·go_wp2_with fail
    refine Calls.mono (n6 B b _ ⟨#[32,116,104,101,110,32]⟩ _ AR.out.bld (by simp only [List.length_append,chT,List.length_cons,List.length_nil]; show _ + 6≤_; omega) (AR.out.size hB)) ?_
    rintro e w2 ⟨rfl,ha⟩
    have A2:=hid (AR.out.trans ha)
    have hb2:=ha.block HR hne (by decide)
    have hb2':=ha.block HR' hne' (by decide)
    clear ha d0 d1 d2 r0 r1 r2 AR HR HR'
    have d1 : w2.cell? ⟨w.heap.size,1,none⟩=some (.iface g.ty y):=by rw [Lib.cell_of_heap hb2]; rfl
    go_wp2_with fail
    refine Calls.mono (HG.out y B b _ _ (Fm.is.aft A2 HY) A2.out.bld (by simp only [List.length_append,chT,List.length_cons,List.length_nil]; omega) (A2.out.size hB)) ?_
    rintro e w3 ⟨rfl,ha⟩
    have A3:=hid (A2.out.trans ha)
    have hb3:=hid (ha.block hb2 hne (by decide))
    have hb3':=hid (ha.block hb2' hne' (by decide))
    clear ha d1
    go_wp2_with fail
    go_roundw
    case rel => exact ⟨2,by omega,by go_num,by have:=A3.out; show Aft B b _ w _; simpa [chT] using this,hb3,hb3'⟩
    case measure => simp [intOf]
   ·go_wp2_with fail
    refine Calls.mono (n6 B b _ ⟨#[32,101,108,115,101,32]⟩ _ AR.out.bld (by simp only [List.length_append,chT,List.length_cons,List.length_nil]; show _ + 6≤_; omega) (AR.out.size hB)) ?_
    rintro e w2 ⟨rfl,ha⟩
    have A2:=hid (AR.out.trans ha)
    have hb2:=ha.block HR hne (by decide)
    have hb2':=ha.block HR' hne' (by decide)
    clear ha d0 d1 d2 r0 r1 r2 AR HR HR'
    have d2 : w2.cell? ⟨w.heap.size,2,none⟩=some (.iface k.ty z):=by rw [Lib.cell_of_heap hb2]; rfl
    go_wp2_with fail
    refine Calls.mono (HK.out z B b _ _ (Fm.is.aft A2 HZ) A2.out.bld (by simp only [List.length_append,chT,List.length_cons,List.length_nil]; omega) (A2.out.size hB)) ?_
    rintro e w3 ⟨rfl,ha⟩
    have A3:=hid (A2.out.trans ha)
    have hb3:=hid (ha.block hb2 hne (by decide))
    have hb3':=hid (ha.block hb2' hne' (by decide))
    clear ha d2
    go_wp2_with fail
    go_roundw
    case rel => exact ⟨3,by omega,by go_num,by have:=A3.out; show Aft B b _ w _; simpa [chT] using this,hb3,hb3'⟩
    case measure => simp [intOf]
  ·obtain rfl : n=3:=by omega
   go_wp2_with fail
   refine bodyPost_end (results_none rfl _ _ _) rfl ?_
   exact ⟨rfl,by rw [E.out]; exact AR⟩
def a5y (n : Nat) : List UInt8:=if n=0 then [40] else [44,32]
theorem wX (h : ByteArray) (ks : List Fm) (ih : ∀ (n : Nat) (hn : n<ks.length),U5 ks[n]) : U5 (.called h ks):=by
 intro x B b l w hx hb hlen hB
 obtain ⟨a,cap,rfl,hh,hkc,hcm,hks⟩:=hx
 have hm : ks.length≤9223372036854775807:=Nat.le_trans hkc hcm
 have E:=hid (show l ++ (Fm.called h ks).text=l ++ h.data.toList ++ Fm.texts true ks ++ [41] by rw [Fm.text]; simp)
 have hl : l.length + h.size + (Fm.texts true ks).length + 1≤1099511627776:=by
  rw [Fm.text] at hlen
  simp only [List.length_append,List.length_cons,List.length_nil,f8] at hlen
  omega
 clear hlen
 have hne : w.heap.size≠b:=by have:=hb.lt; omega
 have A0:=hid ((Aft.start hb).alloc hB (.cells #[.string h,.slice a ks.length cap] 133))
 have hbk:=bU w (.cells #[.string h,.slice a ks.length cap] 133)
 have HS:=hid (hks.alloc (.cells #[.string h,.slice a ks.length cap] 133))
 have IH:=hid ih
 clear ih hks hb
 show Calls Tryz.prog 85 _ w _
 go_enter Tryz.func85,Tryz.ntmps85
 go_wp2_with fail
 generalize hW : w.alloc (.cells #[.string h,.slice a ks.length cap] 133)=W1 at A0 hbk HS ⊢
 clear hW
 refine Calls.mono (n6 B b _ h _ A0.out.bld (by omega) (A0.out.size hB)) ?_
 rintro e w1 ⟨rfl,ha⟩
 have A1:=hid (A0.out.trans ha)
 have hb1:=ha.block hbk hne (by decide)
 have HS1:=hid (Fm.are.aft ha HS)
 clear ha A0 HS hbk
 have c1 : w1.cell? ⟨w.heap.size,1,none⟩=some (.slice a ks.length cap):=by rw [Lib.cell_of_heap hb1]; rfl
 clear hb1
 go_wp2_with fail
 clear c1
 go_loopw [13] (fun i wr => ∃ (n : Nat) (t : List UInt8),n≤ks.length∧i=.int .i64 n∧Hid (t ++ Fm.texts (decide (n=0)) (ks.drop n)=l ++ h.data.toList ++ Fm.texts true ks)∧Hid (Aft B b t w wr)∧Hid (Fm.are (· ≠ b) wr ks a 0)) (fun i _ => ks.length - (intOf i).toNat)
 case atStart => exact ⟨0,l ++ h.data.toList,by omega,rfl,rfl,A1,HS1⟩
 case round =>
  obtain ⟨n,t,hn,rfl,HI,AR,HR⟩:=hrel
  clear A1 HS1
  have hlen : t.length + (Fm.texts (decide (n=0)) (ks.drop n)).length + 1≤1099511627776:=by
   have:=congrArg List.length HI
   simp only [List.length_append,f8] at this
   omega
  by_cases hlt : n<ks.length
  ·obtain ⟨g,y,cur,fz,rfl,hgb,hg,hcur,hy⟩:=Fm.are.get ks 0 HR n hlt
   rw [Nat.zero_add] at hcur
   have S:=hid (a0W ks n hlt)
   have hsz : t.length + (a5y n).length + ks[n].text.length + 1≤1099511627776:=by
    rw [S.out] at hlen
    simp only [List.length_append] at hlen
    unfold a5y
    omega
   clear hlen
   have cg : wr.cell? ⟨g,n,none⟩=some (.iface ks[n].ty y):=by rw [Lib.cell_of_heap hg]; exact hcur
   have M:=mt ks[n] y
   have eg:=en ks[n]
   have AR2:=hid (AR.out.alloc hB (.cells #[.string ⟨#[40]⟩,.string ⟨#[44,32]⟩] 9))
   have HY:=hid (Fm.is.alloc hy (.cells #[.string ⟨#[40]⟩,.string ⟨#[44,32]⟩] 9))
   have HR2:=hid (HR.out.alloc (.cells #[.string ⟨#[40]⟩,.string ⟨#[44,32]⟩] 9))
   have hrow:=bU wr (.cells #[.string ⟨#[40]⟩,.string ⟨#[44,32]⟩] 9)
   have r0 : (wr.alloc (.cells #[.string ⟨#[40]⟩,.string ⟨#[44,32]⟩] 9)).cell? ⟨wr.heap.size,0,none⟩=some (.string ⟨#[40]⟩):=by rw [Lib.cell_of_heap hrow]; rfl
   have r1 : (wr.alloc (.cells #[.string ⟨#[40]⟩,.string ⟨#[44,32]⟩] 9)).cell? ⟨wr.heap.size,1,none⟩=some (.string ⟨#[44,32]⟩):=by rw [Lib.cell_of_heap hrow]; rfl
   clear hrow hy hg hcur
   have IHn:=hid (IH.out n hlt)
   generalize ks[n]=f at M eg hsz S HY cg IHn
   by_cases hn0 : n=0
   ·subst hn0
    have e0 : (a5y 0).length=1:=rfl
    have r0' : (wr.alloc (.cells #[.string ⟨#[40]⟩,.string ⟨#[44,32]⟩] 9)).cell? ⟨wr.heap.size,(min (0 : Int) 1).toNat,none⟩=some (.string ⟨#[40]⟩):=r0
    go_wp2_with fail
    refine Calls.mono (n6 B b t ⟨#[40]⟩ _ AR2.out.bld (by show _ + 1≤_; omega) (AR2.out.size hB)) ?_
    rintro e w2 ⟨rfl,ha⟩
    have A2:=hid (AR2.out.trans ha)
    have HY2:=hid (Fm.is.aft ha HY)
    have HR3:=hid (Fm.are.aft ha HR2)
    clear ha r0 r1 r0'
    go_wp2_with fail
    refine Calls.mono (IHn.out y B b _ _ HY2 A2.out.bld (by rw [List.length_append]; show _ + 1 + _≤_; omega) (A2.out.size hB)) ?_
    rintro e w3 ⟨rfl,ha⟩
    have A3:=hid (A2.out.trans ha)
    have HR4:=hid (Fm.are.aft ha HR3)
    clear ha
    go_wp2_with fail
    go_roundw
    case rel => exact ⟨1,_,by omega,by go_num,by show _=_; rw [← HI.out,S.out]; simp,A3,HR4⟩
    case measure => simp [intOf]; omega
   ·have e0 : (a5y n).length=2:=by unfold a5y; rw [if_neg hn0]; rfl
    have hmin : min (n : Int) 1=1:=by omega
    have r1' : (wr.alloc (.cells #[.string ⟨#[40]⟩,.string ⟨#[44,32]⟩] 9)).cell? ⟨wr.heap.size,(min (n : Int) 1).toNat,none⟩=some (.string ⟨#[44,32]⟩):=by rw [hmin]; exact r1
    have m1 : (0 : Int)≤min (n : Int) 1:=by omega
    have m2 : min (n : Int) 1<2:=by omega
    clear hmin
    go_wp2_with fail
    refine Calls.mono (n6 B b t ⟨#[44,32]⟩ _ AR2.out.bld (by show _ + 2≤_; omega) (AR2.out.size hB)) ?_
    rintro e w2 ⟨rfl,ha⟩
    have A2:=hid (AR2.out.trans ha)
    have HY2:=hid (Fm.is.aft ha HY)
    have HR3:=hid (Fm.are.aft ha HR2)
    clear ha r0 r1 r1'
    go_wp2_with fail
    refine Calls.mono (IHn.out y B b _ _ HY2 A2.out.bld (by rw [List.length_append]; show _ + 2 + _≤_; omega) (A2.out.size hB)) ?_
    rintro e w3 ⟨rfl,ha⟩
    have A3:=hid (A2.out.trans ha)
    have HR4:=hid (Fm.are.aft ha HR3)
    clear ha
    go_wp2_with fail
    go_roundw
    case rel => exact ⟨n + 1,_,by omega,by go_num,by show _=_; rw [← HI.out,S.out,if_neg hn0]; simp,A3,HR4⟩
    case measure => simp [intOf]; omega
  ·have hz : ks.drop n=[]:=List.drop_of_length_le (by omega)
   have HF : Hid (t=l ++ h.data.toList ++ Fm.texts true ks):=by
    show _=_
    have:=HI.out
    rw [hz,Fm.texts,List.append_nil] at this
    exact this
   go_wp2_with fail
   refine Calls.mono (n6 B b t ⟨#[41]⟩ _ AR.out.bld (by show _ + 1≤_; omega) (AR.out.size hB)) ?_
   rintro e w2 ⟨rfl,ha⟩
   have A2:=hid (AR.out.trans ha)
   clear ha
   go_wp2_with fail
   refine bodyPost_end (results_none rfl _ _ _) rfl ?_
   exact ⟨rfl,by rw [E.out,← HF.out]; exact A2⟩
theorem a7i (N : Nat) : ∀ f : Fm,SizeOf.sizeOf f<N→U5 f:=by
 induction N with
 | zero => intro f h; omega
 | succ N ih =>
 intro f h
 cases f with
 | leaf s => exact a2A s
 | called hd ks => exact wX hd ks fun n hn => ih _ (a0m hn h)
 | unary s k => exact a1d s k (ih s (by simp only [Fm.unary.sizeOf_spec] at h; omega)) (ih k (by simp only [Fm.unary.sizeOf_spec] at h; omega))
 | binary a s k => exact vV a s k (ih a (by simp only [Fm.binary.sizeOf_spec] at h; omega)) (ih s (by simp only [Fm.binary.sizeOf_spec] at h; omega)) (ih k (by simp only [Fm.binary.sizeOf_spec] at h; omega))
 | choice a s k => exact xT a s k (ih a (by simp only [Fm.choice.sizeOf_spec] at h; omega)) (ih s (by simp only [Fm.choice.sizeOf_spec] at h; omega)) (ih k (by simp only [Fm.choice.sizeOf_spec] at h; omega))
theorem a0F (f : Fm) : U5 f:=a7i _ f (Nat.lt_succ_self _)
end
section
open Lib (hid)
open Go.RowKit
theorem Q4 (s : ByteArray) (a b : Nat) : (s.extract a b).data.toList=(s.data.toList.drop a).take (b - a):=by
 have : (s.extract a b).data=s.data.extract a b:=by simp
 rw [this,Array.toList_extract]
theorem aO (s : ByteArray) (a b : Nat) (h : b≤s.size) : (s.extract a b).size=b - a:=by
 rw [← f8,Q4,List.length_take,List.length_drop,f8]; omega
theorem r7 {s : ByteArray} {k : Nat} (h : k<s.size) : (s.data.toList.drop k).headD 0=s[k]:=by rw [T3 h]; rfl
theorem aG {s : ByteArray} {k : Nat} (h : s.size≤k) : (s.data.toList.drop k).headD 0=0:=by rw [eO h]; rfl
theorem uR {c : UInt8} {n : Nat} (hn : n<256) : ((c.toNat : Int)=n)↔c=UInt8.ofNat n:=by
 constructor
 ·intro h
  have : c.toNat=n:=by omega
  rw [← this]; simp
 ·rintro rfl; simp; omega
def kC : ByteArray:=⟨#[100,100,100,100,45,100,100,45,100,100]⟩
theorem a39 : ∀ (k : Nat) (h : k<10),((kC[k]'h).toNat : Int)=if k=4∨k=7 then 45 else 100:=by decide
theorem a5e (k : Nat) (c : UInt8) : Cal.fits k c=if k=4∨k=7 then decide ((c.toNat : Int)=45) else dgI c.toNat:=by
 unfold Cal.fits
 split
 ·rfl
 ·rw [← zH,dQ]
theorem wQ (s : ByteArray) (a : Nat) (w : World) (hs : s.size≤16384) (ha : a≤s.size) :
 Calls Tryz.prog 117 #[.string s,.int .i64 a] w fun e w' => e=.returned (.bool (U3 (s.data.toList.drop a)))∧w=w':=by
 have HL:=hid (f8 s)
 have HDL:=hid (show (s.data.toList.drop a).length=s.size - a by rw [List.length_drop,f8])
 have DA:=hid (show U3 (s.data.toList.drop a)=(decide (10≤(s.data.toList.drop a).length) && (decide (∀ j (hj : j<((s.data.toList.drop a).take 10).length),Cal.fits j ((s.data.toList.drop a).take 10)[j]=true) && !dgC (((s.data.toList.drop a).drop 10).headD 0))) from rfl)
 by_cases h10 : (s.size : Int) - a<10
 ·have F:=hid (show U3 (s.data.toList.drop a)=false by rw [DA.out,HDL.out,decide_eq_false (by omega)]; rfl)
  go_enter Tryz.func117,Tryz.ntmps117
  go_wp2_with fail
  go_ret
  exact ⟨dT F.out.symm,rfl⟩
 have h11 : a + 10≤s.size:=by omega
 have HT:=hid (show ∀ j (hj : j<((s.data.toList.drop a).take 10).length),((s.data.toList.drop a).take 10)[j]=s[a + j]'(by rw [List.length_take] at hj; have:=HDL.out; omega) from fun j hj => by
  rw [List.getElem_take,List.getElem_drop]; rfl)
 go_enter Tryz.func117,Tryz.ntmps117
 go_wp2_with fail
 go_loop [6,7] (fun i _ => ∃ k : Nat,k≤10∧i=.int .i64 k∧Hid (∀ j (hj : a + j<s.size),j<k→Cal.fits j s[a + j]=true)) (fun i _ => 10 - (intOf i).toNat)
 case atStart => exact ⟨0,by omega,rfl,fun j hj h => by omega⟩
 case round =>
  obtain ⟨k,hk,rfl,HAll⟩:=hrel
  by_cases hlt : k<10
  ·have hka : a + k<s.size:=by omega
   have FK:=hid (a5e k s[a + k])
   have e3:=hid (a39 k hlt)
   by_cases h47 : k=4∨k=7
   ·have e1 : ((kC[k]'hlt).toNat : Int)=45:=by rw [e3.out,if_pos h47]
    have q1 : (((kC[k]'hlt).toNat : Int) == 100)=false:=by rw [e1]; rfl
    have q2 : (((kC[k]'hlt).toNat : Int) == 45)=true:=by rw [e1]; rfl
    unfold kC at q1 q2
    clear e1
    cases hi : dgI s[a + k].toNat
    all_goals
     by_cases hd : (s[a + k].toNat : Int)=45
     ·have hd' : ((s[a + k].toNat : Int) != 45)=false:=by rw [hd]; rfl
      have FF:=hid (show Cal.fits k s[a + k]=true by rw [FK.out,if_pos h47,decide_eq_true hd])
      have H47:=hid h47
      clear hd h47
      go_wp2_with (first | (go_at_call 94; refine (o0 _ _).mono ?_; rintro e w' ⟨rfl,rfl⟩; rw [hi]))
      go_round
      case rel =>
       refine ⟨k + 1,by omega,by go_num,fun j hj h => ?_⟩
       by_cases e : j=k
       ·subst e; exact FF
       ·exact HAll.out j hj (by omega)
      case measure => simp [intOf]; omega
     ·have hd' : ((s[a + k].toNat : Int) != 45)=true:=by rw [bne_iff_ne]; exact hd
      have F:=hid (show U3 (s.data.toList.drop a)=false by
       rw [DA.out,decide_eq_false (p:=∀ j (hj : j<((s.data.toList.drop a).take 10).length),_),Bool.false_and,Bool.and_false]
       intro g
       have hkl : k<((s.data.toList.drop a).take 10).length:=by rw [List.length_take,HDL.out]; omega
       have:=g k hkl
       rw [HT.out k hkl,FK.out,if_pos h47,decide_eq_false hd] at this
       cases this)
      clear hd h47
      go_wp2_with (first | (go_at_call 94; refine (o0 _ _).mono ?_; rintro e w' ⟨rfl,rfl⟩; rw [hi]))
      go_ret
      exact ⟨dT F.out.symm,rfl⟩
   ·have e1 : ((kC[k]'hlt).toNat : Int)=100:=by rw [e3.out,if_neg h47]
    have q1 : (((kC[k]'hlt).toNat : Int) == 100)=true:=by rw [e1]; rfl
    have q2 : (((kC[k]'hlt).toNat : Int) == 45)=false:=by rw [e1]; rfl
    unfold kC at q1 q2
    clear e1
    cases hi : dgI s[a + k].toNat
    ·have F:=hid (show U3 (s.data.toList.drop a)=false by
      rw [DA.out,decide_eq_false (p:=∀ j (hj : j<((s.data.toList.drop a).take 10).length),_),Bool.false_and,Bool.and_false]
      intro g
      have hkl : k<((s.data.toList.drop a).take 10).length:=by rw [List.length_take,HDL.out]; omega
      have:=g k hkl
      rw [HT.out k hkl,FK.out,if_neg h47,hi] at this
      cases this)
     clear h47
     go_wp2_with (first | (go_at_call 94; refine (o0 _ _).mono ?_; rintro e w' ⟨rfl,rfl⟩; rw [hi]))
     go_ret
     exact ⟨dT F.out.symm,rfl⟩
    ·have FF:=hid (show Cal.fits k s[a + k]=true by rw [FK.out,if_neg h47,hi])
     clear h47
     go_wp2_with (first | (go_at_call 94; refine (o0 _ _).mono ?_; rintro e w' ⟨rfl,rfl⟩; rw [hi]))
     go_round
     case rel =>
      refine ⟨k + 1,by omega,by go_num,fun j hj h => ?_⟩
      by_cases e : j=k
      ·subst e; exact FF
      ·exact HAll.out j hj (by omega)
     case measure => simp [intOf]; omega
  ·obtain rfl : k=10:=by omega
   have F:=hid (show U3 (s.data.toList.drop a)=!dgC ((s.data.toList.drop (a + 10)).headD 0) by
    rw [DA.out,HDL.out,decide_eq_true (show 10≤s.size - a by omega),decide_eq_true (p:=∀ j (hj : j<((s.data.toList.drop a).take 10).length),_),List.drop_drop,Bool.true_and,Bool.true_and]
    intro j hj
    rw [HT.out j hj]
    rw [List.length_take] at hj
    exact HAll.out j _ (by omega))
   by_cases he : (s.size : Int) - a=10
   ·have he' : ((s.size : Int) - a == 10)=true:=by rw [he]; rfl
    have F2:=hid (show U3 (s.data.toList.drop a)=true by rw [F.out,aG (by omega)]; rfl)
    clear he
    go_wp2_with fail
    go_ret
    exact ⟨dT F2.out.symm,rfl⟩
   ·have he' : ((s.size : Int) - a == 10)=false:=by rw [beq_eq_false_iff_ne]; exact he
    have hka : a + 10<s.size:=by omega
    have F2:=hid (show U3 (s.data.toList.drop a)=!dgI s[a + 10].toNat by rw [F.out,r7 hka,dQ])
    clear he
    go_wp2_with (first | (go_at_call 94; refine (o0 _ _).mono ?_; rintro e w' ⟨rfl,rfl⟩))
    go_ret
    exact ⟨dT F2.out.symm,rfl⟩
end
section
open Lib (hid)
open Go.RowKit
def tkV (t : Tk) : Value:=.agg #[.int .i64 t.kind,.string ⟨t.text.toArray⟩,.int .i64 t.n,.int .i64 t.pos]
def a26 (r : Except Int (Tk × Nat)) (w : World) (e : Ending) (w' : World) : Prop :=
 Below w.heap.size w w'∧match r with
  | .ok (t,n) => e=.returned (.tuple #[tkV t,.int .i64 n,.int .i64 0])
  | .error c => c≠0∧∃ (k : Int) (s : ByteArray) (x p : Int),e=.returned (.tuple #[.agg #[.int .i64 k,.string s,.int .i64 x,.int .i64 p],.int .i64 0,.int .i64 c])
theorem v7 {r : Except Int (Tk × Nat)} {w w' : World} {k x p : Int} {s : ByteArray} {n : Int} {t : Tk} {m : Nat} (h : r=.ok (t,m)) (hb : Below w.heap.size w w') (hk : k=t.kind) (hs : s.data.toList=t.text) (hx : x=t.n) (hp : p=t.pos) (hn : n=m) :
 a26 r w (.returned (.tuple #[.agg #[.int .i64 k,.string s,.int .i64 x,.int .i64 p],.int .i64 n,.int .i64 0])) w':=by
 subst h hk hx hp hn
 refine ⟨hb,?_⟩
 show Ending.returned _=Ending.returned _
 unfold tkV
 rw [← hs]
theorem i6 {r : Except Int (Tk × Nat)} {w w' : World} {k x p : Int} {s : ByteArray} {c : Int} (h : r=.error c) (hc : c≠0) (hb : Below w.heap.size w w') :
 a26 r w (.returned (.tuple #[.agg #[.int .i64 k,.string s,.int .i64 x,.int .i64 p],.int .i64 0,.int .i64 c])) w':=by
 subst h
 exact ⟨hb,hc,k,s,x,p,rfl⟩
def dJ (b : Nat) (w : World) : Prop:=w.heap[b]?=some (.cells #[.int .i64 0,.string ⟨#[]⟩,.int .i64 0,.int .i64 0] 93 (0,0))
theorem dJ.below {b : Nat} {w w' : World} (h : dJ b w) (hb : Below w.heap.size w w') : dJ b w':=(hb.block b (Array.getElem?_eq_some_iff.1 h).1).trans h
theorem dJ.make (w : World) : dJ w.heap.size (w.alloc (.cells #[.int .i64 0,.string ⟨#[]⟩,.int .i64 0,.int .i64 0] 93)):=by
 show (w.heap.push _)[w.heap.size]?=_; simp
theorem dJ.cells {b : Nat} {w : World} (h : dJ b w) : w.cell? ⟨b,0,none⟩=some (.int .i64 0)∧w.cell? ⟨b,1,none⟩=some (.string ⟨#[]⟩)∧w.cell? ⟨b,2,none⟩=some (.int .i64 0)∧w.cell? ⟨b,3,none⟩=some (.int .i64 0) ∧
 w.frozen? ⟨b,0,none⟩=false∧w.frozen? ⟨b,1,none⟩=false∧w.frozen? ⟨b,2,none⟩=false∧w.frozen? ⟨b,3,none⟩=false:=by
 have h' : w.heap[b]?=some (.cells #[.int .i64 0,.string ⟨#[]⟩,.int .i64 0,.int .i64 0] 93 (0,0)):=h
 refine ⟨?_,?_,?_,?_,?_,?_,?_,?_⟩ <;> simp [World.cell?,World.frozen?,h']
theorem f9 {B : Nat} {w w' : World} (h : Below B w w') (v0 v1 v2 v3 : Value) : Below B w ((((w'.setCell ⟨B,0,none⟩ v0).setCell ⟨B,1,none⟩ v1).setCell ⟨B,2,none⟩ v2).setCell ⟨B,3,none⟩ v3) :=
 (((h.setCell (p:=⟨B,0,none⟩) (Nat.le_refl _) _).setCell (p:=⟨B,1,none⟩) (Nat.le_refl _) _).setCell (p:=⟨B,2,none⟩) (Nat.le_refl _) _).setCell (p:=⟨B,3,none⟩) (Nat.le_refl _) _
theorem kL (s : ByteArray) (a : Nat) : x7 (s.data.toList.drop a)≤s.size - a:=by
 have:=jW (s.data.toList.drop a)
 rwa [List.length_drop,f8] at this
theorem a0J (s : ByteArray) (a : Nat) (w : World) (hs : s.size≤16384) (ha : a<s.size) :
 Calls Tryz.prog 93 #[.string s,.int .i64 a] w (a26 (bH (s.data.toList.drop a) a) w):=by
 have hsp:=kL s a
 obtain ⟨n,hn⟩ : ∃ n,n=x7 (s.data.toList.drop a):=⟨_,rfl⟩
 rw [← hn] at hsp
 have N:=hid (show bH (s.data.toList.drop a) a=(if ((s.data.toList.drop a).drop n).headD 0=46 then
  if 24<n∨x7 ((s.data.toList.drop a).drop (n + 1))<1∨24<x7 ((s.data.toList.drop a).drop (n + 1))∨X3 ((s.data.toList.drop a).take n)=true∨X3 (((s.data.toList.drop a).drop (n + 1)).take (x7 ((s.data.toList.drop a).drop (n + 1))))=true then .error 73
  else .ok (⟨3,(s.data.toList.drop a).take n ++ 46 :: ((s.data.toList.drop a).drop (n + 1)).take (x7 ((s.data.toList.drop a).drop (n + 1))),0,a⟩,n + 1 + x7 ((s.data.toList.drop a).drop (n + 1)))
  else if 24<n then .error 73 else .ok (⟨if X3 ((s.data.toList.drop a).take n)=true then 2 else 1,(s.data.toList.drop a).take n,0,a⟩,n)) by rw [hn]; rfl)
 simp only [List.drop_drop] at N
 have T:=hid (show (s.extract a (a + n)).data.toList=(s.data.toList.drop a).take n by rw [Q4,Nat.add_sub_cancel_left])
 have hte:=aO s a (a + n) (by omega)
 rw [Nat.add_sub_cancel_left] at hte
 have hts : (s.extract a (a + n)).size≤16384:=by omega
 have C1:=hid (lF s a (w.alloc (.cells #[.int .i64 0,.string ⟨#[]⟩,.int .i64 0,.int .i64 0] 93)) (Nat.le_trans hs (by decide)) (by unfold maxLen; omega))
 rw [← hn] at C1
 have HB:=hid (a7 w (.cells #[.int .i64 0,.string ⟨#[]⟩,.int .i64 0,.int .i64 0] 93))
 clear hn hte
 go_enter Tryz.func93,Tryz.ntmps93
 go_wp2_with fail
 (with_reducible refine Calls.mono C1.out ?_)
 rintro e w1 ⟨rfl,rfl⟩
 go_wp2_with fail
 have CW:=hid (mD (s.extract a (a + n)) (w.alloc (.cells #[.int .i64 0,.string ⟨#[]⟩,.int .i64 0,.int .i64 0] 93)))
 rw [T.out] at CW
 (with_reducible refine Calls.mono CW.out ?_)
 rintro e w2 ⟨rfl,hb⟩
 have HC:=hid (HB.out.trans (hb.mono HB.out.size))
 have Z2:=hid ((dJ.make w).below hb)
 clear hb CW
 have hdot : (a + n<s.size∧∃ h : a + n<s.size,(s[a + n].toNat : Int)=46)∨(a + n<s.size∧∃ h : a + n<s.size,¬ (s[a + n].toNat : Int)=46)∨¬ a + n<s.size:=by
  by_cases h : a + n<s.size
  ·by_cases h' : (s[a + n].toNat : Int)=46
   ·exact .inl ⟨h,h,h'⟩
   ·exact .inr (.inl ⟨h,h,h'⟩)
  ·exact .inr (.inr h)
 rcases hdot with ⟨hlt,_,hd⟩ | ⟨hlt,_,hd⟩ | hlt
 ·have hd' : ((s[a + n].toNat : Int) == 46)=true:=by rw [hd]; rfl
  have NN:=hid (N.out.trans (if_pos (by rw [r7 hlt]; exact UInt8.toNat_inj.1 (Int.ofNat.inj hd))))
  clear hd N
  obtain ⟨m,hm⟩ : ∃ m,m=x7 (s.data.toList.drop (a + (n + 1))):=⟨_,rfl⟩
  have hsm:=kL s (a + (n + 1))
  rw [← hm] at NN hsm
  have T2:=hid (show (s.extract (a + n + 1) (a + n + 1 + m)).data.toList=(s.data.toList.drop (a + (n + 1))).take m by rw [Q4,Nat.add_sub_cancel_left,Nat.add_assoc])
  have hte2 : (s.extract (a + n + 1) (a + n + 1 + m)).size≤16384:=by
   have:=aO s (a + n + 1) (a + n + 1 + m) (by omega); omega
  have C2:=hid (lF s (a + n + 1) w2 (Nat.le_trans hs (by decide)) (by unfold maxLen; omega))
  rw [show a + n + 1=a + (n + 1) by omega,← hm] at C2
  rw [show (((a + (n + 1) : Nat)) : Int)=(a : Int) + n + 1 by omega] at C2
  clear hm
  go_wp2_with fail
  (with_reducible refine Calls.mono C2.out ?_)
  rintro e w3 ⟨rfl,rfl⟩
  obtain ⟨c0,c1,c2,c3,f0,f1,f2,f3⟩:=Z2.out.cells
  by_cases h1 : 24<(n : Int)
  ·have R:=hid (NN.out.trans (if_pos (.inl (by omega))))
   go_wp2_with fail
   exact bodyPost_ret (v:=.tuple #[.agg #[.int .i64 0,.string ⟨#[]⟩,.int .i64 0,.int .i64 0],.int .i64 0,.int .i64 73]) (by simp [results,Tryz.results93,go_sem,c0,c1,c2,c3]) rfl (i6 R (by decide) (f9 HC _ _ _ _))
  by_cases h2 : (m : Int)<1
  ·have R:=hid (NN.out.trans (if_pos (.inr (.inl (by omega)))))
   go_wp2_with fail
   exact bodyPost_ret (v:=.tuple #[.agg #[.int .i64 0,.string ⟨#[]⟩,.int .i64 0,.int .i64 0],.int .i64 0,.int .i64 73]) (by simp [results,Tryz.results93,go_sem,c0,c1,c2,c3]) rfl (i6 R (by decide) (f9 HC _ _ _ _))
  by_cases h3 : 24<(m : Int)
  ·have R:=hid (NN.out.trans (if_pos (.inr (.inr (.inl (by omega))))))
   go_wp2_with fail
   exact bodyPost_ret (v:=.tuple #[.agg #[.int .i64 0,.string ⟨#[]⟩,.int .i64 0,.int .i64 0],.int .i64 0,.int .i64 73]) (by simp [results,Tryz.results93,go_sem,c0,c1,c2,c3]) rfl (i6 R (by decide) (f9 HC _ _ _ _))
  cases hw : X3 ((s.data.toList.drop a).take n)
  case true =>
   have R:=hid (NN.out.trans (if_pos (.inr (.inr (.inr (.inl hw))))))
   go_wp2_with fail
   exact bodyPost_ret (v:=.tuple #[.agg #[.int .i64 0,.string ⟨#[]⟩,.int .i64 0,.int .i64 0],.int .i64 0,.int .i64 73]) (by simp [results,Tryz.results93,go_sem,c0,c1,c2,c3]) rfl (i6 R (by decide) (f9 HC _ _ _ _))
  have CW2:=hid (mD (s.extract (a + n + 1) (a + n + 1 + m)) w2)
  rw [T2.out] at CW2
  cases hw2 : X3 ((s.data.toList.drop (a + (n + 1))).take m)
  all_goals
   go_wp2_with fail
   (with_reducible refine Calls.mono CW2.out ?_)
   rintro e w4 ⟨rfl,hb⟩
   rw [hw2]
   replace HC:=hid (HC.out.trans (hb.mono HC.out.size))
   replace Z2:=hid (Z2.out.below hb)
   clear hb CW2 c0 c1 c2 c3 f0 f1 f2 f3
   obtain ⟨c0,c1,c2,c3,f0,f1,f2,f3⟩:=Z2.out.cells
  ·have R:=hid (NN.out.trans (if_neg (by rw [hw,hw2]; simp; omega)))
   go_wp2_with fail
   exact bodyPost_ret (v:=.tuple #[.agg #[.int .i64 3,.string (s.extract a (a + n) ++ ⟨#[46]⟩ ++ s.extract (a + n + 1) (a + n + 1 + m)),.int .i64 0,.int .i64 a],.int .i64 ((n : Int) + 1 + m),.int .i64 0]) (by simp [results,Tryz.results93,go_sem,c0,c1,c2,c3]) rfl (v7 R (f9 HC _ _ _ _) rfl (by simp only [ByteArray.data_append,Array.toList_append,T.out,T2.out]; simp) rfl rfl (by omega))
  ·have R:=hid (NN.out.trans (if_pos (.inr (.inr (.inr (.inr hw2))))))
   go_wp2_with fail
   exact bodyPost_ret (v:=.tuple #[.agg #[.int .i64 0,.string ⟨#[]⟩,.int .i64 0,.int .i64 0],.int .i64 0,.int .i64 73]) (by simp [results,Tryz.results93,go_sem,c0,c1,c2,c3]) rfl (i6 R (by decide) (f9 HC _ _ _ _))
 ·have hd' : ((s[a + n].toNat : Int) == 46)=false:=beq_eq_false_iff_ne.2 hd
  have NN:=hid (N.out.trans (if_neg (by rw [r7 hlt]; exact fun e => hd (by rw [e]; rfl))))
  clear hd
  clear N
  obtain ⟨c0,c1,c2,c3,f0,f1,f2,f3⟩:=Z2.out.cells
  by_cases h24 : 24<(n : Int)
  ·have R:=hid (NN.out.trans (if_pos (by omega)))
   go_wp2_with fail
   exact bodyPost_ret (v:=.tuple #[.agg #[.int .i64 0,.string ⟨#[]⟩,.int .i64 0,.int .i64 0],.int .i64 0,.int .i64 73]) (by simp [results,Tryz.results93,go_sem,c0,c1,c2,c3]) rfl (i6 R (by decide) (f9 HC _ _ _ _))
  ·have R:=hid (NN.out.trans (if_neg (by omega)))
   cases hw : X3 ((s.data.toList.drop a).take n)
   ·rw [hw] at R
    go_wp2_with fail
    exact bodyPost_ret (v:=.tuple #[.agg #[.int .i64 1,.string (s.extract a (a + n)),.int .i64 0,.int .i64 a],.int .i64 n,.int .i64 0]) (by simp [results,Tryz.results93,go_sem,c0,c1,c2,c3]) rfl (v7 R (f9 HC _ _ _ _) rfl T rfl rfl (by omega))
   ·rw [hw] at R
    go_wp2_with fail
    exact bodyPost_ret (v:=.tuple #[.agg #[.int .i64 2,.string (s.extract a (a + n)),.int .i64 0,.int .i64 a],.int .i64 n,.int .i64 0]) (by simp [results,Tryz.results93,go_sem,c0,c1,c2,c3]) rfl (v7 R (f9 HC _ _ _ _) rfl T rfl rfl (by omega))
 ·have NN:=hid (N.out.trans (if_neg (by rw [aG (by omega)]; decide)))
  clear N
  obtain ⟨c0,c1,c2,c3,f0,f1,f2,f3⟩:=Z2.out.cells
  by_cases h24 : 24<(n : Int)
  ·have R:=hid (NN.out.trans (if_pos (by omega)))
   go_wp2_with fail
   exact bodyPost_ret (v:=.tuple #[.agg #[.int .i64 0,.string ⟨#[]⟩,.int .i64 0,.int .i64 0],.int .i64 0,.int .i64 73]) (by simp [results,Tryz.results93,go_sem,c0,c1,c2,c3]) rfl (i6 R (by decide) (f9 HC _ _ _ _))
  ·have R:=hid (NN.out.trans (if_neg (by omega)))
   cases hw : X3 ((s.data.toList.drop a).take n)
   ·rw [hw] at R
    go_wp2_with fail
    exact bodyPost_ret (v:=.tuple #[.agg #[.int .i64 1,.string (s.extract a (a + n)),.int .i64 0,.int .i64 a],.int .i64 n,.int .i64 0]) (by simp [results,Tryz.results93,go_sem,c0,c1,c2,c3]) rfl (v7 R (f9 HC _ _ _ _) rfl T rfl rfl (by omega))
   ·rw [hw] at R
    go_wp2_with fail
    exact bodyPost_ret (v:=.tuple #[.agg #[.int .i64 2,.string (s.extract a (a + n)),.int .i64 0,.int .i64 a],.int .i64 n,.int .i64 0]) (by simp [results,Tryz.results93,go_sem,c0,c1,c2,c3]) rfl (v7 R (f9 HC _ _ _ _) rfl T rfl rfl (by omega))
end
end Go.Proofs.YteefedkmgnepmaaGreatDoor
