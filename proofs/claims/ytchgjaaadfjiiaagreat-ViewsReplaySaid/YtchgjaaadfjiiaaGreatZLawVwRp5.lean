/- Texts for LawVwRp, part 5 of 9. -/
import Derived.Test.YtchgjaaadfjiiaaGreatZLawVwRp4
namespace Go.Proofs.YtchgjaaadfjiiaaGreat
open Go.RowKit
namespace K
def BoolIs (p : Prop) (w : World) (r : Ending) (w' : World) : Prop:=(∃ b,r = .returned (.bool b) ∧ (b = true ↔ p)) ∧ Below w.heap.size w w'
theorem BoolIs.no {p : Prop} {w w' : World} (h : ¬ p) (hb : Below w.heap.size w w') : BoolIs p w (.returned (.bool false)) w':=⟨⟨false,rfl,by simp [h]⟩,hb⟩
theorem BoolIs.of {p q : Prop} {b : Bool} {w w' : World} (hb : Below w.heap.size w w') (h1 : b = true ↔ q) (h2 : p ↔ q) : BoolIs p w (.returned (.bool b)) w':=⟨⟨b,rfl,h1.trans h2.symm⟩,hb⟩
theorem BoolIs.yes {p : Prop} {w w' : World} (h : p) (hb : Below w.heap.size w w') : BoolIs p w (.returned (.bool true)) w':=⟨⟨true,rfl,by simp [h]⟩,hb⟩
set_option maxHeartbeats 8000000 in
theorem shape_any {f : Nat} {w : World} {e : En} {cs : List Value} (h : IsE f w e cs) : Calls Tryz.prog 72 #[.agg cs.toArray] w (BoolIs (formE e) w):=by
  obtain ⟨dc,rfl,hv,hdl,hone,hh,hby,htx,hk,hta,hdo,hve,hab,hae⟩:=h;have hall : EnP (IsV f w) e (enC e dc):=⟨dc,rfl,hv,hdl,hone,hh,hby,htx,hk,hta,hdo,hve,hab,hae⟩;refine enter (args:=[.agg (enC e dc).toArray]) Tryz.func72 rfl Tryz.ntmps72 rfl ?_;refine K.kgo ?_;refine WL.box rfl rfl rfl rfl rfl fun g w1 hf => ?_;have hf' : Fresh w g w1 52 (enC e dc):=hf;clear hf;have B1 : EnAt _ g w1 e dc:=⟨hf'.blk,hdl,hh⟩;have hw1:=hf'.below;have hz1:=hf'.size;have he1:=hf'.eq;clear hf';refine K.kgo ?_;refine WL.load rfl rfl rfl rfl rfl rfl B1.table ?_;refine WL.call rfl rfl rfl rfl rfl Tryz.func53 rfl (by kernel_rfl) (within_any _ _ _ _) ?_;rintro _ w1 ⟨rfl,rfl⟩;refine ⟨_,rfl,?_⟩;refine WL.pure rfl rfl rfl rfl ?_;refine K.kgn ?_;refine WL.loadMid rfl rfl rfl rfl rfl rfl (VBlk.rangeAt B1.blk) B1.len ?_;refine WL.alloc (z:=.agg (enC noE zCells).toArray) rfl rfl rfl rfl (fun _ => by kernel_rfl) fun c w2 hf2 => ?_;have hf2' : Fresh w1 c w2 52 (enC noE zCells):=hf2;clear hf2;refine WL.storeRow rfl rfl rfl rfl rfl rfl hf2'.blk B1.len (by rfl) hall.one ?_;have hk3 : Below w1.heap.size w1 (w2.setRow c (enC e dc).toArray):=below_setRow hf2'.below (by rw [hf2'.eq];exact Nat.le_refl _) _;have C3 : EnAt 52 c (w2.setRow c (enC e dc).toArray) e dc:=⟨hf2'.blk.setRow _,hdl,hh⟩;have he2:=hf2'.eq;clear hf2';generalize w2.setRow c (enC e dc).toArray = w3 at hk3 C3;have B3:=B1.below hk3;have hw3 : Below w.heap.size w w3:=hw1.trans (hk3.mono (by omega));have hgc : g ≠ c:=by omega
  have hcw : w.heap.size ≤ c:=by omega
  have hv3:=hv.below hw3;have hd3:=C3.data
  -- a store into the copy
  have stB : ∀ {wx : World} {i : Nat} (u : Value),Below w.heap.size w wx → EnAt 52 g wx e dc → Below w.heap.size w (wx.setCell ⟨c,i,none⟩ u) ∧ EnAt 52 g (wx.setCell ⟨c,i,none⟩ u) e dc:=fun {wx i} u h1 h2 =>
    ⟨Keep.below ((Keep.of_below h1).setCell (fun hk => by simp only at hk;omega) _),h2.keep (K:=fun b => b ≠ c) ((Keep.refl _ wx).setCell (fun hk => hk rfl) _) hgc⟩
  have stR : ∀ {wx : World} (u : Array Value),Below w.heap.size w wx → EnAt 52 g wx e dc → Below w.heap.size w (wx.setRow c u) ∧ EnAt 52 g (wx.setRow c u) e dc:=fun {wx} u h1 h2 =>
    ⟨Keep.below (Keep.setRow (Keep.of_below h1) (fun hk => by omega) _),h2.keep (K:=fun b => b ≠ c) (Keep.setRow (Keep.refl _ wx) (fun hk => hk rfl) _) hgc⟩
  refine K.kgo ?_;refine WL.load rfl rfl rfl rfl rfl rfl B3.kind ?_
  by_cases k1 : e.kind = 1
  · have hform : formE e ↔ (1 ≤ e.text.size ∧ e.text.size ≤ 4096) ∧ nilE { e with text:=noT }:=by unfold formE;rw [if_pos k1];constructor <;> (intro h;simp_all)
    refine K.kgo ?_;refine WL.store (v:=.string noT) rfl rfl rfl rfl rfl rfl (by kernel_rfl) C3.text (C3.blk.free 1) ?_;obtain ⟨hw4,B4⟩:=stB (i:=1) (.string noT) hw3 B3;have C4:=C3.setText noT;generalize w3.setCell ⟨c,1,none⟩ (.string noT) = w4 at hw4 B4 C4;refine K.kgo ?_;refine WL.load rfl rfl rfl rfl rfl rfl B4.text ?_;refine K.kgo ?_;refine WL.call rfl rfl rfl rfl rfl Tryz.func53 rfl (by kernel_rfl) (within_any _ _ _ _) ?_;rintro _ w4 ⟨rfl,rfl⟩;refine ⟨_,rfl,?_⟩
    by_cases ht : (1 : Int) ≤ (e.text.size : Int) ∧ (e.text.size : Int) ≤ 4096
    · refine K.kgo ?_
      refine WL.loadMid rfl rfl rfl rfl rfl rfl (VBlk.rangeAt C4.blk) C4.len ?_;refine WL.on rfl rfl ?_;refine WL.call rfl rfl rfl rfl rfl Tryz.func95 rfl (by kernel_rfl) (nothing_any (e:={ e with text:=noT }) (hv.below hw4) hh ⟨hta,hdo,hve⟩) ?_;rintro _ w5 ⟨⟨b,rfl,hb⟩,hk5⟩;refine ⟨_,rfl,?_⟩;refine K.kgo ?_;exact WQ.ret1 rfl rfl (BoolIs.of (hw4.trans (hk5.mono hw4.size)) hb (hform.trans ⟨fun h => h.2,fun h => ⟨by omega,h⟩⟩))
    · refine K.kgo ?_
      exact WQ.ret1 rfl rfl (BoolIs.no (fun h => ht (by have:=(hform.1 h).1;omega)) hw4)
  by_cases k23 : e.kind = 2 ∨ e.kind = 3
  · have hform : formE e ↔ ((1 ≤ e.table ∧ e.table ≤ 64) ∧ (1 ≤ e.doc ∧ e.doc ≤ 65536)) ∧ ((if e.kind = 3 then 1 else 0) ≤ e.ver ∧ e.ver ≤ 2147483648) ∧ nilE (if e.kind = 2 then { e with data:=zV,hash:=Dig.Z32,gone:=false,table:=0,doc:=0,ver:=0 } else { e with table:=0,doc:=0,ver:=0 }) ∧ (e.gone = true → e.data = zV):=by
      unfold formE;rw [if_neg k1];rcases k23 with k2 | k3
      · rw [if_pos k2,if_pos k2,if_neg (by omega)]
        constructor
        · rintro ⟨a,b,c,d,x⟩;exact ⟨⟨a,b⟩,c,d,x⟩
        · rintro ⟨⟨a,b⟩,c,d,x⟩;exact ⟨a,b,c,d,x⟩
      · rw [if_neg (by omega),if_pos k3,if_pos k3,if_neg (by omega)]
        constructor
        · rintro ⟨a,b,c,d⟩;exact ⟨⟨a,b⟩,c,d,fun h => by have:=d.2.2.2.2.2.2.1;simp only at this;rw [this] at h;cases h⟩
        · rintro ⟨⟨a,b⟩,c,d,x⟩;exact ⟨a,b,c,d⟩
    rcases k23 with k2 | k3
    · refine K.kgo ?_
      refine WL.load rfl rfl rfl rfl rfl rfl B3.kind ?_;refine K.kgo ?_;refine WL.build zCells rfl rfl rfl rfl rfl (by kernel_rfl) ?_;refine WL.build (hashC Dig.Z32) rfl rfl rfl rfl rfl (by kernel_rfl) ?_;refine K.kgo ?_;refine WL.storeMid rfl rfl rfl rfl rfl rfl C3.blk rfl (by rw [C3.len];omega) (zV_is (fun _ => True) 0 w3).one ?_;obtain ⟨hw4,B4⟩:=stR ((enC e dc).take (0 + 5) ++ zCells ++ (enC e dc).drop (0 + 5 + 6)).toArray hw3 B3;have C4:=C3.setData (m:=zCells) (off:=0 + 5) zV rfl rfl;generalize w3.setRow c ((enC e dc).take (0 + 5) ++ zCells ++ (enC e dc).drop (0 + 5 + 6)).toArray = w4 at hw4 B4 C4;refine K.kgo ?_;refine WL.storeMid rfl rfl rfl rfl rfl rfl C4.blk (by rfl) (by rw [C4.len];omega) (Ones.int _ _) ?_;obtain ⟨hw5,B5⟩:=stR ((enC { e with data:=zV } zCells).take (0 + 11) ++ hashC Dig.Z32 ++ (enC { e with data:=zV } zCells).drop (0 + 11 + 32)).toArray hw4 B4;have C5:=C4.setHash (off:=0 + 11) (hh:=Dig.Z32) rfl rfl;generalize w4.setRow c ((enC { e with data:=zV } zCells).take (0 + 11) ++ hashC Dig.Z32 ++ (enC { e with data:=zV } zCells).drop (0 + 11 + 32)).toArray = w5 at hw5 B5 C5;refine K.kgo ?_;refine WL.store (v:=.bool false) rfl rfl rfl rfl rfl rfl (by kernel_rfl) C5.gone (C5.blk.free 43) ?_;obtain ⟨hw6,B6⟩:=stB (i:=43) (.bool false) hw5 B5;have C6:=C5.setGone false;generalize w5.setCell ⟨c,43,none⟩ (.bool false) = w6 at hw6 B6 C6;refine K.kgo ?_;refine WL.store (v:=.int .i64 0) rfl rfl rfl rfl rfl rfl (by kernel_rfl) C6.table (C6.blk.free 2) ?_;obtain ⟨hwp,Bp⟩:=stB (i:=2) (.int .i64 0) hw6 B6;have Cp:=C6.setTable 0;generalize w6.setCell ⟨c,2,none⟩ (.int .i64 0) = wp at hwp Bp Cp;refine K.kgo ?_;refine WL.store (v:=.int .i64 0) rfl rfl rfl rfl rfl rfl (by kernel_rfl) Cp.doc (Cp.blk.free 3) ?_;obtain ⟨hwq,Bq⟩:=stB (i:=3) (.int .i64 0) hwp Bp;have Cq:=Cp.setDoc 0;generalize wp.setCell ⟨c,3,none⟩ (.int .i64 0) = wq at hwq Bq Cq;refine K.kgo ?_;refine WL.store (v:=.int .i64 0) rfl rfl rfl rfl rfl rfl (by kernel_rfl) Cq.ver (Cq.blk.free 4) ?_;obtain ⟨hwx,Bx⟩:=stB (i:=4) (.int .i64 0) hwq Bq;have Cx:=Cq.setVer 0;generalize wq.setCell ⟨c,4,none⟩ (.int .i64 0) = wx at hwx Bx Cx;have hform' : formE e ↔ ((1 ≤ e.table ∧ e.table ≤ 64) ∧ (1 ≤ e.doc ∧ e.doc ≤ 65536)) ∧ (0 ≤ e.ver ∧ e.ver ≤ 2147483648) ∧ nilE { e with data:=zV,hash:=Dig.Z32,gone:=false,table:=0,doc:=0,ver:=0 } ∧ (e.gone = true → e.data = zV):=by
        rw [hform,if_pos k2,if_neg (by omega)]
      by_cases c1 : 1 ≤ e.table ∧ e.table ≤ 64
      rotate_left
      · refine K.kgo ?_
        exact WQ.ret1 rfl rfl (BoolIs.no (fun h => c1 (hform'.1 h).1.1) hwx)
      refine K.kgo ?_;refine WL.load rfl rfl rfl rfl rfl rfl Bx.doc ?_;refine WL.on rfl rfl ?_;refine WL.call rfl rfl rfl rfl rfl Tryz.func53 rfl (by kernel_rfl) (within_any _ _ _ _) ?_;rintro _ wx ⟨rfl,rfl⟩;refine ⟨_,rfl,?_⟩
      by_cases c2 : 1 ≤ e.doc ∧ e.doc ≤ 65536
      rotate_left
      · refine K.kgo ?_
        exact WQ.ret1 rfl rfl (BoolIs.no (fun h => c2 (hform'.1 h).1.2) hwx)
      refine K.kgo ?_;refine WL.load rfl rfl rfl rfl rfl rfl Bx.ver ?_;refine K.kgo ?_;refine WL.call rfl rfl rfl rfl rfl Tryz.func53 rfl (by kernel_rfl) (within_any _ _ _ _) ?_;rintro _ wx ⟨rfl,rfl⟩;refine ⟨_,rfl,?_⟩
      by_cases c3 : 0 ≤ e.ver ∧ e.ver ≤ 2147483648
      rotate_left
      · refine K.kgo ?_
        exact WQ.ret1 rfl rfl (BoolIs.no (fun h => c3 (hform'.1 h).2.1) hwx)
      refine K.kgo ?_;refine WL.loadMid rfl rfl rfl rfl rfl rfl (VBlk.rangeAt Cx.blk) Cx.len ?_;refine WL.on rfl rfl ?_;refine WL.call rfl rfl rfl rfl rfl Tryz.func95 rfl (by kernel_rfl) (nothing_any (e:={ e with data:=zV,hash:=Dig.Z32,gone:=false,table:=0,doc:=0,ver:=0 }) (zV_is (fun _ => True) 0 _).isV Cx.hl ⟨by show R64 0;omega,by show R64 0;omega,by show R64 0;omega⟩) ?_;rintro _ wy ⟨⟨b,rfl,hb⟩,hky⟩;refine ⟨_,rfl,?_⟩;have hwy:=hwx.trans (hky.mono hwx.size);have By:=Bx.below hky;cases b with
      | false =>
        refine K.kgo ?_;exact WQ.ret1 rfl rfl (BoolIs.no (fun h => by have:=hb.2 (hform'.1 h).2.2.1;cases this) hwy)
      | true =>
        have hN:=hb.1 rfl;refine K.kgo ?_;refine WL.load rfl rfl rfl rfl rfl rfl By.gone ?_;cases hgo : e.gone with
        | false =>
          refine K.kgo ?_;exact WQ.ret1 rfl rfl (BoolIs.yes (hform'.2 ⟨⟨c1,c2⟩,c3,hN,fun h => by rw [hgo] at h;cases h⟩) hwy)
        | true =>
          refine K.kgo ?_;refine WL.loadMid rfl rfl rfl rfl rfl rfl By.data hdl ?_;refine WL.on rfl rfl ?_;refine WL.call rfl rfl rfl rfl rfl Tryz.func96 rfl (by kernel_rfl) (blank_any (hv.below hwy)) ?_;rintro _ wz ⟨⟨b2,rfl,hb2⟩,hkz⟩;refine ⟨_,rfl,?_⟩;refine K.kgo ?_;exact WQ.ret1 rfl rfl (BoolIs.of (hwy.trans (hkz.mono hwy.size)) hb2 (hform'.trans ⟨fun h => h.2.2.2 hgo,fun h => ⟨⟨c1,c2⟩,c3,hN,fun _ => h⟩⟩))
    · refine K.kgo ?_
      refine WL.load rfl rfl rfl rfl rfl rfl B3.kind ?_;refine K.kgo ?_;refine WL.store (v:=.int .i64 0) rfl rfl rfl rfl rfl rfl (by kernel_rfl) C3.table (C3.blk.free 2) ?_;obtain ⟨hwp,Bp⟩:=stB (i:=2) (.int .i64 0) hw3 B3;have Cp:=C3.setTable 0;generalize w3.setCell ⟨c,2,none⟩ (.int .i64 0) = wp at hwp Bp Cp;refine K.kgo ?_;refine WL.store (v:=.int .i64 0) rfl rfl rfl rfl rfl rfl (by kernel_rfl) Cp.doc (Cp.blk.free 3) ?_;obtain ⟨hwq,Bq⟩:=stB (i:=3) (.int .i64 0) hwp Bp;have Cq:=Cp.setDoc 0;generalize wp.setCell ⟨c,3,none⟩ (.int .i64 0) = wq at hwq Bq Cq;refine K.kgo ?_;refine WL.store (v:=.int .i64 0) rfl rfl rfl rfl rfl rfl (by kernel_rfl) Cq.ver (Cq.blk.free 4) ?_;obtain ⟨hwx,Bx⟩:=stB (i:=4) (.int .i64 0) hwq Bq;have Cx:=Cq.setVer 0;generalize wq.setCell ⟨c,4,none⟩ (.int .i64 0) = wx at hwx Bx Cx;have hform' : formE e ↔ ((1 ≤ e.table ∧ e.table ≤ 64) ∧ (1 ≤ e.doc ∧ e.doc ≤ 65536)) ∧ (1 ≤ e.ver ∧ e.ver ≤ 2147483648) ∧ nilE { e with table:=0,doc:=0,ver:=0 } ∧ (e.gone = true → e.data = zV):=by
        rw [hform,if_pos k3,if_neg (by omega)]
      by_cases c1 : 1 ≤ e.table ∧ e.table ≤ 64
      rotate_left
      · refine K.kgo ?_
        exact WQ.ret1 rfl rfl (BoolIs.no (fun h => c1 (hform'.1 h).1.1) hwx)
      refine K.kgo ?_;refine WL.load rfl rfl rfl rfl rfl rfl Bx.doc ?_;refine WL.on rfl rfl ?_;refine WL.call rfl rfl rfl rfl rfl Tryz.func53 rfl (by kernel_rfl) (within_any _ _ _ _) ?_;rintro _ wx ⟨rfl,rfl⟩;refine ⟨_,rfl,?_⟩
      by_cases c2 : 1 ≤ e.doc ∧ e.doc ≤ 65536
      rotate_left
      · refine K.kgo ?_
        exact WQ.ret1 rfl rfl (BoolIs.no (fun h => c2 (hform'.1 h).1.2) hwx)
      refine K.kgo ?_;refine WL.load rfl rfl rfl rfl rfl rfl Bx.ver ?_;refine K.kgo ?_;refine WL.call rfl rfl rfl rfl rfl Tryz.func53 rfl (by kernel_rfl) (within_any _ _ _ _) ?_;rintro _ wx ⟨rfl,rfl⟩;refine ⟨_,rfl,?_⟩
      by_cases c3 : 1 ≤ e.ver ∧ e.ver ≤ 2147483648
      rotate_left
      · refine K.kgo ?_
        exact WQ.ret1 rfl rfl (BoolIs.no (fun h => c3 (hform'.1 h).2.1) hwx)
      refine K.kgo ?_;refine WL.loadMid rfl rfl rfl rfl rfl rfl (VBlk.rangeAt Cx.blk) Cx.len ?_;refine WL.on rfl rfl ?_;refine WL.call rfl rfl rfl rfl rfl Tryz.func95 rfl (by kernel_rfl) (nothing_any (e:={ e with table:=0,doc:=0,ver:=0 }) (hv.below hwx) Cx.hl ⟨by show R64 0;omega,by show R64 0;omega,by show R64 0;omega⟩) ?_;rintro _ wy ⟨⟨b,rfl,hb⟩,hky⟩;refine ⟨_,rfl,?_⟩;have hwy:=hwx.trans (hky.mono hwx.size);have By:=Bx.below hky;cases b with
      | false =>
        refine K.kgo ?_;exact WQ.ret1 rfl rfl (BoolIs.no (fun h => by have:=hb.2 (hform'.1 h).2.2.1;cases this) hwy)
      | true =>
        have hN:=hb.1 rfl;refine K.kgo ?_;refine WL.load rfl rfl rfl rfl rfl rfl By.gone ?_;cases hgo : e.gone with
        | false =>
          refine K.kgo ?_;exact WQ.ret1 rfl rfl (BoolIs.yes (hform'.2 ⟨⟨c1,c2⟩,c3,hN,fun h => by rw [hgo] at h;cases h⟩) hwy)
        | true =>
          refine K.kgo ?_;refine WL.loadMid rfl rfl rfl rfl rfl rfl By.data hdl ?_;refine WL.on rfl rfl ?_;refine WL.call rfl rfl rfl rfl rfl Tryz.func96 rfl (by kernel_rfl) (blank_any (hv.below hwy)) ?_;rintro _ wz ⟨⟨b2,rfl,hb2⟩,hkz⟩;refine ⟨_,rfl,?_⟩;refine K.kgo ?_;exact WQ.ret1 rfl rfl (BoolIs.of (hwy.trans (hkz.mono hwy.size)) hb2 (hform'.trans ⟨fun h => h.2.2.2 hgo,fun h => ⟨⟨c1,c2⟩,c3,hN,fun _ => h⟩⟩))
  by_cases k4 : e.kind = 4
  · have hform : formE e ↔ (0 ≤ e.ab ∧ e.ab ≤ 2147483648) ∧ (0 ≤ e.ae ∧ e.ae ≤ 2147483648) ∧ nilE { e with ab:=0,ae:=0 }:=by
      unfold formE;rw [if_neg k1,if_neg (by omega),if_neg (by omega),if_pos k4]
    refine K.kgo ?_;refine WL.build [.int .i64 0,.int .i64 0] rfl rfl rfl rfl rfl (by kernel_rfl) ?_;refine K.kgo ?_;refine WL.storeMid rfl rfl rfl rfl rfl rfl C3.blk rfl (by rw [C3.len];omega) (by intro u hu;simp at hu;rw [hu];rfl) ?_;obtain ⟨hw4,B4⟩:=stR ((enC e dc).take (0 + 44) ++ [Value.int .i64 0,.int .i64 0] ++ (enC e dc).drop (0 + 44 + 2)).toArray hw3 B3;have C4:=C3.setAt (off:=0 + 44) 0 0 rfl;generalize w3.setRow c ((enC e dc).take (0 + 44) ++ [Value.int .i64 0,.int .i64 0] ++ (enC e dc).drop (0 + 44 + 2)).toArray = w4 at hw4 B4 C4;refine K.kgo ?_;refine WL.load rfl rfl rfl rfl rfl rfl B4.ab ?_;refine WL.call rfl rfl rfl rfl rfl Tryz.func53 rfl (by kernel_rfl) (within_any _ _ _ _) ?_;rintro _ w4 ⟨rfl,rfl⟩;refine ⟨_,rfl,?_⟩
    by_cases c1 : 0 ≤ e.ab ∧ e.ab ≤ 2147483648
    rotate_left
    · refine K.kgo ?_
      exact WQ.ret1 rfl rfl (BoolIs.no (fun h => c1 (hform.1 h).1) hw4)
    refine K.kgo ?_;refine WL.load rfl rfl rfl rfl rfl rfl B4.ae ?_;refine WL.on rfl rfl ?_;refine WL.call rfl rfl rfl rfl rfl Tryz.func53 rfl (by kernel_rfl) (within_any _ _ _ _) ?_;rintro _ w4 ⟨rfl,rfl⟩;refine ⟨_,rfl,?_⟩
    by_cases c2 : 0 ≤ e.ae ∧ e.ae ≤ 2147483648
    · refine K.kgo ?_
      refine WL.loadMid rfl rfl rfl rfl rfl rfl (VBlk.rangeAt C4.blk) C4.len ?_;refine WL.on rfl rfl ?_;refine WL.call rfl rfl rfl rfl rfl Tryz.func95 rfl (by kernel_rfl) (nothing_any (e:={ e with ab:=0,ae:=0 }) (hv.below hw4) C4.hl ⟨by first | exact hta | (show R64 0;omega),hdo,hve⟩) ?_;rintro _ wy ⟨⟨b,rfl,hb⟩,hky⟩;refine ⟨_,rfl,?_⟩;refine K.kgo ?_;exact WQ.ret1 rfl rfl (BoolIs.of (hw4.trans (hky.mono hw4.size)) hb (hform.trans ⟨fun h => h.2.2,fun h => ⟨c1,c2,h⟩⟩))
    · refine K.kgo ?_
      exact WQ.ret1 rfl rfl (BoolIs.no (fun h => c2 (hform.1 h).2.1) hw4)
  by_cases k57 : e.kind = 5 ∨ e.kind = 7
  · have hform : formE e ↔ (1 ≤ e.table ∧ e.table ≤ 64) ∧ (1 ≤ e.text.size ∧ e.text.size ≤ 40) ∧ nilE { e with table:=0,text:=noT }:=by
      unfold formE;rw [if_neg k1,if_neg (by omega),if_neg (by omega),if_neg k4,if_pos k57]
      constructor
      · rintro ⟨a,b,c,d⟩;exact ⟨a,⟨b,c⟩,d⟩
      · rintro ⟨a,⟨b,c⟩,d⟩;exact ⟨a,b,c,d⟩
    rcases k57 with k5 | k7
    all_goals
      refine K.kgo ?_;refine WL.store (v:=.int .i64 0) rfl rfl rfl rfl rfl rfl (by kernel_rfl) C3.table (C3.blk.free 2) ?_;obtain ⟨hw4,B4⟩:=stB (i:=2) (.int .i64 0) hw3 B3;have C4:=C3.setTable 0;generalize w3.setCell ⟨c,2,none⟩ (.int .i64 0) = w4 at hw4 B4 C4;refine K.kgo ?_;refine WL.store (v:=.string noT) rfl rfl rfl rfl rfl rfl (by kernel_rfl) C4.text (C4.blk.free 1) ?_;obtain ⟨hw5,B5⟩:=stB (i:=1) (.string noT) hw4 B4;have C5:=C4.setText noT;generalize w4.setCell ⟨c,1,none⟩ (.string noT) = w5 at hw5 B5 C5
      by_cases c1 : 1 ≤ e.table ∧ e.table ≤ 64
      rotate_left
      · refine K.kgo ?_
        exact WQ.ret1 rfl rfl (BoolIs.no (fun h => c1 (hform.1 h).1) hw5)
      refine K.kgo ?_;refine WL.load rfl rfl rfl rfl rfl rfl B5.text ?_;refine K.kgo ?_;refine WL.call rfl rfl rfl rfl rfl Tryz.func53 rfl (by kernel_rfl) (within_any _ _ _ _) ?_;rintro _ w5 ⟨rfl,rfl⟩;refine ⟨_,rfl,?_⟩
      by_cases c2 : (1 : Int) ≤ (e.text.size : Int) ∧ (e.text.size : Int) ≤ 40
      rotate_left
      · refine K.kgo ?_
        exact WQ.ret1 rfl rfl (BoolIs.no (fun h => c2 (by have:=(hform.1 h).2.1;omega)) hw5)
      refine K.kgo ?_;refine WL.loadMid rfl rfl rfl rfl rfl rfl (VBlk.rangeAt C5.blk) C5.len ?_;refine WL.on rfl rfl ?_;refine WL.call rfl rfl rfl rfl rfl Tryz.func95 rfl (by kernel_rfl) (nothing_any (e:={ e with table:=0,text:=noT }) (hv.below hw5) C5.hl ⟨by first | exact hta | (show R64 0;omega),hdo,hve⟩) ?_;rintro _ wy ⟨⟨b,rfl,hb⟩,hky⟩;refine ⟨_,rfl,?_⟩;refine K.kgo ?_;exact WQ.ret1 rfl rfl (BoolIs.of (hw5.trans (hky.mono hw5.size)) hb (hform.trans ⟨fun h => h.2.2,fun h => ⟨c1,by omega,h⟩⟩))
  by_cases k6 : e.kind = 6
  · have hform : formE e ↔ (1 ≤ e.table ∧ e.table ≤ 64) ∧ nilE { e with table:=0 }:=by
      unfold formE;rw [if_neg k1,if_neg (by omega),if_neg (by omega),if_neg k4,if_neg k57,if_pos k6]
    refine K.kgo ?_;refine WL.store (v:=.int .i64 0) rfl rfl rfl rfl rfl rfl (by kernel_rfl) C3.table (C3.blk.free 2) ?_;obtain ⟨hw4,B4⟩:=stB (i:=2) (.int .i64 0) hw3 B3;have C4:=C3.setTable 0;generalize w3.setCell ⟨c,2,none⟩ (.int .i64 0) = w4 at hw4 B4 C4
    by_cases c1 : 1 ≤ e.table ∧ e.table ≤ 64
    · refine K.kgo ?_
      refine WL.loadMid rfl rfl rfl rfl rfl rfl (VBlk.rangeAt C4.blk) C4.len ?_;refine WL.on rfl rfl ?_;refine WL.call rfl rfl rfl rfl rfl Tryz.func95 rfl (by kernel_rfl) (nothing_any (e:={ e with table:=0 }) (hv.below hw4) C4.hl ⟨by first | exact hta | (show R64 0;omega),hdo,hve⟩) ?_;rintro _ wy ⟨⟨b,rfl,hb⟩,hky⟩;refine ⟨_,rfl,?_⟩;refine K.kgo ?_;exact WQ.ret1 rfl rfl (BoolIs.of (hw4.trans (hky.mono hw4.size)) hb (hform.trans ⟨fun h => h.2,fun h => ⟨c1,h⟩⟩))
    · refine K.kgo ?_
      exact WQ.ret1 rfl rfl (BoolIs.no (fun h => c1 (hform.1 h).1) hw4)
  · have hform : ¬ formE e:=by
      unfold formE;rw [if_neg k1,if_neg (by omega),if_neg (by omega),if_neg k4,if_neg k57,if_neg k6];exact id
    refine K.kgo ?_;exact WQ.ret1 rfl rfl (BoolIs.no hform hw3)
end K
namespace K
theorem max0 (n : Int) (h : R64 n) : IntKind.u64.wrap (if n > 0 then n else 0) = ((n.toNat : Nat) : Int):=by rw [IntKind.wrap_u64];split <;> omega
theorem number11_any {w : World} {b : Value} {l : List Int} (n : Int) (hb : Bu w b l) (hn : R64 n) (hm : l.length ≤ 70368744177664) :
    Calls Tryz.prog 75 #[b,.int .i64 n] w fun e w' => ∃ b',e = .returned b' ∧ Bu w' b' (l ++ uvB n.toNat) ∧ Grow w b w' b':=by
  refine enter (args:=[b,.int .i64 n]) Tryz.func75 rfl Tryz.ntmps75 rfl ?_;have e:=max0 n hn;have hul:=uvB_len n.toNat;refine K.kgo ?_;refine WL.call rfl rfl rfl rfl rfl Tryz.func98 rfl (by kernel_rfl) (by rw [show (bif false then (if (0 : Int) > n then n else 0) else (if n > 0 then n else 0)) = (if n > 0 then n else 0) from rfl,e];exact uvarint_any n.toNat (by omega) w) ?_;rintro _ w2 ⟨b2,rfl,hb2,hk2,-⟩;refine ⟨_,rfl,?_⟩;refine WL.app rfl rfl rfl rfl rfl (hb.below hk2) rfl hb2.sl (by omega) fun b3 w3 hb3 hg3 => ?_;refine K.kgo ?_;exact WQ.ret1 rfl rfl ⟨b3,rfl,hb3,((Grow.refl w b).below hk2).trans hg3⟩
theorem hash_sl {w : World} {b off : Nat} {h : List Int} (hr : w.rangeAt b off (hashC h)) (hl : h.length = 32) (hb : b < w.heap.size) : Sl .u8 w (.slice (some ⟨b,off,none⟩) 32 32) h:=by
  have:=Sl.mk (k:=.u8) (w:=w) (b:=b) (o:=off) (cap:=32) (l:=h) (by omega) (by omega) hb (fun j hj => by
    have h1:=hr j (.int .u8 (nth h j)) (by simp [nth,hj]);exact h1)
  rw [hl] at this;exact this
theorem layE_len (e : En) (hh : e.hash.length = 32) : (layE e).length ≤ 100 + e.text.size:=by
  have h1:=uvB_len e.table.toNat;have h2:=uvB_len e.doc.toNat;have h3:=uvB_len e.ver.toNat;have h4:=uvB_len e.text.size;have h5:=uvB_len e.ab.toNat;have h6:=uvB_len e.ae.toNat;have h7:=byI_len e.text;unfold layE
  by_cases k2 : e.kind = 2
  · rw [if_pos k2];simp only [List.length_cons,List.length_append];omega
  · rw [if_neg k2];simp only [List.length_cons,List.length_append,List.length_nil];omega
set_option maxHeartbeats 4000000 in
theorem layEntry_any {f : Nat} {w0 w : World} {e : En} {cs : List Value} {b : Value} {l : List Int} (h : IsE f w0 e cs) (hk : 1 ≤ e.kind ∧ e.kind ≤ 7) (hb : Bu w b l) (hm : l.length + e.text.size ≤ 70368744170000) :
    Calls Tryz.prog 76 #[b,.agg cs.toArray] w fun r w' => ∃ b',r = .returned b' ∧ Bu w' b' (l ++ layE e) ∧ Grow w b w' b':=by
  obtain ⟨dc,rfl,hv,hdl,hone,hh,hby,htx,-,hta,hdo,hve,hab,hae⟩:=h;refine enter (args:=[b,.agg (enC e dc).toArray]) Tryz.func76 rfl Tryz.ntmps76 rfl ?_;refine K.kgo ?_;refine WL.box rfl rfl rfl rfl rfl fun g w1 hf => ?_;have hf' : Fresh w g w1 52 (enC e dc):=hf;clear hf;have hb1 : Bu w1 b l:=hb.below hf'.below;have hg1 : Grow w b w1 b:=(Grow.refl w b).below hf'.below;have hR : ∀ {wk vk},Grow w1 b wk vk → EnAt 52 g wk e dc:=fun h => ⟨hf'.stand hb h,hdl,hh⟩;have fin : ∀ {b' w'},Bu w' b' (l ++ layE e) → Grow w1 b w' b' → ∃ b'',Ending.returned b' = .returned b'' ∧ Bu w' b'' (l ++ layE e) ∧ Grow w b w' b'':=fun {b' w'} h1 h2 => ⟨b',rfl,h1,hg1.trans h2⟩;have g0:=Grow.refl w1 b;have e8 : IntKind.u8.wrap e.kind = e.kind:=by rw [IntKind.wrap_u8];omega
  refine K.kgo ?_;refine WL.load rfl rfl rfl rfl rfl rfl (hR g0).kind ?_;refine K.kgo ?_;refine WL.push rfl rfl rfl rfl rfl rfl rfl rfl rfl rfl rfl (fun _ => rfl) rfl hb1 (by simp only [List.length_cons,List.length_nil];omega) fun b2 w2 hb2 g2 => ?_;rw [e8] at hb2;refine K.kgo ?_;refine WL.load rfl rfl rfl rfl rfl rfl (hR g2).table ?_;refine K.kgo ?_;refine WL.load rfl rfl rfl rfl rfl rfl (hR g2).doc ?_;refine K.kgo ?_;refine WL.load rfl rfl rfl rfl rfl rfl (hR g2).ver ?_;refine K.kgo ?_;refine WL.load rfl rfl rfl rfl rfl rfl (hR g2).text ?_;refine K.kgo ?_;refine WL.build [.int .i64 e.table,.int .i64 e.doc,.int .i64 e.ver,.int .i64 e.text.size] rfl rfl rfl rfl rfl (by kernel_rfl) ?_;have hN : ∃ N : List Int,N = [e.table,e.doc,e.ver,(e.text.size : Int)]:=⟨_,rfl⟩;obtain ⟨N,hN⟩:=hN;have hNg : ∀ i,i < 4 → [Value.int .i64 e.table,.int .i64 e.doc,.int .i64 e.ver,.int .i64 e.text.size][i]? = some (.int .i64 (N.getD i 0)) ∧ R64 (N.getD i 0):=fun i hi => by
    rw [hN]
    match i,hi with
    | 0,_ => exact ⟨rfl,hta⟩
    | 1,_ => exact ⟨rfl,hdo⟩
    | 2,_ => exact ⟨rfl,hve⟩
    | 3,_ => exact ⟨rfl,by show R64 (e.text.size : Int);omega⟩
  have hpl : ∀ i,i ≤ 4 → ((N.take i).flatMap fun n => uvB n.toNat).length ≤ 10 * i:=fun i hi => by
    have h1:=uvB_len e.table.toNat;have h2:=uvB_len e.doc.toNat;have h3:=uvB_len e.ver.toNat;have h4:=uvB_len (e.text.size : Int).toNat;rw [hN]
    match i,hi with
    | 0,_ => simp
    | 1,_ => simp;omega
    | 2,_ => simp;omega
    | 3,_ => simp;omega
    | 4,_ => simp only [List.take_succ_cons,List.take_zero,List.flatMap_cons,List.flatMap_nil,List.length_append,List.length_nil];omega
  have hM : (l ++ [e.kind]).length = l.length + 1:=by simp
  have hML : l ++ layE e = (l ++ [e.kind]) ++ ((N.take 4).flatMap (fun n => uvB n.toNat) ++ (byI e.text ++ (uvB e.ab.toNat ++ (uvB e.ae.toNat ++ (if e.kind = 2 then e.hash else []))))):=by
    rw [hN];unfold layE;simp
  generalize l ++ [e.kind] = M at hb2 hM hML;refine K.kgo ?_;refine WC.loop (fun i : Nat × Value => [(0,i.2),(3,.pointer (some ⟨g,0,none⟩)),(22,.agg [.int .i64 e.table,.int .i64 e.doc,.int .i64 e.ver,.int .i64 e.text.size].toArray),(23,.int .i64 i.1)])
    (fun i w' => i.1 ≤ 4 ∧ Bu w' i.2 (M ++ (N.take i.1).flatMap fun n => uvB n.toNat) ∧ Grow w1 b w' i.2) (fun i => 4 - i.1) (0,b2) ⟨rfl,rfl,rfl,rfl,trivial⟩ ⟨Nat.zero_le _,by simpa using hb2,g2⟩ ?_
  rintro ⟨i,br⟩ wr ⟨hi,hbr,hgr⟩;simp only at hi hbr hgr ⊢;have hpi:=hpl i hi
  by_cases hik : i < 4
  · obtain ⟨hn1,hn2⟩:=hNg i hik
    refine K.kgo ?_;refine WL.elem i rfl rfl rfl rfl rfl rfl rfl rfl hik hn1 ?_;refine K.kgo ?_;refine WL.call rfl rfl rfl rfl rfl Tryz.func75 rfl (by kernel_rfl) (number11_any (N.getD i 0) hbr hn2 (by rw [List.length_append];omega)) ?_;rintro _ w3 ⟨b3,rfl,hb3,hg3⟩;refine ⟨_,rfl,?_⟩;refine K.kgo ?_;refine WQ.again (i + 1,b3) ⟨rfl,rfl,rfl,rfl,trivial⟩ ⟨hik,?_,hgr.trans hg3⟩ (by show 4 - (i + 1) < 4 - i;omega);have hNl : N.length = 4:=by rw [hN];rfl
    have ht : N.take (i + 1) = N.take i ++ [N.getD i 0]:=by rw [List.take_add_one];simp [show i < N.length by omega]
    show Bu w3 b3 (M ++ (N.take (i + 1)).flatMap _)
    rw [ht,List.flatMap_append,← List.append_assoc]
    simpa using hb3
  · obtain rfl : i = 4:=by omega
    have hgt:=byI_len e.text;have hu5:=uvB_len e.ab.toNat;have hu6:=uvB_len e.ae.toNat;refine K.kgo ?_;refine WC.drawn 11 (fun wx => EnAt 52 g wx e dc) fun w4 hd4 => ?_;have hb4:=hbr.below (hd4.below _);have hg4:=hgr.below (hd4.below _);have hS:=hR hg4;refine K.fr [0,1] hS ?_;refine K.wl 2 [3,7,11,12] rfl rfl rfl rfl rfl rfl rfl (fun wx hx => hx.text) hS ?_;refine K.fr [4,5] hS ?_;refine K.wl 6 [7,11,12] rfl rfl rfl rfl rfl rfl rfl (fun wx hx => hx.ab) hS ?_;refine K.fr [8,9] hS ?_;refine K.wl 10 [11,12] rfl rfl rfl rfl rfl rfl rfl (fun wx hx => hx.ae) hS ?_;refine K.wo 3 ?_;refine WL.appS rfl rfl rfl rfl rfl hb4 rfl (by rw [List.length_append];omega) fun b5 w5 hb5 hg5 => ?_;have g5:=hg4.trans hg5;refine WL.nil (WQ.dk (.inr (hR g5)) ?_);refine K.wo 7 ?_;refine WL.call rfl rfl rfl rfl rfl Tryz.func75 rfl (by kernel_rfl) (number11_any e.ab hb5 hab (by rw [List.length_append,List.length_append,bytesI_len];omega)) ?_;rintro _ w6 ⟨b6,rfl,hb6,hg6⟩;refine ⟨_,rfl,?_⟩;have g6:=g5.trans hg6;refine WL.nil (WQ.dk (.inr (hR g6)) ?_);refine K.wo 11 ?_;refine WL.call rfl rfl rfl rfl rfl Tryz.func75 rfl (by kernel_rfl) (number11_any e.ae hb6 hae (by rw [List.length_append,List.length_append,List.length_append,bytesI_len];omega)) ?_;rintro _ w7 ⟨b7,rfl,hb7,hg7⟩;refine ⟨_,rfl,?_⟩;have g7:=g6.trans hg7;refine K.dl ?_;refine K.wo 12 ?_;refine WL.pure rfl rfl rfl rfl ?_;refine K.dl ?_;refine WD.done (by kernel_rfl) ?_;refine K.kgo ?_;refine WL.load rfl rfl rfl rfl rfl rfl (hR g7).kind ?_;have hb7' : Bu w7 b7 (M ++ ((N.take 4).flatMap (fun n => uvB n.toNat) ++ (byI e.text ++ (uvB e.ab.toNat ++ uvB e.ae.toNat)))):=by simpa [List.append_assoc,bytesI,byI] using hb7
    by_cases k2 : e.kind = 2
    · refine K.kgo ?_
      refine WL.all rfl rfl rfl rfl rfl rfl ?_;refine WL.app rfl rfl rfl rfl rfl hb7' rfl (hash_sl (hR g7).hash hh (hR g7).blk.lt) (by simp only [List.length_append];omega) fun b8 w8 hb8 hg8 => ?_;refine K.kgo ?_;refine WQ.ret1 rfl rfl (fin ?_ (g7.trans hg8));rw [hML,if_pos k2]
      simpa [List.append_assoc] using hb8
    · refine K.kgo ?_
      refine WQ.ret1 rfl rfl (fin ?_ g7);rw [hML,if_neg k2,List.append_nil];exact hb7'
end K
namespace K
theorem hash_neq (a b : List Int) (ha : a.length = 32) (hb : b.length = 32) (W : World) : (binOp .neq 30 (.agg (hashC a).toArray) (.agg (hashC b).toArray)).run Tryz.prog W = .ok (.bool (!decide (a = b))) W:=by
  have h:=hash_eql a b ha hb W;rw [run_eql_struct] at h;rw [run_neq_struct]
  revert h
  generalize (Op.equalIn 10000 30 (.agg (hashC a).toArray) (.agg (hashC b).toArray)).run Tryz.prog W = r;intro h;cases r with
  | ok x w2 =>
    simp only [Result.andThen_ok] at h ⊢
    injection h with h1 h2
    injection h1 with h1
    rw [h1,h2]
  | halt x w2 => cases h
theorem hash_guard2 (x y : Operand) (a b : Array Value) (W : World) : (eqGuard .neq 30 x y (.agg a) (.agg b)).run Tryz.prog W = .ok () W:=by
  have h : Tryz.prog.eqGuardType Tryz.prog.depth 30 = false:=by kernel_rfl
  simp [eqGuard,h]
section
variable {n : NN} {Q : Exit → Act → World → Prop} {l : Env} {w w' : World} {ops : Array Oper} {o : Oper} {rest : List Oper} {d : Nat}
theorem WL.neqH {x y : Operand} {t2 : Nat} {a b : List Int} (hg : o.guard = none) (hd : o.dst = some d) (hn : Nat.blt d n.n = true) (ho : o.op = .binOp .neq 30 x y t2) (hx : evl l x = some (.agg (hashC a).toArray)) (hy : evl l y = some (.agg (hashC b).toArray))
    (ha : a.length = 32) (hb : b.length = 32) (h : WL n ops Q rest ((d,.bool (!decide (a = b))) :: l) w) : WL n ops Q (o :: rest) l w :=
  WL.step hg hd hn (fun c hc => by
    unfold execOp;rw [ho];simp only [hc.eval hx,hc.eval hy,Sem.run_bind,hash_guard2,Result.andThen_ok,hash_neq a b ha hb w]
    rfl) h
end
theorem checkEntry_any {f : Nat} {w : World} {e : En} {cs : List Value} (h : IsE f w e cs) (hlen : chk 16 e.data = 0 → (encV 16 e.data).length ≤ 70368744177664) :
    Calls Tryz.prog 54 #[.agg cs.toArray] w fun r w' => r = .returned (.int .i64 (chkE e)) ∧ Below w.heap.size w w':=by
  obtain ⟨dc,rfl,hv,hdl,hone,hh,hby,htx,hr⟩:=h;have hall : EnP (IsV f w) e (enC e dc):=⟨dc,rfl,hv,hdl,hone,hh,hby,htx,hr⟩;refine enter (args:=[.agg (enC e dc).toArray]) Tryz.func54 rfl Tryz.ntmps54 rfl ?_;refine K.kgo ?_;refine WL.box rfl rfl rfl rfl rfl fun g w1 hf => ?_;have hf' : Fresh w g w1 52 (enC e dc):=hf;clear hf;have B1 : EnAt _ g w1 e dc:=⟨hf'.blk,hdl,hh⟩;have hw1:=hf'.below;clear hf';refine K.kgo ?_;refine WL.loadMid rfl rfl rfl rfl rfl rfl (VBlk.rangeAt B1.blk) B1.len ?_;refine WL.call rfl rfl rfl rfl rfl Tryz.func72 rfl (by kernel_rfl) (shape_any (IsE.below hw1 hall)) ?_;rintro _ w2 ⟨⟨b,rfl,hb⟩,hk2⟩;refine ⟨_,rfl,?_⟩;have hw2:=hw1.trans (hk2.mono hw1.size);have B2:=B1.below hk2;cases b with
  | false =>
    have hf : ¬ formE e:=fun h => by have:=hb.2 h;cases this
    refine K.kgo ?_;exact WQ.ret1 rfl rfl ⟨by unfold chkE;rw [if_neg hf],hw2⟩
  | true =>
    have hf:=hb.1 rfl;refine K.kgo ?_;refine WL.load rfl rfl rfl rfl rfl rfl B2.kind ?_
    by_cases k2 : e.kind = 2
    rotate_left
    · refine K.kgo ?_
      exact WQ.ret1 rfl rfl ⟨by unfold chkE;rw [if_pos hf,if_pos (.inl k2)],hw2⟩
    refine K.kgo ?_;refine WL.load rfl rfl rfl rfl rfl rfl B2.gone ?_;cases hg : e.gone with
    | true =>
      refine K.kgo ?_;exact WQ.ret1 rfl rfl ⟨by unfold chkE;rw [if_pos hf,if_pos (.inr hg)],hw2⟩
    | false =>
      have hc0 : chkE e = if (encR e.data).2 ≠ 0 then (encR e.data).2 else if hashR e.data = e.hash then 0 else 18:=by unfold chkE;rw [if_pos hf,if_neg (by simp [k2,hg])]
      refine K.kgo ?_;refine WL.loadMid rfl rfl rfl rfl rfl rfl B2.data hdl ?_;refine WL.call rfl rfl rfl rfl rfl Tryz.func73 rfl (by kernel_rfl) (hash_any (hv.below hw2) hlen) ?_;rintro _ w3 ⟨rfl,hk3⟩;refine ⟨_,rfl,?_⟩;have hw3:=hw2.trans (hk3.mono hw2.size);have B3:=B2.below hk3;have hhl : (hashC (hashR e.data)).length = 32:=by rw [List.length_map];exact hashR_len _
      refine K.kgo ?_;refine WL.alloc (z:=.agg (hashC Dig.Z32).toArray) rfl rfl rfl rfl (Dig.zero25) fun c w4 hf4 => ?_;have hf4' : Fresh w3 c w4 30 (hashC Dig.Z32):=hf4;clear hf4;refine WL.storeRow rfl rfl rfl rfl rfl rfl hf4'.blk hhl (by rfl) (Ones.int _ _) ?_;have hk5 : Below w3.heap.size w3 (w4.setRow c (hashC (hashR e.data)).toArray):=below_setRow hf4'.below (by rw [hf4'.eq];exact Nat.le_refl _) _;have H5 : VBlk 30 (w4.setRow c (hashC (hashR e.data)).toArray) c (hashC (hashR e.data)):=hf4'.blk.setRow _;generalize w4.setRow c (hashC (hashR e.data)).toArray = w5 at hk5 H5;have hw5:=hw3.trans (hk5.mono hw3.size);have B5:=B3.below hk5;clear hf4'
      by_cases he : (encR e.data).2 = 0
      rotate_left
      · refine K.kgo ?_
        exact WQ.ret1 rfl rfl ⟨by rw [hc0,if_pos he];rfl,hw5⟩
      rw [if_neg (by simpa using he)] at hc0;refine K.kgo ?_;refine WL.loadMid rfl rfl rfl rfl rfl rfl (VBlk.rangeAt H5) hhl ?_;refine K.kgo ?_;refine WL.loadMid rfl rfl rfl rfl rfl rfl B5.hash (by rw [List.length_map];exact hh) ?_;refine WL.on rfl rfl ?_;refine WL.neqH rfl rfl rfl rfl rfl rfl (hashR_len _) hh ?_
      by_cases hq : hashR e.data = e.hash
      · refine WL.as 27 (.bool false) rfl (congrArg Value.bool (by simp [hq])) ?_
        refine K.kgo ?_;exact WQ.ret1 rfl rfl ⟨by rw [hc0,if_pos hq,← he];rfl,hw5⟩
      · refine WL.as 27 (.bool true) rfl (congrArg Value.bool (by simp [hq])) ?_
        refine K.kgo ?_;exact WQ.ret1 rfl rfl ⟨by rw [hc0,if_neg hq],hw5⟩
structure BkAt (T g : Nat) (w : World) (b : Bk) (se : Value) : Prop where
  blk : VBlk T w g (bkC b se)
  pl : b.prev.length = 32
section
variable {T g : Nat} {w w' : World} {b : Bk} {se : Value}
theorem BkAt.len (h : BkAt T g w b se) : (bkC b se).length = 36:=by simp [bkC,h.pl]
theorem BkAt.index (h : BkAt T g w b se) : w.cell? ⟨g,0,none⟩ = some (.int .i64 b.index):=h.blk.cell 0 (by simp [bkC])
theorem BkAt.time (h : BkAt T g w b se) : w.cell? ⟨g,1,none⟩ = some (.int .i64 b.time):=h.blk.cell 1 (by simp [bkC])
theorem BkAt.txn (h : BkAt T g w b se) : w.cell? ⟨g,2,none⟩ = some (.int .i64 b.txn):=h.blk.cell 2 (by simp [bkC])
theorem BkAt.prev (h : BkAt T g w b se) : w.rangeAt g 3 (hashC b.prev):=VBlk.part h.blk [.int .i64 b.index,.int .i64 b.time,.int .i64 b.txn] (hashC b.prev) [se] rfl
theorem BkAt.ents (h : BkAt T g w b se) : w.cell? ⟨g,35,none⟩ = some se:=by
  have:=h.blk.cell 35 (by rw [h.len];omega);rw [this,List.getD_eq_getElem?_getD];have h1 : bkC b se = (.int .i64 b.index :: .int .i64 b.time :: .int .i64 b.txn :: hashC b.prev) ++ [se]:=by simp [bkC]
  rw [h1,List.getElem?_append_right (by simp [h.pl])];simp [h.pl]
theorem BkAt.keep (h : BkAt T g w b se) {K : Nat → Prop} (hk : Keep K w w') (hb : K g) : BkAt T g w' b se:=⟨VBlk.keep h.blk hk hb,h.pl⟩
theorem BkAt.below (h : BkAt T g w b se) (hk : Below w.heap.size w w') : BkAt T g w' b se:=⟨VBlk.below h.blk hk h.blk.lt,h.pl⟩
end
def NewBu (w : World) (l : List Int) (r : Ending) (w' : World) : Prop:=∃ v,r = .returned v ∧ Bu w' v l ∧ Below w.heap.size w w' ∧ ∀ g,v.ownBlock = some g → w.heap.size ≤ g
theorem head_any {f : Nat} {w : World} {b : Bk} {cs : List Value} (h : IsB f w b cs) : Calls Tryz.prog 74 #[.agg cs.toArray] w (NewBu w (headL b)):=by
  obtain ⟨se,rfl,hents,hpl,hpb,hi,ht,hx⟩:=h;refine enter (args:=[.agg (bkC b se).toArray]) Tryz.func74 rfl Tryz.ntmps74 rfl ?_;refine K.kgo ?_;refine WL.box rfl rfl rfl rfl rfl fun g w1 hf => ?_;have hf' : Fresh w g w1 33 (bkC b se):=hf;clear hf;have hg0 : Grow w (.slice none 0 0) w1 (.slice none 0 0):=(Grow.refl w _).below hf'.below;have hR : ∀ {wk vk},Grow w1 (.slice none 0 0) wk vk → BkAt 33 g wk b se:=fun h => ⟨hf'.stand (Bu.nil w) h,hpl⟩;have h1:=uvB_len b.index.toNat;have h2:=uvB_len b.time.toNat;have h3:=uvB_len b.txn.toNat;refine K.kgo ?_;refine WC.drawn 11 (fun wx => BkAt 33 g wx b se) fun w2 hd2 => ?_;have g2 : Grow w1 (.slice none 0 0) w2 (.slice none 0 0):=(Grow.refl w1 _).below (hd2.below _);have hS:=hR g2;refine K.fr [0] hS ?_;refine K.wl 1 [2,5,8,11,12] rfl rfl rfl rfl rfl rfl rfl (fun wx hx => hx.index) hS ?_;refine K.fr [3] hS ?_;refine K.wl 4 [5,8,11,12] rfl rfl rfl rfl rfl rfl rfl (fun wx hx => hx.time) hS ?_;refine K.fr [6] hS ?_;refine K.wl 7 [8,11,12] rfl rfl rfl rfl rfl rfl rfl (fun wx hx => hx.txn) hS ?_;refine K.fr [9] hS ?_;refine WD.all 10 rfl (by kernel_rfl) rfl rfl (fun _ _ _ _ _ h => h) rfl rfl rfl rfl (.inr hS) ?_;refine K.wo 2 ?_;refine WL.call rfl rfl rfl rfl rfl Tryz.func75 rfl (by kernel_rfl) (number11_any b.index (Bu.nil w2) hi (by simp)) ?_;rintro _ w3 ⟨b3,rfl,hb3,hg3⟩;refine ⟨_,rfl,?_⟩;have g3:=g2.trans hg3;refine WL.nil (WQ.dk (.inr (hR g3)) ?_);rw [List.nil_append] at hb3;refine K.wo 5 ?_;refine WL.call rfl rfl rfl rfl rfl Tryz.func75 rfl (by kernel_rfl) (number11_any b.time hb3 ht (by omega)) ?_;rintro _ w4 ⟨b4,rfl,hb4,hg4⟩;refine ⟨_,rfl,?_⟩;have g4:=g3.trans hg4;refine WL.nil (WQ.dk (.inr (hR g4)) ?_);refine K.wo 8 ?_;refine WL.call rfl rfl rfl rfl rfl Tryz.func75 rfl (by kernel_rfl) (number11_any b.txn hb4 hx (by rw [List.length_append];omega)) ?_;rintro _ w5 ⟨b5,rfl,hb5,hg5⟩;refine ⟨_,rfl,?_⟩;have g5:=g4.trans hg5;refine WL.nil (WQ.dk (.inr (hR g5)) ?_);refine K.wo 11 ?_;refine WL.app rfl rfl rfl rfl rfl hb5 rfl (hash_sl (hR g5).prev hpl (hR g5).blk.lt) (by rw [List.length_append,List.length_append];omega) fun b6 w6 hb6 hg6 => ?_;have g6:=g5.trans hg6;refine K.dl ?_;refine K.wo 12 ?_;refine WL.pure rfl rfl rfl rfl ?_;refine K.dl ?_;refine WD.done (by kernel_rfl) ?_;refine K.kgo ?_;have g7:=hg0.trans g6;refine WQ.ret1 rfl rfl ⟨b6,rfl,?_,g7.old (Nat.le_refl _) (fun g h => by cases h),g7.own (Nat.le_refl _) (fun g h => by cases h)⟩;unfold headL
  simpa [List.append_assoc] using hb6
end K
namespace K
theorem layX_len {data : Bool} {e : En} (h : chkE e = 0) (hh : e.hash.length = 32) : (layE e ++ layD data e).length ≤ 80000:=by
  obtain ⟨hf,hd⟩:=chkE_ok h;obtain ⟨-,-,-,-,hx,-⟩:=formE_rng hf;have h1:=layE_len e hh;have h2 : (layD data e).length ≤ 70000:=by
    unfold layD
    by_cases k2 : e.kind = 2
    · rw [if_pos k2]
      by_cases hg : e.gone = true ∨ data = false
      · rw [if_pos hg];simp
      · rw [if_neg hg]
        have hgf : e.gone = false:=by cases hq : e.gone with
          | true => exact absurd (.inl hq) hg
          | false => rfl
        obtain ⟨he,-⟩:=hd k2 hgf;obtain ⟨-,hl,hx⟩:=encR_ok he;have:=uvB_len (encV 16 e.data).length;rw [hx];simp only [List.length_cons,List.length_append];omega
    · rw [if_neg k2];simp
  rw [List.length_append];omega
theorem layXs_len {data : Bool} : ∀ (es : List En),(∀ e ∈ es,chkE e = 0 ∧ e.hash.length = 32) → (es.flatMap fun e => layE e ++ layD data e).length ≤ 80000 * es.length
  | [],_ => by simp
  | e :: es,h => by
    have h1:=layX_len (data:=data) (h e (by simp)).1 (h e (by simp)).2;have h2:=layXs_len (data:=data) es fun x hx => h x (List.mem_cons_of_mem _ hx);rw [List.flatMap_cons,List.length_append,List.length_cons];omega
theorem Els.at {α : Type} {m : Nat} {z : α} {P : α → List Value → Prop} {O : Nat → Prop} {w : World} {v : Value} {l : List α} (h : Els m z P O w v l) {j : Nat} (hj : j < l.length) :
    ∃ b o cap cs,v = .slice (some ⟨b,o,none⟩) l.length cap ∧ b < w.heap.size ∧ cs.length = m ∧ P (l.getD j z) cs ∧ w.rangeAt b (o + j * m) cs:=by
  obtain ⟨sp,cap,rfl,-,-,-,h4⟩:=h;obtain ⟨b,o,rfl,hb,-,hr⟩:=h4 (by omega);obtain ⟨cs,h1,h2,h3⟩:=hr j hj;exact ⟨b,o,cap,cs,rfl,hb,h1,h2,h3⟩
theorem Els.slice {α : Type} {m : Nat} {z : α} {P : α → List Value → Prop} {O : Nat → Prop} {w : World} {v : Value} {l : List α} (h : Els m z P O w v l) : ∃ sp cap,v = .slice sp l.length cap:=by
  obtain ⟨sp,cap,rfl,-⟩:=h;exact ⟨sp,cap,rfl⟩
theorem take_snoc {α : Type} (l : List α) (z : α) {i : Nat} (h : i < l.length) : l.take (i + 1) = l.take i ++ [l.getD i z]:=by rw [List.take_add_one];simp [h]
theorem BkP.hashes {f : Nat} {w : World} {b : Bk} {cs : List Value} (h : IsB f w b cs) : ∀ e ∈ b.ents,e.hash.length = 32 ∧ RngE e:=by
  intro e he;obtain ⟨j,hj,rfl⟩:=List.getElem_of_mem he;obtain ⟨se,-,hents,-⟩:=h;obtain ⟨_,_,_,cs,-,-,-,⟨dc,-,hv,-,-,hl,-⟩,-⟩:=hents.at hj;have e1 : b.ents.getD j noE = b.ents[j]:=by simp [hj]
  rw [e1] at hv hl;exact ⟨hl,⟨f,IsV.rng hv⟩,hl⟩
set_option maxHeartbeats 8000000 in
theorem lay11_any {f : Nat} {w : World} {b : Bk} {cs : List Value} (data : Bool) (h : IsB f w b cs) (hck : ∀ e ∈ b.ents,chkE e = 0) (hle : b.ents.length ≤ 200) : Calls Tryz.prog 55 #[.agg cs.toArray,.bool data] w (NewBu w (layB data b)):=by
  have hall:=h;have hhs:=BkP.hashes h;have hcl:=h.len;obtain ⟨se,rfl,hents,hpl,hpb,hr⟩:=h;obtain ⟨sp,cap,rfl⟩:=hents.slice;refine enter (args:=[.agg (bkC b (.slice sp b.ents.length cap)).toArray,.bool data]) Tryz.func55 rfl Tryz.ntmps55 rfl ?_;refine K.kgo ?_;refine WL.box rfl rfl rfl rfl rfl fun g w1 hf => ?_;have hf' : Fresh w g w1 33 (bkC b (.slice sp b.ents.length cap)):=hf;clear hf;have hw1:=hf'.below;have B1 : BkAt 33 g w1 b (.slice sp b.ents.length cap):=⟨hf'.blk,hpl⟩;clear hf';refine K.kgo ?_;refine WL.loadMid rfl rfl rfl rfl rfl rfl (VBlk.rangeAt B1.blk) hcl ?_;refine WL.call rfl rfl rfl rfl rfl Tryz.func74 rfl (by kernel_rfl) (head_any (IsB.below hw1 hall)) ?_;rintro _ w2 ⟨b2,rfl,hb2,hk2,ho2⟩;refine ⟨_,rfl,?_⟩;have hw2:=hw1.trans (hk2.mono hw1.size);have B2:=B1.below hk2;have ha2 : Apart w w2 b2:=⟨hw2,fun g hg => Nat.le_trans hw1.size (ho2 g hg)⟩;have hhl : (headL b).length ≤ 70:=by
    have h1:=uvB_len b.index.toNat;have h2:=uvB_len b.time.toNat;have h3:=uvB_len b.txn.toNat;unfold headL;simp only [List.length_append];omega
  refine K.kgo ?_;refine WL.load rfl rfl rfl rfl rfl rfl B2.ents ?_;refine K.kgo ?_;refine WL.call rfl rfl rfl rfl rfl Tryz.func75 rfl (by kernel_rfl) (number11_any (b.ents.length : Int) hb2 (by show R64 _;omega) (by omega)) ?_;rintro _ w3 ⟨b3,rfl,hb3,hg3⟩;refine ⟨_,rfl,?_⟩;rw [Int.toNat_natCast] at hb3;have ha3:=ha2.grow hg3;have B3 : BkAt 33 g w3 b (.slice sp b.ents.length cap):=B2.keep hg3.1 ⟨B2.blk.lt,fun e => by have:=ho2 g e;have:=B1.blk.lt;omega⟩;have hun:=uvB_len b.ents.length;have hM : (headL b ++ uvB b.ents.length).length ≤ 80:=by rw [List.length_append];omega
  have hML : layB data b = (headL b ++ uvB b.ents.length) ++ b.ents.flatMap fun e => layE e ++ layD data e:=by unfold layB;rw [List.append_assoc]
  generalize headL b ++ uvB b.ents.length = M at hb3 hM hML;refine K.kgo ?_;refine WL.load rfl rfl rfl rfl rfl rfl B3.ents ?_;refine K.kgo ?_;refine WC.loop (fun i : Nat × Value => [(1,.bool data),(5,i.2),(18,.slice sp b.ents.length cap),(19,.int .i64 b.ents.length),(20,.int .i64 i.1)])
    (fun i w' => i.1 ≤ b.ents.length ∧ Bu w' i.2 (M ++ (b.ents.take i.1).flatMap fun e => layE e ++ layD data e) ∧ Apart w w' i.2) (fun i => b.ents.length - i.1) (0,b3) ⟨rfl,rfl,rfl,rfl,rfl,trivial⟩ ⟨Nat.zero_le _,by simpa using hb3,ha3⟩ ?_
  rintro ⟨i,br⟩ wr ⟨hi,hbr,har⟩;simp only at hi hbr har ⊢
  by_cases hik : i < b.ents.length
  · have hlen : (M ++ (b.ents.take i).flatMap fun e => layE e ++ layD data e).length ≤ 80 + 80000 * 200:=by
      have:=layXs_len (data:=data) (b.ents.take i) fun e he => ⟨hck e (List.mem_of_mem_take he),(hhs e (List.mem_of_mem_take he)).1⟩;rw [List.length_take] at this;rw [List.length_append];have h2 : min i b.ents.length ≤ 200:=by omega
      have:=Nat.mul_le_mul_left 80000 h2;omega
    have hts:=take_snoc b.ents noE hik;obtain ⟨kb,ko,cap',cs,hse,hkb,hc46,hce,hcr⟩:=hents.at hik
    injection hse with hse1 _ hse2
    subst hse1;subst hse2;have hmem : b.ents.getD i noE ∈ b.ents:=by simp [hik]
    have hce0:=hck _ hmem;have hh32:=(hhs _ hmem).1;obtain ⟨hform,hdat⟩:=chkE_ok hce0;obtain ⟨hkd,-,-,-,htx,-⟩:=formE_rng hform;generalize b.ents.getD i noE = e at hce hce0 hh32 hform hdat hkd htx hts;generalize hLL : (M ++ (b.ents.take i).flatMap fun e => layE e ++ layD data e) = L at hbr hlen;have hle:=layE_len e hh32;have again : ∀ {wx : World} {bx : Value},Bu wx bx (L ++ (layE e ++ layD data e)) → Apart w wx bx → Bu wx bx (M ++ (b.ents.take (i + 1)).flatMap fun e => layE e ++ layD data e) ∧ Apart w wx bx:=fun {wx bx} h1 h2 => by
      rw [hts,List.flatMap_append,← List.append_assoc,hLL];exact ⟨by simpa using h1,h2⟩
    have hone:=hce.one;have hce':=hce;obtain ⟨dc,rfl,hv,hdl,-,hh,-⟩:=hce;refine K.kgo ?_;refine WL.idx i (ko + i * 46) rfl rfl rfl rfl rfl rfl rfl rfl hik rfl ?_;refine WL.loadMid rfl rfl rfl rfl rfl rfl (fun j u hu => (har.below.cell (p:=⟨kb,ko + i * 46 + j,none⟩) hkb).trans (hcr j u hu)) hc46 ?_;refine WL.alloc (z:=.agg (enC noE zCells).toArray) rfl rfl rfl rfl (fun _ => by kernel_rfl) fun c w5 hf5 => ?_;have hf5' : Fresh wr c w5 52 (enC noE zCells):=hf5;clear hf5;refine K.kgo ?_;refine WL.storeRow rfl rfl rfl rfl rfl rfl hf5'.blk hc46 (by rfl) hone ?_;have hk6 : Below wr.heap.size wr (w5.setRow c (enC e dc).toArray):=below_setRow hf5'.below (by rw [hf5'.eq];exact Nat.le_refl _) _;have C6 : EnAt 52 c (w5.setRow c (enC e dc).toArray) e dc:=⟨hf5'.blk.setRow _,hdl,hh⟩;have hce5:=hf5'.eq;generalize w5.setRow c (enC e dc).toArray = w6 at hk6 C6;clear hf5';have hb6:=hbr.below hk6;have g6 : Grow wr br w6 br:=(Grow.refl wr br).below hk6;have hco : br.ownBlock ≠ some c:=fun e => by have:=hbr.lt _ e;omega
    have hR : ∀ {wk vk},Grow w6 br wk vk → EnAt 52 c wk e dc:=fun h => C6.keep h.1 ⟨C6.blk.lt,hco⟩;refine K.kgo ?_;refine WL.loadMid rfl rfl rfl rfl rfl rfl (VBlk.rangeAt C6.blk) hc46 ?_;refine WL.call rfl rfl rfl rfl rfl Tryz.func76 rfl (by kernel_rfl) (layEntry_any hce' hkd hb6 (by omega)) ?_;rintro _ w7 ⟨b7,rfl,hb7,g7⟩;refine ⟨_,rfl,?_⟩;refine K.kgo ?_;refine WL.load rfl rfl rfl rfl rfl rfl (hR g7).kind ?_
    by_cases k2 : e.kind = 2
    rotate_left
    · have hX : layD data e = []:=by unfold layD;rw [if_neg k2]
      refine K.kgo ?_;refine WQ.again (i + 1,b7) ⟨rfl,rfl,rfl,rfl,rfl,trivial⟩ ⟨hik,again (by rw [hX,List.append_nil];exact hb7) (har.grow (g6.trans g7))⟩ (by show b.ents.length - (i + 1) < b.ents.length - i;omega)
    refine K.kgo ?_;refine WL.load rfl rfl rfl rfl rfl rfl (hR g7).gone ?_
    by_cases hgd : e.gone = true ∨ data = false
    · have hX : layD data e = [0]:=by unfold layD;rw [if_pos k2,if_pos hgd]
      have hcase : e.gone = true ∨ (e.gone = false ∧ data = false):=by
        cases hq : e.gone with
        | true => exact .inl rfl
        | false => exact .inr ⟨rfl,hgd.resolve_left (by rw [hq];simp)⟩
      rcases hcase with hq | ⟨hq,hdf⟩
      · rw [hq]
        refine K.kgo ?_;refine WL.push rfl rfl rfl rfl rfl rfl rfl rfl rfl rfl rfl (fun _ => rfl) rfl hb7 (by rw [List.length_append];simp only [List.length_cons,List.length_nil];omega) fun b8 w8 hb8 g8 => ?_;refine K.kgo ?_;refine WQ.again (i + 1,b8) ⟨rfl,rfl,rfl,rfl,rfl,trivial⟩ ⟨hik,again (by rw [hX,← List.append_assoc];exact hb8) (har.grow ((g6.trans g7).trans g8))⟩ (by show b.ents.length - (i + 1) < b.ents.length - i;omega)
      · rw [hq]
        subst hdf;refine K.kgo ?_;refine WL.push rfl rfl rfl rfl rfl rfl rfl rfl rfl rfl rfl (fun _ => rfl) rfl hb7 (by rw [List.length_append];simp only [List.length_cons,List.length_nil];omega) fun b8 w8 hb8 g8 => ?_;refine K.kgo ?_;refine WQ.again (i + 1,b8) ⟨rfl,rfl,rfl,rfl,rfl,trivial⟩ ⟨hik,again (by rw [hX,← List.append_assoc];exact hb8) (har.grow ((g6.trans g7).trans g8))⟩ (by show b.ents.length - (i + 1) < b.ents.length - i;omega)
    · have hgf : e.gone = false:=by cases hq : e.gone with
        | true => exact absurd (.inl hq) hgd
        | false => rfl
      obtain rfl : data = true:=by cases data with
        | true => rfl
        | false => exact absurd (.inr rfl) hgd
      have hX : layD true e = 1 :: (uvB (encR e.data).1.length ++ (encR e.data).1):=by unfold layD;rw [if_pos k2,if_neg hgd]
      obtain ⟨he,-⟩:=hdat k2 hgf;obtain ⟨hc,hl65,hx⟩:=encR_ok he;have hun:=uvB_len (encR e.data).1.length;rw [← hx] at hl65;rw [hgf];have har7:=har.grow (g6.trans g7);refine K.kgo ?_;refine WL.loadMid rfl rfl rfl rfl rfl rfl (hR g7).data hdl ?_;refine WL.call rfl rfl rfl rfl rfl Tryz.func77 rfl (by kernel_rfl) (encode_any (hv.below har7.below) fun _ => by rw [← hx];omega) ?_;rintro _ w8 ⟨b8,rfl,hb8,hk8,ho8⟩;refine ⟨_,rfl,?_⟩;obtain ⟨sp8,cap8,rfl,-⟩:=hb8.form;have hb78:=hb7.below hk8;have g8 : Grow w7 b7 w8 b7:=(Grow.refl w7 b7).below hk8;refine K.kgo ?_;refine WL.push rfl rfl rfl rfl rfl rfl rfl rfl rfl rfl rfl (fun _ => rfl) rfl hb78 (by rw [List.length_append];simp only [List.length_cons,List.length_nil];omega) fun b9 w9 hb9 g9 => ?_;refine K.kgo ?_;refine WL.call rfl rfl rfl rfl rfl Tryz.func75 rfl (by kernel_rfl) (number11_any ((encR e.data).1.length : Int) hb9 (by show R64 _;omega) (by rw [List.length_append,List.length_append];simp only [List.length_cons,List.length_nil];omega)) ?_;rintro _ w10 ⟨b10,rfl,hb10,g10⟩;refine ⟨_,rfl,?_⟩;rw [Int.toNat_natCast] at hb10;have hs10 : Sl .u8 w10 (.slice sp8 (encR e.data).1.length cap8) (encR e.data).1:=hb8.sl.keep (g9.trans g10).1 fun b o n c hb hlt => ⟨hlt,fun e1 => by
        injection hb with hb1 _ _
        have h1:=ho8 b (by rw [hb1];rfl);have h2:=hb7.lt _ e1;omega⟩
      refine K.kgo ?_;refine WL.app rfl rfl rfl rfl rfl hb10 rfl hs10 (by simp only [List.length_append,List.length_cons,List.length_nil];omega) fun b11 w11 hb11 g11 => ?_;refine K.kgo ?_;refine WQ.again (i + 1,b11) ⟨rfl,rfl,rfl,rfl,rfl,trivial⟩ ⟨hik,again (by rw [hX];simpa [List.append_assoc] using hb11) ((((har7.grow g8).grow g9).grow g10).grow g11)⟩ (by show b.ents.length - (i + 1) < b.ents.length - i;omega)
  · obtain rfl : i = b.ents.length:=by omega
    rw [List.take_length] at hbr;refine K.kgo ?_;refine WQ.ret1 rfl rfl ⟨br,rfl,?_,har.below,har.own⟩;rw [hML];exact hbr
end K
namespace K
set_option maxHeartbeats 4000000 in
theorem check11_any {f : Nat} {w : World} {b : Bk} {cs : List Value} (h : IsB f w b cs) (hlen : ∀ e ∈ b.ents,chk 16 e.data = 0 → (encV 16 e.data).length ≤ 70368744177664) : Calls Tryz.prog 31 #[.agg cs.toArray] w fun r w' => r = .returned (.int .i64 (chkB b)) ∧ Below w.heap.size w w':=by
  have hall:=h;have hcl:=h.len;obtain ⟨se,rfl,hents,hpl,hpb,hi,ht,hx⟩:=h;obtain ⟨sp,cap,rfl⟩:=hents.slice;refine enter (args:=[.agg (bkC b (.slice sp b.ents.length cap)).toArray]) Tryz.func31 rfl Tryz.ntmps31 rfl ?_;refine K.kgo ?_;refine WL.box rfl rfl rfl rfl rfl fun g w1 hf => ?_;have hf' : Fresh w g w1 33 (bkC b (.slice sp b.ents.length cap)):=hf;clear hf;have hw1:=hf'.below;have B1 : BkAt 33 g w1 b (.slice sp b.ents.length cap):=⟨hf'.blk,hpl⟩;clear hf';have bad : ¬ ((0 ≤ b.index ∧ b.index ≤ 2147483648) ∧ (0 ≤ b.time ∧ b.time ≤ 9007199254740992) ∧ (0 ≤ b.txn ∧ b.txn ≤ 9007199254740992) ∧ (1 ≤ b.ents.length ∧ b.ents.length ≤ 200)) → Ending.returned (Value.int .i64 1) = .returned (.int .i64 (chkB b)):=fun h => by unfold chkB;rw [if_neg h]
  refine K.kgo ?_;refine WL.load rfl rfl rfl rfl rfl rfl B1.index ?_;refine WL.call rfl rfl rfl rfl rfl Tryz.func53 rfl (by kernel_rfl) (within_any _ _ _ _) ?_;rintro _ w1 ⟨rfl,rfl⟩;refine ⟨_,rfl,?_⟩
  by_cases c1 : 0 ≤ b.index ∧ b.index ≤ 2147483648
  rotate_left
  · refine WL.as 8 (.bool false) rfl (congrArg Value.bool (decide_eq_false c1)) ?_
    refine K.kgo ?_;exact WQ.ret1 rfl rfl ⟨bad fun h => c1 h.1,hw1⟩
  refine WL.as 8 (.bool true) rfl (congrArg Value.bool (decide_eq_true c1)) ?_;refine K.kgo ?_;refine WL.load rfl rfl rfl rfl rfl rfl B1.time ?_;refine WL.on rfl rfl ?_;refine WL.call rfl rfl rfl rfl rfl Tryz.func53 rfl (by kernel_rfl) (within_any _ _ _ _) ?_;rintro _ w1 ⟨rfl,rfl⟩;refine ⟨_,rfl,?_⟩
  by_cases c2 : 0 ≤ b.time ∧ b.time ≤ 9007199254740992
  rotate_left
  · refine WL.as 13 (.bool false) rfl (congrArg Value.bool (decide_eq_false c2)) ?_
    refine K.kgo ?_;exact WQ.ret1 rfl rfl ⟨bad fun h => c2 h.2.1,hw1⟩
  refine WL.as 13 (.bool true) rfl (congrArg Value.bool (decide_eq_true c2)) ?_;refine K.kgo ?_;refine WL.load rfl rfl rfl rfl rfl rfl B1.txn ?_;refine WL.on rfl rfl ?_;refine WL.call rfl rfl rfl rfl rfl Tryz.func53 rfl (by kernel_rfl) (within_any _ _ _ _) ?_;rintro _ w1 ⟨rfl,rfl⟩;refine ⟨_,rfl,?_⟩
  by_cases c3 : 0 ≤ b.txn ∧ b.txn ≤ 9007199254740992
  rotate_left
  · refine WL.as 19 (.bool false) rfl (congrArg Value.bool (decide_eq_false c3)) ?_
    refine K.kgo ?_;exact WQ.ret1 rfl rfl ⟨bad fun h => c3 h.2.2.1,hw1⟩
  refine WL.as 19 (.bool true) rfl (congrArg Value.bool (decide_eq_true c3)) ?_;refine K.kgo ?_;refine WL.load rfl rfl rfl rfl rfl rfl B1.ents ?_;refine K.kgo ?_;refine WL.call rfl rfl rfl rfl rfl Tryz.func53 rfl (by kernel_rfl) (within_any _ _ _ _) ?_;rintro _ w1 ⟨rfl,rfl⟩;refine ⟨_,rfl,?_⟩
  by_cases c4 : (1 : Int) ≤ (b.ents.length : Int) ∧ (b.ents.length : Int) ≤ 200
  rotate_left
  · refine WL.as 26 (.bool false) rfl (congrArg Value.bool (decide_eq_false c4)) ?_
    refine K.kgo ?_;exact WQ.ret1 rfl rfl ⟨bad fun h => c4 (by omega),hw1⟩
  refine WL.as 26 (.bool true) rfl (congrArg Value.bool (decide_eq_true c4)) ?_;have hgood : chkB b = if firstBad (b.ents.map chkE) ≠ 0 then firstBad (b.ents.map chkE) else if 262144 < (layB true b).length then 5 else 0:=by unfold chkB;rw [if_pos ⟨c1,c2,c3,by omega⟩]
  have hmap : ∀ j,j < b.ents.length → (b.ents.map chkE).getD j 0 = chkE (b.ents.getD j noE):=fun j hj => by simp [hj]
  refine K.kgo ?_;refine WL.load rfl rfl rfl rfl rfl rfl B1.ents ?_;refine K.kgo ?_;refine WC.loop (fun i : Nat => [(1,.pointer (some ⟨g,0,none⟩)),(30,.slice sp b.ents.length cap),(31,.int .i64 b.ents.length),(32,.int .i64 i)])
    (fun i w' => i ≤ b.ents.length ∧ Below w1.heap.size w1 w' ∧ ∀ j,j < i → chkE (b.ents.getD j noE) = 0) (fun i => b.ents.length - i) 0 ⟨rfl,rfl,rfl,rfl,trivial⟩ ⟨Nat.zero_le _,Below.refl _ _,fun j hj => by omega⟩ ?_
  rintro i wr ⟨hi,hbr,hz⟩;have hwr : Below w.heap.size w wr:=hw1.trans (hbr.mono hw1.size)
  by_cases hik : i < b.ents.length
  · obtain ⟨kb,ko,cap',cs,hse,hkb,hc46,hce,hcr⟩:=hents.at hik
    injection hse with hse1 _ hse2
    subst hse1;subst hse2;have hmem : b.ents.getD i noE ∈ b.ents:=by simp [hik]
    have hl:=hlen _ hmem;have hmi:=hmap i hik;refine K.kgo ?_;refine WL.idx i (ko + i * 46) rfl rfl rfl rfl rfl rfl rfl rfl hik rfl ?_;refine WL.loadMid rfl rfl rfl rfl rfl rfl (fun j u hu => (hwr.cell (p:=⟨kb,ko + i * 46 + j,none⟩) hkb).trans (hcr j u hu)) hc46 ?_;refine WL.alloc (z:=.agg (enC noE zCells).toArray) rfl rfl rfl rfl (fun _ => by kernel_rfl) fun c w5 hf5 => ?_;have hf5' : Fresh wr c w5 52 (enC noE zCells):=hf5;clear hf5;refine WL.storeRow rfl rfl rfl rfl rfl rfl hf5'.blk hc46 (by rfl) hce.one ?_;have hk6 : Below wr.heap.size wr (w5.setRow c cs.toArray):=below_setRow hf5'.below (by rw [hf5'.eq];exact Nat.le_refl _) _;have C6 : VBlk 52 (w5.setRow c cs.toArray) c cs:=hf5'.blk.setRow _;generalize w5.setRow c cs.toArray = w6 at hk6 C6;clear hf5';have hw6:=hwr.trans (hk6.mono hwr.size);refine K.kgo ?_;refine WL.loadMid rfl rfl rfl rfl rfl rfl (VBlk.rangeAt C6) hc46 ?_;refine WL.call rfl rfl rfl rfl rfl Tryz.func54 rfl (by kernel_rfl) (checkEntry_any (IsE.below hw6 hce) hl) ?_;rintro _ w7 ⟨rfl,hk7⟩;refine ⟨_,rfl,?_⟩;have hw7:=hw6.trans (hk7.mono hw6.size)
    by_cases hc : chkE (b.ents.getD i noE) = 0
    · refine K.kgo ?_
      refine WQ.again (i + 1) ⟨rfl,rfl,rfl,rfl,trivial⟩ ⟨hik,(hbr.trans (hk6.mono hbr.size)).trans (hk7.mono (Nat.le_trans hbr.size hk6.size)),fun j hj => ?_⟩ (by show b.ents.length - (i + 1) < b.ents.length - i;omega);rcases Nat.lt_or_ge j i with h | h
      · exact hz j h
      · obtain rfl : j = i:=by omega
        exact hc
    · have hfb : firstBad (b.ents.map chkE) = chkE (b.ents.getD i noE):=by
        rw [← hmi];exact firstBad_take (by simpa using hik) (fun j hj => by rw [hmap j (by omega)];exact hz j hj) (by rw [hmi];exact hc)
      refine K.kgo ?_;exact WQ.ret1 rfl rfl ⟨by rw [hgood,hfb,if_pos hc],hw7⟩
  · obtain rfl : i = b.ents.length:=by omega
    have hfb : firstBad (b.ents.map chkE) = 0:=firstBad_all fun j hj => by
      rw [List.length_map] at hj;rw [hmap j hj];exact hz j hj
    have hck : ∀ e ∈ b.ents,chkE e = 0:=fun e he => firstBad_zero.1 hfb _ (List.mem_map_of_mem he);have Br:=B1.below hbr;rw [if_neg (by simpa using hfb)] at hgood;refine K.kgo ?_;refine WL.loadMid rfl rfl rfl rfl rfl rfl (VBlk.rangeAt Br.blk) hcl ?_;refine WL.call rfl rfl rfl rfl rfl Tryz.func55 rfl (by kernel_rfl) (lay11_any true (IsB.below hwr hall) hck (by omega)) ?_;rintro _ w8 ⟨b8,rfl,hb8,hk8,-⟩;refine ⟨_,rfl,?_⟩;obtain ⟨sp8,cap8,rfl,-⟩:=hb8.form;have hw8:=hwr.trans (hk8.mono hwr.size)
    by_cases hbig : 262144 < (layB true b).length
    · refine K.kgo ?_
      exact WQ.ret1 rfl rfl ⟨by rw [hgood,if_pos hbig],hw8⟩
    · refine K.kgo ?_
      exact WQ.ret1 rfl rfl ⟨by rw [hgood,if_neg hbig],hw8⟩
end K
namespace K
section
variable {T g : Nat} {w w' : World} {b : Bk} {se : Value}
theorem BkAt.setEnts (h : BkAt T g w b se) (v : Value) (es : List En) : BkAt T g (w.setCell ⟨g,35,none⟩ v) { b with ents:=es } v:=by
  refine ⟨?_,h.pl⟩;have:=h.blk.set 35 v;have h1 : ∀ se,bkC b se = (.int .i64 b.index :: .int .i64 b.time :: .int .i64 b.txn :: hashC b.prev) ++ [se]:=fun se => by simp [bkC]
  have h2 : (Value.int IntKind.i64 b.index :: .int .i64 b.time :: .int .i64 b.txn :: hashC b.prev).length = 35:=by simp [h.pl]
  rw [h1,List.set_append_right _ _ (by omega),h2] at this;exact this
end
section
variable {rb g : Nat} {w0 w w' : World} {b : Bk} {se se' : Value} {q : Nat → Prop}
end
theorem elemE : ElemV Tryz.prog 31 52 46 192:=ElemV.mk' (z:=.agg (enC noE zCells).toArray) Tryz.underlying31 (by kernel_rfl) rfl (by omega)
end K
namespace K
theorem z32_byt : Byt Dig.Z32:=fun x hx => by have:=List.eq_of_mem_replicate hx;omega
end K
namespace K
end K
namespace K
end K
open Go.Maps
namespace Vw
open K
set_option maxRecDepth 100000
abbrev enT : Nat:=52
abbrev bkT : Nat:=33
def RPost (w : World) (rb : Nat) (M D : Nat → Prop) (f : Nat) (c : Int) (s : St) (N : Nat) (e : Ending) (w' : World) : Prop :=
  ∃ M' D',e = .returned (.int .i64 c) ∧ RVs w' rb M' D' f s N ∧ Keep (fun b => b < w.heap.size ∧ ¬ M b) w w' ∧ (∀ b,M' b → M b ∨ w.heap.size ≤ b) ∧ ∀ b,D' b → D b ∨ w.heap.size ≤ b
theorem app_none {L : List Cat.Tb} {kind : Int} {txt : ByteArray} {tbl : Int} (h5 : kind ≠ 5) (h6 : kind ≠ 6) (h7 : kind ≠ 7) : Cat.appC L kind txt tbl = 0 ∧ Cat.appL L kind txt tbl = L:=by
  have hc : Cat.appC L kind txt tbl = 0:=by unfold Cat.appC;rw [if_neg h5,if_neg h6,if_neg h7]
  exact ⟨hc,by unfold Cat.appL;rw [if_pos hc,if_neg h5,if_neg h6,if_neg h7]⟩
theorem app_bad {L : List Cat.Tb} {kind : Int} {txt : ByteArray} {tbl : Int} (h : Cat.appC L kind txt tbl ≠ 0) : Cat.appL L kind txt tbl = L:=by unfold Cat.appL;rw [if_neg h]
theorem ent_of {P : V → List Value → Prop} {e : En} {cs : List Value} (h : EnP P e cs) : Cat.Ent cs.toArray e.kind e.text e.table:=by
  obtain ⟨dc,rfl,-,h1,-,h2,-,h3,-,h4,-⟩:=id h;exact ⟨by simpa using h.len,rfl,rfl,rfl,by unfold maxLen;omega,wf64 h4⟩
theorem RPost.of {w w' : World} {rb : Nat} {M M' D : Nat → Prop} {f : Nat} {c c' : Int} {s s' : St} {N : Nat} (h : RVs w' rb M' D f s N) (hk : Keep (fun b => b < w.heap.size ∧ ¬ M b) w w') (hM : ∀ b,M' b → M b ∨ w.heap.size ≤ b) (e1 : c' = c) (e2 : s' = s) :
    RPost w rb M D f c' s' N (.returned (.int .i64 c)) w':=by
  subst e1 e2;exact ⟨M',D,rfl,h,hk,hM,fun b hb => .inl hb⟩
theorem RVs.mono {w : World} {rb : Nat} {M D : Nat → Prop} {f : Nat} {s : St} {N N' : Nat} (h : RVs w rb M D f s N) (h1 : N ≤ N') (h2 : N' ≤ 1000000) : RVs w rb M D f s N':=by
  obtain ⟨cp,Oc,rv,mb,k,h⟩:=h;exact ⟨cp,Oc,rv,mb,k,h.vb,h.cat,h.rows,h.red,h.mrb,h.mmb,h.moc,h.orb,h.omb,h.orow,h.lt,h.sep,h.vers,by have:=h.ok;omega⟩
theorem zSm (f : Nat) : Sm 3000 (f + 1) zV:=⟨by show (0 : Nat) ≤ 3000;omega,by show (0 : Nat) ≤ 3000;omega,fun x hx => by cases hx⟩
theorem elemRR : ElemV Tryz.prog 41 rrT 14 144:=ElemV.mk' (z:=.agg (rwC noR zCells).toArray) Tryz.underlying41 (by kernel_rfl) rfl (by omega)
theorem builtRow (a b c g h i : Int) (d e : Bool) (v1 v2 v3 : Int) (t : ByteArray) (sp sq : Option Addr) (n1 n2 c1 c2 : Nat) :
    Tryz.prog.built rrT [(0,.int .i64 a),(1,.int .i64 b),(2,.int .i64 c),(3,.agg #[.int .i64 v1,.int .i64 v2,.int .i64 v3,.string t,.slice sp n1 c1,.slice sq n2 c2]),(4,.bool d),(5,.bool e),(6,.int .i64 g),(7,.int .i64 h),(8,.int .i64 i)] =
      some [Value.int .i64 a,.int .i64 b,.int .i64 c,.int .i64 v1,.int .i64 v2,.int .i64 v3,.string t,.slice sp n1 c1,.slice sq n2 c2,.bool d,.bool e,.int .i64 g,.int .i64 h,.int .i64 i].toArray:=by kernel_rfl
theorem vo_six {O : Nat → Prop} {f : Nat} {w : World} {v : V} {cs : List Value} (h : IsVo O f w v cs) : ∃ sp sq n1 n2 c1 c2,cs = [.int .i64 v.k,.int .i64 v.n,.int .i64 v.s,.string v.t,.slice sp n1 c1,.slice sq n2 c2]:=by
  cases f with
  | zero => exact h.elim
  | succ f =>
    obtain ⟨sn,sk,rfl,-,-,-,-,⟨sp,c1,rfl,-⟩,⟨sq,c2,rfl,-⟩⟩:=h;exact ⟨sp,sq,_,_,c1,c2,rfl⟩
set_option maxHeartbeats 16000000 in
theorem rentry_any {w : World} {rb : Nat} {M D : Nat → Prop} {f : Nat} {s : St} {N : Nat} (h0 : RVs w rb M D f s N) (hN : N + 1 ≤ 1000000) {E : Nat → Prop} (hE' : ∀ x,E x → ¬ M x) {b : Bk} {bc : List Value} (hb : IsBo E f w b bc) (k : Nat) (hk : k < b.ents.length) (hk6 : k ≤ 1000000) (hsm : Sm 3000 f (b.ents.getD k noE).data) :
    Calls Tryz.prog 34 #[.pointer (some ⟨rb,0,none⟩),.agg bc.toArray,.int .i64 k] w (RPost w rb M D f (entR s (b.ents.getD k noE) b.index k b.time).1 (entR s (b.ents.getD k noE) b.index k b.time).2 (N + 1)):=by
  obtain ⟨cp,Oc,rv,mb,kc,h⟩:=id h0;obtain ⟨se,rfl,hents,hpl,hpb,rbi,rti,-⟩:=hb;obtain ⟨sp,cap,rfl,hc1,hc2,hc3,hrow⟩:=hents;obtain ⟨bb,bo,rfl,hbl,hbE,hrow⟩:=hrow (by omega);obtain ⟨ec,hel,hep,her⟩:=hrow k hk;generalize b.ents.getD k noE = e at hsm hep ⊢;have hE:=ent_of hep;obtain ⟨dc,rfl,hdv,hdl,hd1,hhl,hhb,htx,hr6⟩:=hep;have hlt:=h.lt;refine enter (args:=[.pointer (some ⟨rb,0,none⟩),.agg (bkC b (.slice (some ⟨bb,bo,none⟩) b.ents.length cap)).toArray,.int .i64 k]) Tryz.func34 rfl Tryz.ntmps34 rfl ?_;refine K.kgn ?_;refine WL.box rfl rfl rfl rfl rfl fun g4 w1 f1 => ?_;have B1 : BkAt bkT g4 w1 b (.slice (some ⟨bb,bo,none⟩) b.ents.length cap):=⟨f1.blk,hpl⟩;have b1:=f1.below;have e4:=f1.eq;clear f1;have her1 : w1.rangeAt bb (bo + k * 46) (enC e dc):=fun j u hu => (b1.cell (p:=⟨bb,bo + k * 46 + j,none⟩) hbl).trans (her j u hu);have cse:=B1.ents;refine K.kgl ?_;refine WL.idx k (bo + k * 46) rfl rfl rfl rfl rfl rfl rfl rfl hk rfl ?_;refine WL.loadMid rfl rfl rfl rfl rfl rfl her1 hel ?_;refine WL.alloc (z:=.agg (enC noE zCells).toArray) rfl rfl rfl rfl (fun _ => by kernel_rfl) fun g7 w2 f2 => ?_;refine WL.storeRow rfl rfl rfl rfl rfl rfl f2.blk hel rfl (EnP.one (P:=fun _ _ => True) ⟨dc,rfl,trivial,hdl,hd1,hhl,hhb,htx,hr6⟩) ?_;obtain ⟨v3,b3,-,q3⟩:=rowed (enC e dc) (Below.refl _ w1) f2;have e7 : w.heap.size ≤ g7:=by have:=b1.size;omega
  have E3 : EnAt enT g7 (w2.setRow g7 (enC e dc).toArray) e dc:=⟨v3,hdl,hhl⟩;have lg4:=VBlk.lt B1.blk;have B3 : BkAt bkT g4 (w2.setRow g7 (enC e dc).toArray) b (.slice (some ⟨bb,bo,none⟩) b.ents.length cap):=⟨VBlk.below B1.blk b3 lg4,hpl⟩;replace b1:=b1.trans (b3.mono b1.size);generalize w2.setRow g7 (enC e dc).toArray = w3 at v3 b1 b3 E3 B3 ⊢;replace lg4:=VBlk.lt B3.blk;have lg7:=VBlk.lt v3;clear f2 cse her1 b3 B1 v3 her q3 w2 w1;have z1:=b1.size;have h3:=h.below b1;have hdv3:=hdv.keep (O':=E) (Keep.of_below b1) (fun b _ h => h) (fun b h => h);have cp3:=h3.vb.cell 0 (by simp);simp only [List.getD_cons_zero] at cp3;have lrb:=h3.lt rb (.inl h3.mrb);refine K.kgo ?_;refine WC.drawn 5 (fun wx => Below w3.heap.size w3 wx) fun wa0 hd => ?_;have hS : Below w3.heap.size w3 wa0:=hd.below _;clear hd;refine K.fr [0,1,2] hS ?_;refine K.wl 3 [5,6] rfl rfl rfl rfl rfl rfl rfl (fun wx hx => (hx.cell (p:=⟨rb,0,none⟩) lrb).trans cp3) hS ?_;refine K.wm 4 [5,6] rfl rfl rfl rfl rfl rfl rfl (fun wx hx => VBlk.rangeAt (E3.below hx).blk) hel hS ?_;refine K.wo 5 ?_;have h3a:=h3.below hS;refine WL.call rfl rfl rfl rfl rfl Tryz.func64 rfl (by kernel_rfl) (Cr.rapply_any h3a.cat hE) ?_;rintro _ w4 ⟨O4,rfl,hr4,k4,o4⟩;refine ⟨_,rfl,?_⟩;refine K.dl ?_
  (refine K.fzl 6 rfl (q:=?_))
  refine WD.done (by kernel_rfl) ?_;have hAc:=app_bad (L:=s.cat) (kind:=e.kind) (txt:=e.text) (tbl:=e.table);have h4:=h3a.app hr4 k4 o4;have z3:=hS.size;have z4:=k4.size;have K4 : Keep (fun b => b < w.heap.size ∧ ¬ M b) w w4:=(Keep.of_below (b1.trans (hS.mono z1))).mono (fun b hb => hb.1) |>.trans (k4.mono fun b hb => ⟨by omega,fun hh => hb.2 (h.moc b hh)⟩);have no4 : ∀ g,w.heap.size ≤ g → g < w3.heap.size → g < wa0.heap.size ∧ ¬ Oc g:=fun g h1 h2 => ⟨by omega,fun hh => by have:=hlt g (.inl (h.moc g hh));omega⟩;have E4 : EnAt enT g7 w4 e dc:=(E3.below hS).keep k4 (no4 g7 (by omega) lg7);have B4 : BkAt bkT g4 w4 b (.slice (some ⟨bb,bo,none⟩) b.ents.length cap):=⟨(VBlk.below B3.blk hS (by omega)).keep k4 (no4 g4 (by omega) (by omega)),hpl⟩;have hM4 : ∀ x,(M x ∨ (wa0.heap.size ≤ x ∧ x < w4.heap.size)) → M x ∨ w.heap.size ≤ x:=fun x hx => hx.elim .inl fun hh => .inr (by omega);have hdv4 : IsVo E f w4 e.data dc:=hdv.keep K4 (fun x hx h => ⟨h,hE' x hx⟩) (fun _ h => h);clear o4 k4 hr4 h3a no4 E3 B3 h3 hdv3 hS
  by_cases hcd : Cat.appC s.cat e.kind e.text e.table = 0
  case neg =>
    have hR : entR s e b.index k b.time = (Cat.appC s.cat e.kind e.text e.table,s):=by unfold entR;rw [if_pos hcd]
    rw [hAc hcd] at h4;rw [hR];generalize Cat.appC s.cat e.kind e.text e.table = code at hcd ⊢;refine K.kgo ?_;exact WQ.ret1 rfl rfl (RPost.of (RVs.mono ⟨_,_,_,_,_,h4⟩ (by omega) hN) K4 hM4 rfl rfl)
  case pos =>
  have ek:=E4.kind
  by_cases h23 : e.kind = 2 ∨ e.kind = 3
  case pos =>
    obtain ⟨-,hL⟩:=app_none (L:=s.cat) (kind:=e.kind) (txt:=e.text) (tbl:=e.table) (by omega) (by omega) (by omega);rw [hL] at h4;change RV w4 rb (fun b => M b ∨ (wa0.heap.size ≤ b ∧ b < w4.heap.size)) D f s cp O4 rv mb kc N at h4;have hR : entR s e b.index k b.time = if (Cat.tabR s.cat e.table).2.2 ≠ 0 ∨ (Cat.tabR s.cat e.table).2.1.dropped = true ∨ fits s e = false then (3,s) else (0,{ s with rows:=s.rows ++ [rowOf e b.index k b.time] }):=by
      unfold entR;rw [if_neg (by simpa using hcd),if_pos h23]
    rw [hR];rw [hcd];clear hR hcd hAc hL;have cp4:=h4.vb.cell 0 (by simp);simp only [List.getD_cons_zero] at cp4;have lg4':=VBlk.lt B4.blk;have lg7':=VBlk.lt E4.blk;have lrb4:=h4.lt rb (.inl h4.mrb);have hdv4':=hdv4.isV;refine K.kgl ?_;refine WC.mid (fun _ : Unit => [(0,.pointer (some ⟨rb,0,none⟩)),(2,.int .i64 k),(4,.pointer (some ⟨g4,0,none⟩)),(7,.pointer (some ⟨g7,0,none⟩)),(30,.bool true)]) (fun _ w' => w' = w4) rfl ?_ ?_
    · rcases h23 with e2 | e3
      · refine WC.condT rfl e2 ?_
        refine K.kgo ?_;exact WQ.meet () ⟨rfl,rfl,rfl,rfl,congrArg (fun z => some (Value.bool z)) (decide_eq_true e2),trivial⟩ rfl
      · refine WC.condF rfl (by omega) ?_
        refine K.kgo ?_;exact WQ.meet () ⟨rfl,rfl,rfl,rfl,rfl,trivial⟩ rfl
    rintro ⟨⟩ w4 rfl;refine K.kgo ?_;refine WC.mid (fun g : Nat => [(0,.pointer (some ⟨rb,0,none⟩)),(2,.int .i64 k),(4,.pointer (some ⟨g4,0,none⟩)),(7,.pointer (some ⟨g7,0,none⟩)),(9,.pointer (some ⟨g,0,none⟩)),(10,.int .i64 (Cat.tabR s.cat e.table).2.2)])
      (fun g w' => Below w4.heap.size w4 w' ∧ w'.cell? ⟨g,2,none⟩ = some (.bool (Cat.tabR s.cat e.table).2.1.dropped)) rfl ?_ ?_
    · refine K.kgl ?_
      refine WC.drawn 6 (fun wx => Below w4.heap.size w4 wx) fun wa hd => ?_;have hS : Below w4.heap.size w4 wa:=hd.below _;refine K.fr [0,1,2,4] hS ?_;refine K.wl 3 [6,7,8,9,11,12] rfl rfl rfl rfl rfl rfl rfl (fun wx hx => (hx.cell (p:=⟨rb,0,none⟩) lrb4).trans cp4) hS ?_;refine K.wl 5 [6,7,8,9,11,12] rfl rfl rfl rfl rfl rfl rfl (fun wx hx => (hx.cell (p:=⟨g7,2,none⟩) lg7').trans E4.table) hS ?_;refine WD.two 6 10 (by kernel_rfl) rfl rfl ?_ ?_
      · skip
        refine WL.call rfl rfl rfl rfl rfl Tryz.func25 rfl (by kernel_rfl) (Cr.rtable_any (h4.below hS).cat e.table) ?_;rintro _ wb ⟨fv,rfl,ho,bb1⟩;refine ⟨_,rfl,?_⟩;refine K.dl ?_
        (refine K.fzl 7 rfl (q:=?_);refine K.fzl 8 rfl (q:=?_);refine K.fzl 9 rfl (q:=?_))
        refine K.wo 10 ?_;refine WL.alloc (z:=.agg Cr.zTab.toArray) rfl rfl rfl rfl Cr.zeroRT fun g9 wc f9 => ?_;refine K.dl ?_;refine K.wo 11 ?_;refine WL.storeRow rfl rfl rfl rfl rfl rfl f9.blk rfl rfl (Cr.ones4 (Cr.OwnV.one ho)) ?_;obtain ⟨vf,bf,-,-⟩:=rowed [Value.int .i64 (Cat.tabR s.cat e.table).1,.string (Cat.tabR s.cat e.table).2.1.name,.bool (Cat.tabR s.cat e.table).2.1.dropped,fv] bb1 f9;replace bf:=hS.trans (bf.mono hS.size);refine K.dl ?_
        (refine K.fzl 12 rfl (q:=?_))
        refine WD.done (by kernel_rfl) ?_;refine K.kgo ?_;exact WQ.meet g9 ⟨rfl,rfl,rfl,rfl,rfl,rfl,trivial⟩ ⟨bf,vf.cell 2 (by simp)⟩
      · skip
        refine WL.alloc (z:=.agg Cr.zTab.toArray) rfl rfl rfl rfl Cr.zeroRT fun g9 wc f9 => ?_;have hSc:=hS.trans (f9.below.mono hS.size);refine K.di hSc ?_;refine K.wo 6 ?_;refine WL.call rfl rfl rfl rfl rfl Tryz.func25 rfl (by kernel_rfl) (Cr.rtable_any (h4.below hSc).cat e.table) ?_;rintro _ wb ⟨fv,rfl,ho,bb1⟩;refine ⟨_,rfl,?_⟩;refine K.dl ?_
        (refine K.fzl 7 rfl (q:=?_);refine K.fzl 8 rfl (q:=?_);refine K.fzl 9 rfl (q:=?_))
        refine K.wo 11 ?_;have v9:=VBlk.below f9.blk bb1 f9.blk.lt;refine WL.storeRow rfl rfl rfl rfl rfl rfl v9 rfl rfl (Cr.ones4 (Cr.OwnV.one ho)) ?_;have vf:=v9.setRow [Value.int .i64 (Cat.tabR s.cat e.table).1,.string (Cat.tabR s.cat e.table).2.1.name,.bool (Cat.tabR s.cat e.table).2.1.dropped,fv];have hge:=f9.eq;have hgz:=hS.size;have bf:=(Cr.keepRow (K:=fun x => x < w4.heap.size) (g:=g9) (Keep.of_below (hSc.trans (bb1.mono hSc.size))) (fun hh => by omega) [Value.int .i64 (Cat.tabR s.cat e.table).1,.string (Cat.tabR s.cat e.table).2.1.name,.bool (Cat.tabR s.cat e.table).2.1.dropped,fv].toArray).below;refine K.dl ?_
        (refine K.fzl 12 rfl (q:=?_))
        refine WD.done (by kernel_rfl) ?_;refine K.kgo ?_;exact WQ.meet g9 ⟨rfl,rfl,rfl,rfl,rfl,rfl,trivial⟩ ⟨bf,vf.cell 2 (by simp)⟩
    rintro g9 w5 ⟨b5,cd⟩;have h5:=h4.below b5;have E5:=E4.keep (Keep.of_below b5) lg7';have B5 : BkAt bkT g4 w5 b (.slice (some ⟨bb,bo,none⟩) b.ents.length cap):=⟨VBlk.below B4.blk b5 lg4',hpl⟩;have hdv5:=hdv4.keep (O':=E) (Keep.of_below b5) (fun b _ h => h) (fun b h => h);have z5:=b5.size;have K5:=K4.trans ((Keep.of_below b5).mono fun x (hx : x < w.heap.size ∧ ¬ M x) => (by omega : x < w4.heap.size));have lg4:=VBlk.lt B5.blk;have lg7:=VBlk.lt E5.blk;clear h4 E4 B4 hdv4 hdv4' b5 cp4 K4 ek;generalize (Cat.tabR s.cat e.table).2.2 = code;generalize (Cat.tabR s.cat e.table).2.1.dropped = dr at cd ⊢;have bad : ∀ {c9 : Prop} [Decidable c9] {s2 : Int × St} {wx : World},Below w5.heap.size w5 wx → c9 → RPost w rb M D f (if c9 then ((3 : Int),s) else s2).1 (if c9 then ((3 : Int),s) else s2).2 (N + 1) (.returned (.int .i64 3)) wx:=fun hx hc => by
      rw [if_pos hc];exact RPost.of (RVs.mono ⟨_,_,_,_,_,h5.below hx⟩ (by omega) hN) (K5.trans ((Keep.of_below hx).mono fun x (hx : x < w.heap.size ∧ ¬ M x) => (by omega : x < w5.heap.size))) hM4 rfl rfl
    by_cases c9 : code = 0
    case neg =>
      refine K.kgo ?_;exact WQ.ret1 rfl rfl (bad (Below.refl _ _) (.inl c9))
    case pos =>
    cases dr with
    | true =>
      refine K.kgl ?_;exact WQ.ret1 rfl rfl (bad (Below.refl _ _) (.inr (.inl rfl)))
    | false =>
    have ev:=E5.ver;have et:=E5.table;have ed:=E5.doc;have c1:=h5.vb.cell 1 (by simp);simp only [List.getD_cons_succ,List.getD_cons_zero] at c1;have lrb5:=h5.lt rb (.inl h5.mrb);have hel:=own_els h5.rows;obtain ⟨spr,cpr,rfl,-⟩:=id hel;have hfit : fits s e = if e.ver = 0 then decide (e.doc = next s e.table) else match (of s.rows (e.table,e.doc)).getLast? with | some r => !r.del && decide (r.ver + 1 = e.ver) | none => false:=rfl
    have lenN:=h5.ok;refine K.kgl ?_;refine WC.mid (fun _ : Unit => [(0,.pointer (some ⟨rb,0,none⟩)),(2,.int .i64 k),(4,.pointer (some ⟨g4,0,none⟩)),(7,.pointer (some ⟨g7,0,none⟩))]) (fun _ w' => Below w5.heap.size w5 w' ∧ fits s e = true) rfl ?_ ?_
    · by_cases hv0 : e.ver = 0
      case pos =>
        rw [if_pos hv0] at hfit;refine WC.condT rfl hv0 ?_;refine K.kgl ?_;refine WC.drawn 6 (fun wx => Below w5.heap.size w5 wx) fun wa hd => ?_;have hS : Below w5.heap.size w5 wa:=hd.below _;refine K.fr [0] hS ?_;refine K.wl 1 [6] rfl rfl rfl rfl rfl rfl rfl (fun wx hx => (hx.cell (p:=⟨g7,3,none⟩) lg7).trans ed) hS ?_;refine K.fr [2,3] hS ?_;refine K.wl 4 [5,6] rfl rfl rfl rfl rfl rfl rfl (fun wx hx => (hx.cell (p:=⟨g7,2,none⟩) lg7).trans et) hS ?_;refine K.wo 5 ?_;refine WL.call rfl rfl rfl rfl rfl Tryz.func39 rfl (by kernel_rfl) (next_any ⟨_,_,_,_,_,h5.below hS⟩ e.table) ?_;rintro _ wb ⟨rfl,bb1⟩;refine ⟨_,rfl,?_⟩;replace hS:=hS.trans (bb1.mono hS.size);refine K.di hS ?_;refine K.wo 6 ?_;refine WL.pure rfl rfl rfl rfl ?_;refine K.dl ?_;refine WD.done (by kernel_rfl) ?_
        by_cases hdn : e.doc = next s e.table
        · refine K.kgo ?_
          refine WC.condF rfl (fun q => q hdn) ?_;refine K.kgo ?_;exact WQ.meet () ⟨rfl,rfl,rfl,rfl,trivial⟩ ⟨hS,by rw [hfit,decide_eq_true hdn]⟩
        · refine K.kgo ?_
          refine WC.condT rfl hdn ?_;refine K.kgo ?_;exact WQ.ret1 rfl rfl (bad hS (.inr (.inr (by rw [hfit,decide_eq_false hdn]))))
      case neg =>
        rw [if_neg hv0] at hfit;refine WC.condF rfl hv0 ?_;refine K.kgl ?_;refine WL.call rfl rfl rfl rfl rfl Tryz.func65 rfl (by kernel_rfl) (last_any ⟨_,_,_,_,_,h5⟩ e.table e.doc) ?_;rintro _ w5 ⟨rfl,o,rfl,ho⟩;refine ⟨_,rfl,?_⟩;cases o with
        | none =>
          simp only at ho;rw [ho] at hfit;have z : lastZ none = -1:=rfl;rw [z];refine K.kgo ?_;refine WC.drawn 25 (fun wx => Below w5.heap.size w5 wx) fun wa hd => ?_;have hS : Below w5.heap.size w5 wa:=hd.below _;refine K.fr [0,1,2,3,4,5] hS ?_;refine K.fr [6] hS ?_;refine K.fr [7] hS ?_;refine K.fr [8] hS ?_;refine K.fr [9] hS ?_;refine K.fr [10] hS ?_;refine K.fr [11,12,13,14,15] hS ?_;refine K.fr [16] hS ?_;refine K.fr [17] hS ?_;refine K.fr [18] hS ?_;refine K.fr [19] hS ?_;refine K.fr [20] hS ?_;refine K.fr [21,22] hS ?_;refine K.fr [23] hS ?_;refine K.fr [24] hS ?_;refine K.wo 25 ?_;refine WL.pure rfl rfl rfl rfl ?_;refine K.dl ?_;refine WD.done (by kernel_rfl) ?_;refine K.kgo ?_;exact WQ.ret1 rfl rfl (bad hS (.inr (.inr hfit)))
        | some i =>
          simp only at ho;obtain ⟨hi,hla⟩:=ho;rw [hla] at hfit;simp only at hfit;have z : lastZ (some i) = (i : Int):=rfl;rw [z];obtain ⟨b9,o9,cap9,dc9,es,lb9,-,R9,-,ok9,-⟩:=els_at hel hi;obtain ⟨rfl,rfl⟩ : spr = some ⟨b9,o9,none⟩ ∧ cpr = cap9:=by simpa using es
          clear es;have hri : s.rows.getD i noR ∈ s.rows:=by rw [getD_lt hi];exact List.getElem_mem hi
          generalize s.rows.getD i noR = r at R9 hfit ok9 hri;have rver : R64 r.ver ∧ r.ver ≤ 1000000:=⟨ok9.ver,by have:=h5.vers _ hri;omega⟩;cases hrd : r.del with
          | true =>
            have R9d:=R9.del;rw [hrd] at hfit R9d;refine K.kgo ?_;refine WC.drawn 25 (fun wx => Below w5.heap.size w5 wx) fun wa hd => ?_;have hS : Below w5.heap.size w5 wa:=hd.below _;refine K.fr [0,1,2,3,4,5] hS ?_;refine K.wl 6 [8,9,10,11,12,13,14,15,16,17,18,19,20,21,22,23,24,25] rfl rfl rfl rfl rfl rfl rfl (fun wx hx => (hx.cell (p:=⟨rb,1,none⟩) lrb5).trans c1) hS ?_;refine K.fr [7] hS ?_;refine K.wi 8 i (o9 + i * 14) rfl rfl rfl rfl rfl rfl rfl rfl rfl hi rfl (.inr hS) ?_;refine K.fr [9] hS ?_;refine K.wl 10 [11,12,13,14,15,16,17,18,19,20,21,22,23,24,25] rfl rfl rfl rfl rfl rfl rfl (fun wx hx => (hx.cell (p:=⟨b9,o9 + i * 14 + 10,none⟩) lb9).trans R9d) hS ?_;refine K.fr [11,12,13,14,15] hS ?_;refine K.fr [16] hS ?_;refine K.fr [17] hS ?_;refine K.fr [18] hS ?_;refine K.fr [19] hS ?_;refine K.fr [20] hS ?_;refine K.fr [21,22] hS ?_;refine K.fr [23] hS ?_;refine K.fr [24] hS ?_;refine K.wo 25 ?_;refine WL.pure rfl rfl rfl rfl ?_;refine K.dl ?_;refine WD.done (by kernel_rfl) ?_;refine K.kgo ?_;exact WQ.ret1 rfl rfl (bad hS (.inr (.inr hfit)))
          | false =>
            have R9d:=R9.del;rw [hrd] at hfit R9d;obtain ⟨⟨rv1,-⟩,rv2⟩:=rver;have hsum : IntKind.wrap .i64 (r.ver + 1) = r.ver + 1:=IntWalk.i64_in _ (by omega);refine K.kgo ?_;refine WC.drawn 25 (fun wx => Below w5.heap.size w5 wx) fun wa hd => ?_;have hS : Below w5.heap.size w5 wa:=hd.below _;refine K.fr [0,1,2,3,4,5] hS ?_;refine K.wl 6 [8,9,10,11,12,13,14,15,16,17,18,19,20,21,22,23,24,25] rfl rfl rfl rfl rfl rfl rfl (fun wx hx => (hx.cell (p:=⟨rb,1,none⟩) lrb5).trans c1) hS ?_;refine K.fr [7] hS ?_;refine K.wi 8 i (o9 + i * 14) rfl rfl rfl rfl rfl rfl rfl rfl rfl hi rfl (.inr hS) ?_;refine K.fr [9] hS ?_;refine K.wl 10 [11,12,13,14,15,16,17,18,19,20,21,22,23,24,25] rfl rfl rfl rfl rfl rfl rfl (fun wx hx => (hx.cell (p:=⟨b9,o9 + i * 14 + 10,none⟩) lb9).trans R9d) hS ?_;refine K.fr [11,12,13,14,15] hS ?_;refine K.wl 16 [18,19,20,21,24,25] rfl rfl rfl rfl rfl rfl rfl (fun wx hx => (hx.cell (p:=⟨rb,1,none⟩) lrb5).trans c1) hS ?_;refine K.fr [17] hS ?_;refine K.wi 18 i (o9 + i * 14) rfl rfl rfl rfl rfl rfl rfl rfl rfl hi rfl (.inr hS) ?_;refine K.fr [19] hS ?_;refine K.wl 20 [21,24,25] rfl rfl rfl rfl rfl rfl rfl (fun wx hx => (hx.cell (p:=⟨b9,o9 + i * 14 + 2,none⟩) lb9).trans R9.ver) hS ?_;refine K.fr [21,22] hS ?_;refine K.wl 23 [24,25] rfl rfl rfl rfl rfl rfl rfl (fun wx hx => (hx.cell (p:=⟨g7,4,none⟩) lg7).trans ev) hS ?_;refine K.fr [24] hS ?_;refine K.wo 25 ?_;refine WL.pure rfl rfl rfl rfl ?_;refine K.dl ?_;refine WD.done (by kernel_rfl) ?_
            by_cases hvv : r.ver + 1 = e.ver
            · refine K.kgo ?_
              refine WC.condF rfl (fun q => q hvv) ?_;refine K.kgo ?_;exact WQ.meet () ⟨rfl,rfl,rfl,rfl,trivial⟩ ⟨hS,by rw [hfit,decide_eq_true hvv];rfl⟩
            · refine K.kgo ?_
              refine WC.condT rfl hvv ?_;refine K.kgo ?_;exact WQ.ret1 rfl rfl (bad hS (.inr (.inr (by rw [hfit,decide_eq_false hvv];rfl))))
    rintro ⟨⟩ w6 ⟨b6,hft⟩;rw [if_neg (by rw [hft];simp [c9])];have hvr : e.ver ≤ s.rows.length + 1:=by
      rw [hfit] at hft
      by_cases hv0 : e.ver = 0
      · omega
      · rw [if_neg hv0] at hft
        cases hla : (of s.rows (e.table,e.doc)).getLast? with
        | none => rw [hla] at hft;cases hft
        | some r =>
          rw [hla] at hft;simp only [Bool.and_eq_true,decide_eq_true_eq] at hft;have:=h5.vers r (List.mem_filter.1 (List.mem_of_getLast? hla)).1;omega
    have h6:=h5.below b6;have E6:=E5.keep (Keep.of_below b6) lg7;have B6 : BkAt bkT g4 w6 b (.slice (some ⟨bb,bo,none⟩) b.ents.length cap):=⟨VBlk.below B5.blk b6 lg4,hpl⟩;have hdv6:=hdv5.keep (O':=E) (Keep.of_below b6) (fun b _ h => h) (fun b h => h);have z6:=b6.size;have K6:=K5.trans ((Keep.of_below b6).mono fun x (hx : x < w.heap.size ∧ ¬ M x) => (by omega : x < w5.heap.size));have lg4':=VBlk.lt B6.blk;have lg7':=VBlk.lt E6.blk;have c16:=h6.vb.cell 1 (by simp);simp only [List.getD_cons_succ,List.getD_cons_zero] at c16;have lrb6:=h6.lt rb (.inl h6.mrb);clear h5 E5 B5 hdv5 K5 bad ev et ed c1 hel b6 cd lg4 lg7 lrb5;refine K.kgl ?_;refine WC.drawn 26 (fun wx => Below w6.heap.size w6 wx) fun wa hd => ?_;have hS : Below w6.heap.size w6 wa:=hd.below _;refine K.fr [0,1,2,3] hS ?_;refine K.wl 4 [26,27,28,29] rfl rfl rfl rfl rfl rfl rfl (fun wx hx => (hx.cell (p:=⟨rb,1,none⟩) lrb6).trans c16) hS ?_;refine K.fr [5] hS ?_;refine K.wl 6 [24,25,26,27,28,29] rfl rfl rfl rfl rfl rfl rfl (fun wx hx => (hx.cell (p:=⟨g7,2,none⟩) lg7').trans E6.table) hS ?_;refine K.fr [7] hS ?_;refine K.wl 8 [24,25,26,27,28,29] rfl rfl rfl rfl rfl rfl rfl (fun wx hx => (hx.cell (p:=⟨g7,3,none⟩) lg7').trans E6.doc) hS ?_;refine K.fr [9] hS ?_;refine K.wl 10 [24,25,26,27,28,29] rfl rfl rfl rfl rfl rfl rfl (fun wx hx => (hx.cell (p:=⟨g7,4,none⟩) lg7').trans E6.ver) hS ?_;refine K.fr [11] hS ?_;refine K.wm 12 [13,24,25,26,27,28,29] rfl rfl rfl rfl rfl rfl rfl (fun wx hx => (E6.keep (Keep.of_below hx) lg7').data) hdl hS ?_;refine K.fr [14] hS ?_;refine K.wl 15 [24,25,26,27,28,29] rfl rfl rfl rfl rfl rfl rfl (fun wx hx => (hx.cell (p:=⟨g7,43,none⟩) lg7').trans E6.gone) hS ?_;refine K.fr [16] hS ?_;refine K.wl 17 [18,24,25,26,27,28,29] rfl rfl rfl rfl rfl rfl rfl (fun wx hx => (hx.cell (p:=⟨g7,0,none⟩) lg7').trans E6.kind) hS ?_;refine K.fr [18,19] hS ?_;refine K.wl 20 [24,25,26,27,28,29] rfl rfl rfl rfl rfl rfl rfl (fun wx hx => (hx.cell (p:=⟨g4,0,none⟩) lg4').trans B6.index) hS ?_;refine K.fr [21,22] hS ?_;refine K.wl 23 [24,25,26,27,28,29] rfl rfl rfl rfl rfl rfl rfl (fun wx hx => (hx.cell (p:=⟨g4,1,none⟩) lg4').trans B6.time) hS ?_;refine K.wo 13 ?_;refine WL.call rfl rfl rfl rfl rfl Tryz.func46 rfl (by kernel_rfl) ((clone_any (B:=3000) (by omega) f (hdv6.keep (O':=E) (Keep.of_below hS) (fun b _ h => h) (fun b h => h)).isV hsm)) ?_;rintro _ wb ⟨bb1,cs',rfl,hvo⟩;refine ⟨_,rfl,?_⟩;obtain ⟨sp',sq',n1',n2',c1',c2',rfl⟩:=vo_six hvo;have cb:=hS.trans (bb1.mono hS.size);refine K.di cb ?_;have hS0:=hS;have hS:=cb;refine Cr.WDbuild (rwC (rowOf e b.index k b.time) [.int .i64 e.data.k,.int .i64 e.data.n,.int .i64 e.data.s,.string e.data.t,.slice sp' n1' c1',.slice sq' n2' c2']) 24 rfl (by kernel_rfl) rfl rfl (fun _ _ _ _ _ h => h) rfl rfl rfl (builtRow _ _ _ _ _ _ _ _ _ _ _ _ _ _ _ _ _ _) (.inr hS) ?_;refine K.wo 25 ?_;refine WL.lit1 rfl rfl rfl rfl rfl rfl (cs:=(rwC (rowOf e b.index k b.time) [.int .i64 e.data.k,.int .i64 e.data.n,.int .i64 e.data.s,.string e.data.t,.slice sp' n1' c1',.slice sq' n2' c2'])) rfl rfl (by omega) (by kernel_rfl) fun gl w8 f8 => ?_;have c8 : Below w6.heap.size w6 w8:=cb.trans (f8.below.mono cb.size);refine K.di c8 ?_;refine K.wo 26 ?_;have hvo8:=hvo.there.keep (O':=fun b => D b ∨ (wa.heap.size ≤ b ∧ b < wb.heap.size)) (Keep.of_below f8.below) (fun b _ h => h) (fun b h => .inr h);have ho8 : OwnE rrT 14 noR (RowP (fun b => D b ∨ (wa.heap.size ≤ b ∧ b < wb.heap.size)) f w8) (fun b => M b ∨ (wa0.heap.size ≤ b ∧ b < w4.heap.size)) w8 (.slice spr s.rows.length cpr) s.rows:=Go.Proofs.YtchgjaaadfjiiaaGreat.K.OwnE.keep h6.rows (Keep.of_below c8) (fun g hg => h6.lt g (.inl (h6.rows.own hg))) (fun _ h => h) fun _ _ hp => hp.keep (Keep.of_below c8) (fun x hx _ => h6.lt x (.inr hx)) (fun _ h => .inl h);have hrP : RowP (fun b => D b ∨ (wa.heap.size ≤ b ∧ b < wb.heap.size)) f w8 (rowOf e b.index k b.time) (rwC (rowOf e b.index k b.time) [.int .i64 e.data.k,.int .i64 e.data.n,.int .i64 e.data.s,.string e.data.t,.slice sp' n1' c1',.slice sq' n2' c2']):=⟨_,rfl,hvo8,⟨hr6.2.1,hr6.2.2.1,hr6.2.2.2.1,rbi,⟨by show (-9223372036854775808 : Int) ≤ k;omega,by show (k : Int) ≤ _;omega⟩,rti⟩,hsm⟩;refine WL.snoc rfl rfl rfl rfl elemRR rfl ho8 rfl f8.blk hrP.one hrP.len hrP (by omega) (by omega) fun rv9 w9 ho9 hgr => ?_;refine K.dl ?_
    (refine K.fzl 27 rfl (q:=?_);refine K.fzl 28 rfl (q:=?_))
    refine K.wo 29 ?_;have c19 : w9.cell? ⟨rb,1,none⟩ = some (.slice spr s.rows.length cpr):=(hgr.1.cell (p:=⟨rb,1,none⟩) ⟨by have:=c8.size;show rb < w8.heap.size;omega,fun q => h6.ne.1 q⟩).trans ((c8.cell (p:=⟨rb,1,none⟩) lrb6).trans c16);refine WL.store rfl rfl rfl rfl rfl (K.OwnE.one ho9) (by kernel_rfl) c19 (VBlk.free (VBlk.keep (VBlk.below h6.vb c8 lrb6) hgr.1 ⟨by have:=c8.size;omega,fun q => h6.ne.1 q⟩) 1) ?_;refine K.dl ?_;refine WD.done (by kernel_rfl) ?_;have zb:=c8.size;have z06:=hS0.size;have z0b:=bb1.size;have zb8:=f8.below.size;have z89:=hgr.1.size;have l6:=h6.lt;have hk9 : Keep (fun b => b < w6.heap.size ∧ (Value.slice spr s.rows.length cpr).ownBlock ≠ some b) w6 w9:=(Keep.of_below c8).mono (fun b hb => hb.1) |>.trans (hgr.1.mono fun b hb => ⟨by omega,hb.2⟩);have hrvM : ∀ g,(Value.slice spr s.rows.length cpr).ownBlock = some g → (M g ∨ (wa0.heap.size ≤ g ∧ g < w4.heap.size)):=fun g hg => h6.rows.own hg;have hfin:=h6.push (M':=fun b => (M b ∨ (wa0.heap.size ≤ b ∧ b < w4.heap.size)) ∨ (w8.heap.size ≤ b ∧ b < w9.heap.size)) (D':=fun b => D b ∨ (wa.heap.size ≤ b ∧ b < wb.heap.size)) (r:=rowOf e b.index k b.time) hN hk9 (by
        refine Go.Proofs.YtchgjaaadfjiiaaGreat.K.OwnE.keep ho9 (K:=fun _ => True) (w':=w9) ⟨rfl,rfl,rfl,Nat.le_refl _,fun _ _ => rfl⟩ (fun _ _ => trivial) (fun _ h => h) (fun _ _ h => h) |> fun hx => ?_;obtain ⟨kcs,q1,q2,q3⟩:=hx;refine ⟨kcs,q1,fun j hj => ⟨(q2 j hj).1,(q2 j hj).2.keep hgr.1 (fun x hx _ => ⟨?_,fun hh => ?_⟩) (fun _ h => h)⟩,q3.1,q3.2.1,fun g hg => ?_⟩
        · rcases hx with hx | hx
          · have:=l6 x (.inr hx);omega
          · omega
        · have q:=hrvM x hh
          rcases hx with hx | hx
          · exact h6.sep x q hx
          · have:=l6 x (.inl q);omega
        · rcases q3.own hg with q | q
          · exact .inl q
          · exact .inr ⟨by omega,by have:=q3.lt hg;omega⟩)
      (fun b hb => .inl hb) (fun b hb => .inl hb) (fun x hx => by
        rcases hx with (hx | hx) | (hx | hx)
        · have:=l6 x (.inl hx);omega
        · exact hx.2
        · have:=l6 x (.inr hx);omega
        · omega) (fun x hx hd => by
        rcases hx with hx | hx
        · rcases hd with hd | hd
          · exact h6.sep x hx hd
          · have:=l6 x (.inl hx);omega
        · rcases hd with hd | hd
          · have:=l6 x (.inr hd);omega
          · omega) (fun g hg hh => by
        rcases hgr.2 g hg with q | q
        · exact h6.orow g q hh
        · have:=l6 g (.inl (h6.moc g hh));omega) hvr
    refine K.kgo ?_;exact WQ.ret1 rfl rfl ⟨_,_,rfl,⟨_,_,_,_,_,hfin⟩,Keep.setCell (K6.trans (hk9.mono fun x hx => ⟨by omega,fun hh => by
        rcases hrvM x hh with q | q
        · exact hx.2 q
        · omega⟩)) (fun hh => hh.2 h.mrb) _,fun x hx => hx.elim (fun q => hM4 x q) (fun q => .inr (by omega)),fun x hx => hx.elim .inl (fun q => .inr (by omega))⟩
  case neg =>
  have h5k : ∀ {kk : Int},kk = e.kind → True:=fun _ => trivial;clear h5k
  by_cases h44 : e.kind = 4
  case pos =>
    obtain ⟨-,hL⟩:=app_none (L:=s.cat) (kind:=e.kind) (txt:=e.text) (tbl:=e.table) (by omega) (by omega) (by omega);rw [hL] at h4;change RV w4 rb (fun b => M b ∨ (wa0.heap.size ≤ b ∧ b < w4.heap.size)) D f s cp O4 rv mb kc N at h4;have hR : entR s e b.index k b.time = match s.rows.findIdx? (hit s (e.ab,e.ae)) with | some i => (0,{ s with rows:=s.rows.set i (shut (s.rows.getD i noR)),red:=redP s.red (e.ab,e.ae) }) | none => (3,s):=by
      unfold entR;rw [if_neg (by simpa using hcd),if_neg h23,if_pos h44];rfl
    rw [hR,hcd];clear hR hcd hAc hL;have c1:=h4.vb.cell 1 (by simp);have c3:=h4.vb.cell 3 (by simp);simp only [List.getD_cons_succ,List.getD_cons_zero] at c1 c3;have lrb5:=h4.lt rb (.inl h4.mrb);have lg7:=VBlk.lt E4.blk;have hel:=own_els h4.rows;obtain ⟨spr,cpr,rfl,-⟩:=id hel;have eab:=E4.ab;have eae:=E4.ae;have hla : ∀ {wx : World},Below w4.heap.size w4 wx → (Instr.lookup 42 (.map (some mb)) (mk2 (e.ab,e.ae)) false).run Tryz.prog wx = .ok ((redF s.red (e.ab,e.ae)).getD (.int .i64 0)) wx:=fun hx =>
      (h4.below hx).red.look adKeyed Tryz.underlying42 (z:=.int .i64 0) (by kernel_rfl) (adKey (x:=(e.ab,e.ae)) hr6.2.2.2.2.1 hr6.2.2.2.2.2)
    have lenN:=h4.ok;refine K.kgl ?_;refine WC.loop (fun i : Nat => [(0,.pointer (some ⟨rb,0,none⟩)),(7,.pointer (some ⟨g7,0,none⟩)),(12,.int .i64 i)]) (fun i w' => i ≤ s.rows.length ∧ Below w4.heap.size w4 w' ∧ ∀ j,j < i → hit s (e.ab,e.ae) (s.rows.getD j noR) = false) (fun i => s.rows.length - i) 0 ⟨rfl,rfl,rfl,trivial⟩ ⟨Nat.zero_le _,Below.refl _ _,fun j hj => absurd hj (Nat.not_lt_zero j)⟩ ?_;rintro i wl ⟨hi,bl,hno⟩;have c1l:=(bl.cell (p:=⟨rb,1,none⟩) lrb5).trans c1
    by_cases hlt' : i < s.rows.length
    case neg =>
      obtain rfl : i = s.rows.length:=by omega
      rw [find_no hno];refine K.kgl ?_;exact WQ.ret1 rfl rfl (RPost.of (RVs.mono ⟨_,_,_,_,_,h4.below bl⟩ (by omega) hN) (K4.trans ((Keep.of_below bl).mono fun x (hx : x < w.heap.size ∧ ¬ M x) => (by omega : x < w4.heap.size))) hM4 rfl rfl)
    case pos =>
    obtain ⟨b9,o9,cap9,dc9,es,lb9,-,R9,hvo9,-⟩:=els_at hel hlt';obtain ⟨rfl,rfl⟩ : spr = some ⟨b9,o9,none⟩ ∧ cpr = cap9:=by simpa using es
    clear es;obtain ⟨r,hr⟩ : ∃ r,r = s.rows.getD i noR:=⟨_,rfl⟩;rw [← hr] at R9 hvo9;have hhit : hit s (e.ab,e.ae) r = (decide (r.blk = e.ab) && decide (r.ent = e.ae) && !r.del && !s.red (e.ab,e.ae)):=rfl;have nxt : hit s (e.ab,e.ae) r = false → ∀ j,j < i + 1 → hit s (e.ab,e.ae) (s.rows.getD j noR) = false:=fun hh j hj => by
      rcases Nat.lt_or_ge j i with h' | h'
      · exact hno j h'
      · obtain rfl : j = i:=by omega
        rw [← hr];exact hh
    refine K.kgl ?_;refine WL.idx i (o9 + i * 14) rfl rfl rfl rfl rfl rfl rfl rfl hlt' rfl ?_;refine K.kgl ?_
    by_cases q1 : r.blk = e.ab
    case neg =>
      refine WC.drawn 34 (fun wx => Below w4.heap.size w4 wx) fun wa hd => ?_;have hS : Below w4.heap.size w4 wa:=bl.trans (hd.below _);refine K.fr [0,1,2] hS ?_;refine K.wl 3 [7,8,9,10,11,12,13,14,15,16,17,18,19,20,21,22,23,24,25,26,27,28,29,30,31,32,33,34] rfl rfl rfl rfl rfl rfl rfl (fun wx hx => (hx.cell (p:=⟨b9,o9 + i * 14 + 11,none⟩) lb9).trans R9.blk) hS ?_;refine K.fr [4,5] hS ?_;refine K.wl 6 [7,8,9,10,11,12,13,14,15,16,17,18,19,20,21,22,23,24,25,26,27,28,29,30,31,32,33,34] rfl rfl rfl rfl rfl rfl rfl (fun wx hx => (hx.cell (p:=⟨g7,44,none⟩) lg7).trans eab) hS ?_;refine K.fr [7,8,9,10,11] hS ?_;refine K.fr [12] hS ?_;refine K.fr [13,14] hS ?_;refine K.fr [15] hS ?_;refine K.fr [16,17,18,19,20,21] hS ?_;refine K.fr [22] hS ?_;refine K.fr [23,24,25,26,27,28] hS ?_;refine K.fr [29] hS ?_;refine K.fr [30] hS ?_;refine K.fr [31] hS ?_;refine K.fr [32] hS ?_;refine K.fr [33] hS ?_;refine K.wo 34 ?_;refine WL.pure rfl rfl rfl rfl ?_;refine K.dl ?_;refine WD.done (by kernel_rfl) ?_;refine K.kgo ?_;exact WQ.again (i + 1) ⟨rfl,rfl,rfl,trivial⟩ ⟨hlt',hS,nxt (by rw [hhit,decide_eq_false q1];rfl)⟩ (by omega)
    case pos =>
    by_cases q2 : r.ent = e.ae
    case neg =>
      refine WC.drawn 34 (fun wx => Below w4.heap.size w4 wx) fun wa hd => ?_;have hS : Below w4.heap.size w4 wa:=bl.trans (hd.below _);refine K.fr [0,1,2] hS ?_;refine K.wl 3 [7,8,9,10,11,12,13,14,15,16,17,18,19,20,21,22,23,24,25,26,27,28,29,30,31,32,33,34] rfl rfl rfl rfl rfl rfl rfl (fun wx hx => (hx.cell (p:=⟨b9,o9 + i * 14 + 11,none⟩) lb9).trans R9.blk) hS ?_;refine K.fr [4,5] hS ?_;refine K.wl 6 [7,8,9,10,11,12,13,14,15,16,17,18,19,20,21,22,23,24,25,26,27,28,29,30,31,32,33,34] rfl rfl rfl rfl rfl rfl rfl (fun wx hx => (hx.cell (p:=⟨g7,44,none⟩) lg7).trans eab) hS ?_;refine K.fr [7,8,9,10,11] hS ?_;refine K.wl 12 [16,17,18,19,20,21,22,23,24,25,26,27,28,29,30,31,32,33,34] rfl rfl rfl rfl rfl rfl rfl (fun wx hx => (hx.cell (p:=⟨b9,o9 + i * 14 + 12,none⟩) lb9).trans R9.ent) hS ?_;refine K.fr [13,14] hS ?_;refine K.wl 15 [16,17,18,19,20,21,22,23,24,25,26,27,28,29,30,31,32,33,34] rfl rfl rfl rfl rfl rfl rfl (fun wx hx => (hx.cell (p:=⟨g7,45,none⟩) lg7).trans eae) hS ?_;refine K.fr [16,17,18,19,20,21] hS ?_;refine K.fr [22] hS ?_;refine K.fr [23,24,25,26,27,28] hS ?_;refine K.fr [29] hS ?_;refine K.fr [30] hS ?_;refine K.fr [31] hS ?_;refine K.fr [32] hS ?_;refine K.fr [33] hS ?_;refine K.wo 34 ?_;refine WL.pure rfl rfl rfl rfl ?_;refine K.dl ?_;refine WD.done (by kernel_rfl) ?_;refine K.kgo ?_;exact WQ.again (i + 1) ⟨rfl,rfl,rfl,trivial⟩ ⟨hlt',hS,nxt (by rw [hhit,decide_eq_false q2];simp)⟩ (by omega)
    case pos =>
    have R9d:=R9.del;cases hrd : r.del with
    | true =>
      rw [hrd] at R9d;refine WC.drawn 34 (fun wx => Below w4.heap.size w4 wx) fun wa hd => ?_;have hS : Below w4.heap.size w4 wa:=bl.trans (hd.below _);refine K.fr [0,1,2] hS ?_;refine K.wl 3 [7,8,9,10,11,12,13,14,15,16,17,18,19,20,21,22,23,24,25,26,27,28,29,30,31,32,33,34] rfl rfl rfl rfl rfl rfl rfl (fun wx hx => (hx.cell (p:=⟨b9,o9 + i * 14 + 11,none⟩) lb9).trans R9.blk) hS ?_;refine K.fr [4,5] hS ?_;refine K.wl 6 [7,8,9,10,11,12,13,14,15,16,17,18,19,20,21,22,23,24,25,26,27,28,29,30,31,32,33,34] rfl rfl rfl rfl rfl rfl rfl (fun wx hx => (hx.cell (p:=⟨g7,44,none⟩) lg7).trans eab) hS ?_;refine K.fr [7,8,9,10,11] hS ?_;refine K.wl 12 [16,17,18,19,20,21,22,23,24,25,26,27,28,29,30,31,32,33,34] rfl rfl rfl rfl rfl rfl rfl (fun wx hx => (hx.cell (p:=⟨b9,o9 + i * 14 + 12,none⟩) lb9).trans R9.ent) hS ?_;refine K.fr [13,14] hS ?_;refine K.wl 15 [16,17,18,19,20,21,22,23,24,25,26,27,28,29,30,31,32,33,34] rfl rfl rfl rfl rfl rfl rfl (fun wx hx => (hx.cell (p:=⟨g7,45,none⟩) lg7).trans eae) hS ?_;refine K.fr [16,17,18,19,20,21] hS ?_;refine K.wl 22 [23,24,25,26,27,28,29,30,31,32,33,34] rfl rfl rfl rfl rfl rfl rfl (fun wx hx => (hx.cell (p:=⟨b9,o9 + i * 14 + 10,none⟩) lb9).trans R9d) hS ?_;refine K.fr [23,24,25,26,27,28] hS ?_;refine K.fr [29] hS ?_;refine K.fr [30] hS ?_;refine K.fr [31] hS ?_;refine K.fr [32] hS ?_;refine K.fr [33] hS ?_;refine K.wo 34 ?_;refine WL.pure rfl rfl rfl rfl ?_;refine K.dl ?_;refine WD.done (by kernel_rfl) ?_;refine K.kgo ?_;exact WQ.again (i + 1) ⟨rfl,rfl,rfl,trivial⟩ ⟨hlt',hS,nxt (by rw [hhit,hrd];simp)⟩ (by omega)
    | false =>
    rw [hrd] at R9d;cases hrr : s.red (e.ab,e.ae) with
    | true =>
      have hla' : ∀ {wx : World},Below w4.heap.size w4 wx → (Instr.lookup 42 (.map (some mb)) (mk2 (e.ab,e.ae)) false).run Tryz.prog wx = .ok (.int .i64 1) wx:=fun hx => by rw [hla hx];unfold redF;rw [hrr];rfl
      refine WC.drawn 34 (fun wx => Below w4.heap.size w4 wx) fun wa hd => ?_;have hS : Below w4.heap.size w4 wa:=bl.trans (hd.below _);refine K.fr [0,1,2] hS ?_;refine K.wl 3 [7,8,9,10,11,12,13,14,15,16,17,18,19,20,21,22,23,24,25,26,27,28,29,30,31,32,33,34] rfl rfl rfl rfl rfl rfl rfl (fun wx hx => (hx.cell (p:=⟨b9,o9 + i * 14 + 11,none⟩) lb9).trans R9.blk) hS ?_;refine K.fr [4,5] hS ?_;refine K.wl 6 [7,8,9,10,11,12,13,14,15,16,17,18,19,20,21,22,23,24,25,26,27,28,29,30,31,32,33,34] rfl rfl rfl rfl rfl rfl rfl (fun wx hx => (hx.cell (p:=⟨g7,44,none⟩) lg7).trans eab) hS ?_;refine K.fr [7,8,9,10,11] hS ?_;refine K.wl 12 [16,17,18,19,20,21,22,23,24,25,26,27,28,29,30,31,32,33,34] rfl rfl rfl rfl rfl rfl rfl (fun wx hx => (hx.cell (p:=⟨b9,o9 + i * 14 + 12,none⟩) lb9).trans R9.ent) hS ?_;refine K.fr [13,14] hS ?_;refine K.wl 15 [16,17,18,19,20,21,22,23,24,25,26,27,28,29,30,31,32,33,34] rfl rfl rfl rfl rfl rfl rfl (fun wx hx => (hx.cell (p:=⟨g7,45,none⟩) lg7).trans eae) hS ?_;refine K.fr [16,17,18,19,20,21] hS ?_;refine K.wl 22 [23,24,25,26,27,28,29,30,31,32,33,34] rfl rfl rfl rfl rfl rfl rfl (fun wx hx => (hx.cell (p:=⟨b9,o9 + i * 14 + 10,none⟩) lb9).trans R9d) hS ?_;refine K.fr [23,24,25,26,27,28] hS ?_;refine K.wl 29 [32,33,34] rfl rfl rfl rfl rfl rfl rfl (fun wx hx => (hx.cell (p:=⟨rb,3,none⟩) lrb5).trans c3) hS ?_;refine K.fr [30] hS ?_;refine K.wm 31 [32,33,34] rfl rfl rfl rfl rfl rfl rfl (fun wx hx => (E4.keep (Keep.of_below hx) lg7).at') rfl hS ?_;refine WD.look 32 [33,34] rfl (by kernel_rfl) rfl rfl (fun _ _ _ _ _ h => h) rfl rfl rfl rfl (fun wx hx => hla' hx) hS ?_;refine K.fr [33] hS ?_;refine K.wo 34 ?_;refine WL.pure rfl rfl rfl rfl ?_;refine K.dl ?_;refine WD.done (by kernel_rfl) ?_;refine K.kgo ?_;exact WQ.again (i + 1) ⟨rfl,rfl,rfl,trivial⟩ ⟨hlt',hS,nxt (by rw [hhit,hrr];simp)⟩ (by omega)
    | false =>
    have hla' : ∀ {wx : World},Below w4.heap.size w4 wx → (Instr.lookup 42 (.map (some mb)) (mk2 (e.ab,e.ae)) false).run Tryz.prog wx = .ok (.int .i64 0) wx:=fun hx => by rw [hla hx];unfold redF;rw [hrr];rfl
    refine WC.drawn 34 (fun wx => Below w4.heap.size w4 wx) fun wa hd => ?_;have hS : Below w4.heap.size w4 wa:=bl.trans (hd.below _);refine K.fr [0,1,2] hS ?_;refine K.wl 3 [7,8,9,10,11,12,13,14,15,16,17,18,19,20,21,22,23,24,25,26,27,28,29,30,31,32,33,34] rfl rfl rfl rfl rfl rfl rfl (fun wx hx => (hx.cell (p:=⟨b9,o9 + i * 14 + 11,none⟩) lb9).trans R9.blk) hS ?_;refine K.fr [4,5] hS ?_;refine K.wl 6 [7,8,9,10,11,12,13,14,15,16,17,18,19,20,21,22,23,24,25,26,27,28,29,30,31,32,33,34] rfl rfl rfl rfl rfl rfl rfl (fun wx hx => (hx.cell (p:=⟨g7,44,none⟩) lg7).trans eab) hS ?_;refine K.fr [7,8,9,10,11] hS ?_;refine K.wl 12 [16,17,18,19,20,21,22,23,24,25,26,27,28,29,30,31,32,33,34] rfl rfl rfl rfl rfl rfl rfl (fun wx hx => (hx.cell (p:=⟨b9,o9 + i * 14 + 12,none⟩) lb9).trans R9.ent) hS ?_;refine K.fr [13,14] hS ?_;refine K.wl 15 [16,17,18,19,20,21,22,23,24,25,26,27,28,29,30,31,32,33,34] rfl rfl rfl rfl rfl rfl rfl (fun wx hx => (hx.cell (p:=⟨g7,45,none⟩) lg7).trans eae) hS ?_;refine K.fr [16,17,18,19,20,21] hS ?_;refine K.wl 22 [23,24,25,26,27,28,29,30,31,32,33,34] rfl rfl rfl rfl rfl rfl rfl (fun wx hx => (hx.cell (p:=⟨b9,o9 + i * 14 + 10,none⟩) lb9).trans R9d) hS ?_;refine K.fr [23,24,25,26,27,28] hS ?_;refine K.wl 29 [32,33,34] rfl rfl rfl rfl rfl rfl rfl (fun wx hx => (hx.cell (p:=⟨rb,3,none⟩) lrb5).trans c3) hS ?_;refine K.fr [30] hS ?_;refine K.wm 31 [32,33,34] rfl rfl rfl rfl rfl rfl rfl (fun wx hx => (E4.keep (Keep.of_below hx) lg7).at') rfl hS ?_;refine WD.look 32 [33,34] rfl (by kernel_rfl) rfl rfl (fun _ _ _ _ _ h => h) rfl rfl rfl rfl (fun wx hx => hla' hx) hS ?_;refine K.fr [33] hS ?_;refine K.wo 34 ?_;refine WL.pure rfl rfl rfl rfl ?_;refine K.dl ?_;refine WD.done (by kernel_rfl) ?_;rw [find_at hlt' hno (by rw [← hr,hhit,hrd,hrr,decide_eq_true q1,decide_eq_true q2];rfl)];have ha:=h4.below hS;obtain ⟨g,capg,es,hMg,lgg,A,B,C,hvb,hAl,hBl,hPB,hput⟩:=own_row ha.rows hlt';obtain ⟨⟨rfl,rfl⟩,rfl⟩ : (b9 = g ∧ o9 = 0) ∧ cpr = capg:=by simpa using es
    clear es;obtain ⟨dB,rfl,hvB,okB,smB⟩:=hPB;obtain ⟨sp1,sq1,n1,n2,c1',c2',rfl⟩:=vo_six hvB;rw [← hr] at hvB okB hvb hBl;have hgm : b9 ≠ mb:=fun q => ha.ne.2 (by rw [q];rfl);have lg7a : g7 < wa.heap.size:=by have:=hS.size;omega
    have E7:=E4.keep (Keep.of_below hS) lg7;have lrba:=ha.lt rb (.inl ha.mrb);have c3a:=ha.vb.cell 3 (by simp);simp only [List.getD_cons_succ,List.getD_cons_zero] at c3a;have Ka:=K4.trans ((Keep.of_below hS).mono fun x (hx : x < w.heap.size ∧ ¬ M x) => (by omega : x < w4.heap.size));refine K.kgo ?_;refine WC.drawn 6 (fun wx => Below wa.heap.size wa wx) fun wd hd2 => ?_;have hS2:=hS;replace hS : Below wa.heap.size wa wd:=hd2.below _;refine K.fr [0,1,2] hS ?_;refine K.wl 3 [6] rfl rfl rfl rfl rfl rfl rfl (fun wx hx => (hx.cell (p:=⟨rb,3,none⟩) lrba).trans c3a) hS ?_;refine K.fr [4] hS ?_;refine K.wm 5 [6] rfl rfl rfl rfl rfl rfl rfl (fun wx hx => (E7.keep (Keep.of_below hx) lg7a).at') rfl hS ?_;refine K.wo 6 ?_;obtain ⟨wc,hrun,hmf,hkm⟩:=MF.put mk2_inj (ha.below hS).red adKeyed Tryz.underlying42 (by unfold maxLen;have:=ha.ok;omega) (key:=(e.ab,e.ae)) (.int .i64 1) (adKey (x:=(e.ab,e.ae)) hr6.2.2.2.2.1 hr6.2.2.2.2.2);rw [red_put] at hmf;refine WL.upd rfl rfl rfl rfl rfl rfl hrun ?_;refine K.dl ?_;refine WD.done (by kernel_rfl) ?_;have hvc : VBlk rrT wc b9 (A ++ (rwC r [.int .i64 r.data.k,.int .i64 r.data.n,.int .i64 r.data.s,.string r.data.t,.slice sp1 n1 c1',.slice sq1 n2 c2'] ++ C)):=(VBlk.below hvb hS lgg).keep hkm hgm;refine WQ.then rfl ?_;refine WC.as 13 (.pointer (some ⟨b9,i * 14,none⟩)) rfl (by rw [Nat.zero_add]) ?_;have hdl6 : (rwC r [.int .i64 r.data.k,.int .i64 r.data.n,.int .i64 r.data.s,.string r.data.t,.slice sp1 n1 c1',.slice sq1 n2 c2']).length = 14:=rfl;have hv2:=hvc.set (i * 14 + 9) (.bool true);rw [one_put _ hAl (by rw [hdl6];omega)] at hv2;have cold : wc.cell? ⟨b9,i * 14 + 9,none⟩ = some ((A ++ (rwC r [.int .i64 r.data.k,.int .i64 r.data.n,.int .i64 r.data.s,.string r.data.t,.slice sp1 n1 c1',.slice sq1 n2 c2'] ++ C)).getD (i * 14 + 9) undef):=hvc.cell _ (by simp only [List.length_append];rw [hdl6];omega);refine K.kgo ?_;refine WL.store rfl rfl rfl rfl rfl rfl (by kernel_rfl) cold (VBlk.free hvc _) ?_;refine K.kgo ?_;refine WL.build zCells rfl rfl rfl rfl rfl (by kernel_rfl) ?_;refine K.kgo ?_;refine WL.storeMid rfl rfl rfl rfl rfl rfl hv2 rfl (by simp only [List.length_append,List.length_set];rw [hdl6];omega) (zV_is (fun _ => True) 0 wc).one ?_;have hv3:=VBlk.setRow hv2 ((A ++ ((rwC r [.int .i64 r.data.k,.int .i64 r.data.n,.int .i64 r.data.s,.string r.data.t,.slice sp1 n1 c1',.slice sq1 n2 c2']).set 9 (.bool true) ++ C)).take (i * 14 + 3) ++ zCells ++ (A ++ ((rwC r [.int .i64 r.data.k,.int .i64 r.data.n,.int .i64 r.data.s,.string r.data.t,.slice sp1 n1 c1',.slice sq1 n2 c2']).set 9 (.bool true) ++ C)).drop (i * 14 + 3 + 6));have hmid:=mid_put (A:=A) (B:=(rwC r [.int .i64 r.data.k,.int .i64 r.data.n,.int .i64 r.data.s,.string r.data.t,.slice sp1 n1 c1',.slice sq1 n2 c2']).set 9 (.bool true)) (C:=C) (m:=zCells) (x:=i * 14) (off:=3) (k:=6) hAl rfl (by rw [List.length_set,hdl6];omega);rw [shut_set] at hmid;obtain ⟨row,hrow⟩ : ∃ row,row = (A ++ ((rwC r [.int .i64 r.data.k,.int .i64 r.data.n,.int .i64 r.data.s,.string r.data.t,.slice sp1 n1 c1',.slice sq1 n2 c2']).set 9 (.bool true) ++ C)).take (i * 14 + 3) ++ zCells ++ (A ++ ((rwC r [.int .i64 r.data.k,.int .i64 r.data.n,.int .i64 r.data.s,.string r.data.t,.slice sp1 n1 c1',.slice sq1 n2 c2']).set 9 (.bool true) ++ C)).drop (i * 14 + 3 + 6):=⟨_,rfl⟩;rw [← hrow] at hv3 hmid ⊢;have k2 : Keep (fun x => x ≠ b9) wc ((wc.setCell ⟨b9,i * 14 + 9,none⟩ (.bool true)).setRow b9 row.toArray):=Cr.keepRow ((Keep.refl _ _).setCell (by simp) _) (by simp) _;generalize (wc.setCell ⟨b9,i * 14 + 9,none⟩ (.bool true)).setRow b9 row.toArray = we at hv3 k2 ⊢;rw [hmid] at hv3;have kae : Keep (fun x => x < wa.heap.size ∧ x ≠ mb ∧ x ≠ b9) wa we:=((Keep.of_below hS).mono fun x hx => hx.1).trans ((hkm.mono fun x hx => hx.2.1).trans (k2.mono fun x hx => hx.2.2));have hl:=ha.lt;have hfp : f ≠ 0:=fun q => by subst q;exact hvB.elim
    obtain ⟨f',rfl⟩ : ∃ f',f = f' + 1:=⟨f - 1,by omega⟩;have hrowsE:=hput (w':=we) (P':=RowP D (f' + 1) we) (rwC (shut r) zCells) (shut r) hv3 rfl (RowP.one (D:=D) (f:=f' + 1) (w:=we) ⟨zCells,rfl,zV_is D f' we,⟨okB.tab,okB.doc,okB.ver,okB.blk,okB.ent,okB.tim⟩,zSm f'⟩) ⟨zCells,rfl,zV_is D f' we,⟨okB.tab,okB.doc,okB.ver,okB.blk,okB.ent,okB.tim⟩,zSm f'⟩
      (fun x cs hp => hp.keep kae (fun y hy _ => ⟨hl y (.inr hy),fun q => ha.sep mb ha.mmb (q ▸ hy),fun q => ha.sep b9 hMg (q ▸ hy)⟩) (fun _ h => h))
    rw [hr] at hrowsE;have hfin:=(ha.below hS).shutR (w':=we) (i:=i) (a:=(e.ab,e.ae)) hN (k2.mono (fun x hx => fun q => hx.2 (by rw [q];rfl)) |> fun k3 => (hkm.mono fun x hx => hx.1).trans k3) (hmf.keep k2 (fun q => hgm q.symm)) hrowsE;refine K.kgo ?_;exact WQ.ret1 rfl rfl (RPost.of ⟨_,_,_,_,_,hfin⟩ (Ka.trans (kae.mono fun x hx => ⟨by have:=hS2.size;omega,fun q => hx.2 (by rcases ha.mmb with h' | h';exact q ▸ h';omega),fun q => hx.2 (by rcases hMg with h' | h';exact q ▸ h';omega)⟩)) hM4 rfl rfl)
  case neg =>
    have hR : entR s e b.index k b.time = (0,{ s with cat:=Cat.appL s.cat e.kind e.text e.table }):=by
      unfold entR;rw [if_neg (by simpa using hcd),if_neg h23,if_neg h44]
    rw [hR,hcd];refine K.kgl ?_;exact WQ.ret1 rfl rfl (RPost.of (RVs.mono ⟨_,_,_,_,_,h4⟩ (by omega) hN) K4 hM4 rfl rfl)
end Vw
namespace K
theorem rin_any (n lo hi : Int) (w : World) : Calls Tryz.prog 61 #[.int .i64 n,.int .i64 lo,.int .i64 hi] w fun e w' => e = .returned (.bool (decide (lo ≤ n ∧ n ≤ hi))) ∧ w' = w:=by
  refine enter (args:=[.int .i64 n,.int .i64 lo,.int .i64 hi]) Tryz.func61 rfl Tryz.ntmps61 rfl ?_
  by_cases h1 : lo ≤ n
  · by_cases h2 : n ≤ hi
    · refine K.kgo ?_
      exact WQ.ret1 rfl rfl ⟨by rw [decide_eq_true ⟨h1,h2⟩],rfl⟩
    · refine K.kgo ?_
      exact WQ.ret1 rfl rfl ⟨by rw [decide_eq_false fun h => h2 h.2],rfl⟩
  · refine K.kgo ?_
    exact WQ.ret1 rfl rfl ⟨by rw [decide_eq_false fun h => h1 h.1],rfl⟩
theorem zV_isV (f : Nat) (w : World) : IsV (f + 1) w zV zCells:=(zV_is (fun _ => True) f w).isV
theorem rempty_any {f : Nat} {w : World} {v : V} {cs : List Value} (h : IsV f w v cs) : Calls Tryz.prog 102 #[.agg cs.toArray] w (BoolIs (v = zV) w):=by
  have hcs:=h.len;refine enter (args:=[.agg cs.toArray]) Tryz.func102 rfl Tryz.ntmps102 rfl ?_;refine K.kgo ?_;refine WL.box rfl rfl rfl rfl rfl fun g w1 hf => ?_;have hf' : Fresh w g w1 48 cs:=hf;clear hf;refine K.kgo ?_;refine WL.loadMid rfl rfl rfl rfl rfl rfl (VBlk.rangeAt hf'.blk) hcs ?_;refine WL.build zCells rfl rfl rfl rfl rfl (by kernel_rfl) ?_;refine WL.call rfl rfl rfl rfl rfl Tryz.func49 rfl (by kernel_rfl) (equal_any f (h.below hf'.below) (zV_isV 0 w1)) ?_;rintro _ w2 ⟨⟨b,rfl,hb⟩,hk2⟩;refine ⟨_,rfl,?_⟩;refine K.kgo ?_;exact WQ.ret1 rfl rfl ⟨⟨b,rfl,hb⟩,hf'.below.trans (hk2.mono hf'.below.size)⟩
theorem rbare_any {w : World} {e : En} {dc : List Value} (hd : dc.length = 6) (hh : e.hash.length = 32) :
    Calls Tryz.prog 103 #[.agg (enC e dc).toArray] w fun r w' => r = .returned (.agg (enC { e with data:=zV } zCells).toArray) ∧ Below w.heap.size w w':=by
  refine enter (args:=[.agg (enC e dc).toArray]) Tryz.func103 rfl Tryz.ntmps103 rfl ?_;refine K.kgo ?_;refine WL.box rfl rfl rfl rfl rfl fun g w1 hf => ?_;have hf' : Fresh w g w1 52 (enC e dc):=hf;clear hf;refine WL.alloc (z:=.agg (enC noE zCells).toArray) rfl rfl rfl rfl (fun _ => by kernel_rfl) fun c w2 hf2 => ?_;have hf2' : Fresh w1 c w2 52 (enC noE zCells):=hf2;clear hf2;have he1:=hf'.eq;have he2:=hf2'.eq;have hz1:=hf'.size;have hw2 : Below w.heap.size w w2:=hf'.below.trans (hf2'.below.mono hf'.below.size);have A : EnAt 52 g w2 e dc:=⟨hf'.blk.below hf2'.below hf'.blk.lt,hd,hh⟩;have C:=hf2'.blk;clear hf' hf2';refine K.kgo ?_;refine WL.build zCells rfl rfl rfl rfl rfl (by kernel_rfl) ?_;refine K.kgo ?_;refine WL.storeMid rfl rfl rfl rfl rfl rfl A.blk rfl (by rw [A.len];omega) (zV_is (fun _ => True) 0 w2).one ?_;have A3:=A.setData (m:=zCells) (off:=0 + 5) zV rfl rfl;have hw3 : Below w.heap.size w (w2.setRow g ((enC e dc).take (0 + 5) ++ zCells ++ (enC e dc).drop (0 + 5 + 6)).toArray):=Keep.below (Keep.setRow (Keep.of_below hw2) (fun hk => by omega) _);have C3 : VBlk 52 (w2.setRow g ((enC e dc).take (0 + 5) ++ zCells ++ (enC e dc).drop (0 + 5 + 6)).toArray) c (enC noE zCells):=C.setRow_other _ (by omega);generalize w2.setRow g ((enC e dc).take (0 + 5) ++ zCells ++ (enC e dc).drop (0 + 5 + 6)).toArray = w3 at A3 hw3 C3;have h1' : Ones (enC { e with data:=zV } zCells):=by
    intro u hu;unfold enC at hu;simp only [List.mem_cons,List.mem_append,List.not_mem_nil,or_false] at hu;rcases hu with rfl | rfl | rfl | rfl | rfl | hu | hu | rfl | rfl | rfl
    all_goals first | rfl | exact (zV_is (fun _ => True) 0 w2).one u hu | exact Ones.int _ _ u hu
  refine K.kgo ?_;refine WL.loadMid rfl rfl rfl rfl rfl rfl (VBlk.rangeAt A3.blk) A3.len ?_;refine WL.storeRow rfl rfl rfl rfl rfl rfl C3 A3.len (by rfl) h1' ?_;refine K.kgo ?_;exact WQ.retC rfl rfl rfl A3.len (C3.setRow _) ⟨rfl,Keep.below (Keep.setRow (Keep.of_below hw3) (fun hk => by omega) _)⟩
def plainP (e x : En) : Prop:=e.kind = x.kind ∧ e.text = x.text ∧ e.table = x.table ∧ e.doc = x.doc ∧ e.ver = x.ver ∧ e.hash = x.hash ∧ e.gone = x.gone ∧ (e.ab = x.ab ∧ e.ae = x.ae) ∧ e.data = zV
set_option maxHeartbeats 4000000 in
theorem rplain_any {f f2 : Nat} {w : World} {e1 e2 : En} {c1 c2 : List Value} (h1 : IsE f w e1 c1) (h2 : IsE f2 w e2 c2) :
    Calls Tryz.prog 101 #[.agg c1.toArray,.agg c2.toArray] w (BoolIs (plainP e1 e2) w):=by
  obtain ⟨d1,rfl,hv1,hd1,-,hh1,-⟩:=h1;obtain ⟨d2,rfl,hv2,hd2,-,hh2,-⟩:=h2;refine enter (args:=[.agg (enC e1 d1).toArray,.agg (enC e2 d2).toArray]) Tryz.func101 rfl Tryz.ntmps101 rfl ?_;refine K.kgo ?_;refine WL.box rfl rfl rfl rfl rfl fun g1 w1 hf1 => ?_;have hf1' : Fresh w g1 w1 52 (enC e1 d1):=hf1;clear hf1;refine WL.box rfl rfl rfl rfl rfl fun g2 w2 hf2 => ?_;have hf2' : Fresh w1 g2 w2 52 (enC e2 d2):=hf2;clear hf2;have hw : Below w.heap.size w w2:=hf1'.below.trans (hf2'.below.mono hf1'.below.size);have A1 : EnAt _ g1 w2 e1 d1:=⟨hf1'.blk.below hf2'.below hf1'.blk.lt,hd1,hh1⟩;have A2 : EnAt _ g2 w2 e2 d2:=⟨hf2'.blk,hd2,hh2⟩;clear hf1' hf2';have no : ¬ plainP e1 e2 → BoolIs (plainP e1 e2) w (.returned (.bool false)) w2:=fun h => BoolIs.no h hw;refine K.kgo ?_;refine WL.load rfl rfl rfl rfl rfl rfl A1.kind ?_;refine K.kgo ?_;refine WL.load rfl rfl rfl rfl rfl rfl A2.kind ?_
  by_cases q1 : e1.kind = e2.kind
  rotate_left
  · refine K.kgo ?_
    exact WQ.ret1 rfl rfl (no fun e => q1 e.1)
  refine K.kgo ?_;refine WL.load rfl rfl rfl rfl rfl rfl A1.text ?_;refine K.kgo ?_;refine WL.load rfl rfl rfl rfl rfl rfl A2.text ?_
  by_cases q2 : e1.text = e2.text
  rotate_left
  · refine WL.on rfl rfl ?_
    refine WL.pureAs (.bool false) rfl rfl rfl rfl (by simp [bytes_ne q2]) ?_;refine K.kgo ?_;exact WQ.ret1 rfl rfl (no fun e => q2 e.2.1)
  refine WL.on rfl rfl ?_;refine WL.pureAs (.bool true) rfl rfl rfl rfl (by simp [q2]) ?_;refine K.kgo ?_;refine WL.load rfl rfl rfl rfl rfl rfl A1.table ?_;refine K.kgo ?_;refine WL.load rfl rfl rfl rfl rfl rfl A2.table ?_
  by_cases q3 : e1.table = e2.table
  rotate_left
  · refine K.kgo ?_
    exact WQ.ret1 rfl rfl (no fun e => q3 e.2.2.1)
  refine K.kgo ?_;refine WL.load rfl rfl rfl rfl rfl rfl A1.doc ?_;refine K.kgo ?_;refine WL.load rfl rfl rfl rfl rfl rfl A2.doc ?_
  by_cases q4 : e1.doc = e2.doc
  rotate_left
  · refine K.kgo ?_
    exact WQ.ret1 rfl rfl (no fun e => q4 e.2.2.2.1)
  refine K.kgo ?_;refine WL.load rfl rfl rfl rfl rfl rfl A1.ver ?_;refine K.kgo ?_;refine WL.load rfl rfl rfl rfl rfl rfl A2.ver ?_
  by_cases q5 : e1.ver = e2.ver
  rotate_left
  · refine K.kgo ?_
    exact WQ.ret1 rfl rfl (no fun e => q5 e.2.2.2.2.1)
  refine K.kgo ?_;refine WL.loadMid rfl rfl rfl rfl rfl rfl A1.hash (by simp [hh1]) ?_;refine K.kgo ?_;refine WL.loadMid rfl rfl rfl rfl rfl rfl A2.hash (by simp [hh2]) ?_;refine WL.on rfl rfl ?_;refine WL.eqlH rfl rfl rfl rfl rfl rfl hh1 hh2 ?_
  by_cases q6 : e1.hash = e2.hash
  rotate_left
  · refine WL.as 43 (.bool false) rfl (congrArg Value.bool (decide_eq_false q6)) ?_
    refine K.kgo ?_;exact WQ.ret1 rfl rfl (no fun e => q6 e.2.2.2.2.2.1)
  refine WL.as 43 (.bool true) rfl (congrArg Value.bool (decide_eq_true q6)) ?_;refine K.kgo ?_;refine WL.load rfl rfl rfl rfl rfl rfl A1.gone ?_;refine K.kgo ?_;refine WL.load rfl rfl rfl rfl rfl rfl A2.gone ?_
  by_cases q7 : e1.gone = e2.gone
  rotate_left
  · cases b1 : e1.gone <;> cases b2 : e2.gone
    · exact absurd (b1.trans b2.symm) q7
    · refine K.kgo ?_
      exact WQ.ret1 rfl rfl (no fun e => q7 e.2.2.2.2.2.2.1)
    · refine K.kgo ?_
      exact WQ.ret1 rfl rfl (no fun e => q7 e.2.2.2.2.2.2.1)
    · exact absurd (b1.trans b2.symm) q7
  refine WL.on rfl rfl ?_;refine WL.pureAs (.bool true) rfl rfl rfl rfl (by simp [q7]) ?_;refine K.kgo ?_;refine WL.loadMid rfl rfl rfl rfl rfl rfl A1.at' rfl ?_;refine K.kgo ?_;refine WL.loadMid rfl rfl rfl rfl rfl rfl A2.at' rfl ?_;refine WL.on rfl rfl ?_;refine WL.eqlA rfl rfl rfl rfl rfl rfl ?_
  by_cases q8 : e1.ab = e2.ab ∧ e1.ae = e2.ae
  rotate_left
  · refine WL.as 57 (.bool false) rfl (congrArg Value.bool (decide_eq_false q8)) ?_
    refine K.kgo ?_;exact WQ.ret1 rfl rfl (no fun e => q8 e.2.2.2.2.2.2.2.1)
  refine WL.as 57 (.bool true) rfl (congrArg Value.bool (decide_eq_true q8)) ?_;refine K.kgo ?_;refine WL.loadMid rfl rfl rfl rfl rfl rfl A1.data hd1 ?_;refine WL.on rfl rfl ?_;refine WL.call rfl rfl rfl rfl rfl Tryz.func102 rfl (by kernel_rfl) (rempty_any (hv1.below hw)) ?_;rintro _ w3 ⟨⟨b,rfl,hb⟩,hk3⟩;refine ⟨_,rfl,?_⟩;refine K.kgo ?_;exact WQ.ret1 rfl rfl (BoolIs.of (hw.trans (hk3.mono hw.size)) hb ⟨fun h => h.2.2.2.2.2.2.2.2,fun h => ⟨q1,q2,q3,q4,q5,q6,q7,q8,h⟩⟩)
end K
namespace K
theorem plain1 (e : En) : plainP e ⟨e.kind,e.text,0,0,0,zV,Dig.Z32,false,0,0⟩ ↔ nilE { e with text:=noT }:=by
  unfold plainP nilE
  constructor
  · rintro ⟨a1,a2,a3,a4,a5,a6,a7,⟨a8,a9⟩,a10⟩
    refine ⟨?_,?_,?_,?_,?_,?_,?_,?_,?_⟩ <;> first | rfl | assumption | exact (congrArg ByteArray.size a2)
  · rintro ⟨b1,b2,b3,b4,b5,b6,b7,b8,b9⟩
    refine ⟨?_,?_,?_,?_,?_,?_,?_,⟨?_,?_⟩,?_⟩ <;> first | rfl | assumption | exact noT_of b1
theorem plain2 (e : En) : plainP { e with data:=zV } ⟨e.kind,noT,e.table,e.doc,e.ver,zV,e.hash,e.gone,0,0⟩ ↔ nilE { e with data:=zV,hash:=Dig.Z32,gone:=false,table:=0,doc:=0,ver:=0 }:=by
  unfold plainP nilE
  constructor
  · rintro ⟨a1,a2,a3,a4,a5,a6,a7,⟨a8,a9⟩,a10⟩
    refine ⟨?_,?_,?_,?_,?_,?_,?_,?_,?_⟩ <;> first | rfl | assumption | exact (congrArg ByteArray.size a2)
  · rintro ⟨b1,b2,b3,b4,b5,b6,b7,b8,b9⟩
    refine ⟨?_,?_,?_,?_,?_,?_,?_,⟨?_,?_⟩,?_⟩ <;> first | rfl | assumption | exact noT_of b1
theorem plain3 (e : En) : plainP e ⟨e.kind,noT,e.table,e.doc,e.ver,zV,Dig.Z32,false,0,0⟩ ↔ nilE { e with table:=0,doc:=0,ver:=0 }:=by
  unfold plainP nilE
  constructor
  · rintro ⟨a1,a2,a3,a4,a5,a6,a7,⟨a8,a9⟩,a10⟩
    refine ⟨?_,?_,?_,?_,?_,?_,?_,?_,?_⟩ <;> first | rfl | assumption | exact (congrArg ByteArray.size a2)
  · rintro ⟨b1,b2,b3,b4,b5,b6,b7,b8,b9⟩
    refine ⟨?_,?_,?_,?_,?_,?_,?_,⟨?_,?_⟩,?_⟩ <;> first | rfl | assumption | exact noT_of b1
theorem plain4 (e : En) : plainP e ⟨e.kind,noT,0,0,0,zV,Dig.Z32,false,e.ab,e.ae⟩ ↔ nilE { e with ab:=0,ae:=0 }:=by
  unfold plainP nilE
  constructor
  · rintro ⟨a1,a2,a3,a4,a5,a6,a7,⟨a8,a9⟩,a10⟩
    refine ⟨?_,?_,?_,?_,?_,?_,?_,?_,?_⟩ <;> first | rfl | assumption | exact (congrArg ByteArray.size a2)
  · rintro ⟨b1,b2,b3,b4,b5,b6,b7,b8,b9⟩
    refine ⟨?_,?_,?_,?_,?_,?_,?_,⟨?_,?_⟩,?_⟩ <;> first | rfl | assumption | exact noT_of b1
theorem plain5 (e : En) : plainP e ⟨e.kind,e.text,e.table,0,0,zV,Dig.Z32,false,0,0⟩ ↔ nilE { e with table:=0,text:=noT }:=by
  unfold plainP nilE
  constructor
  · rintro ⟨a1,a2,a3,a4,a5,a6,a7,⟨a8,a9⟩,a10⟩
    refine ⟨?_,?_,?_,?_,?_,?_,?_,?_,?_⟩ <;> first | rfl | assumption | exact (congrArg ByteArray.size a2)
  · rintro ⟨b1,b2,b3,b4,b5,b6,b7,b8,b9⟩
    refine ⟨?_,?_,?_,?_,?_,?_,?_,⟨?_,?_⟩,?_⟩ <;> first | rfl | assumption | exact noT_of b1
theorem plain6 (e : En) : plainP e ⟨e.kind,noT,e.table,0,0,zV,Dig.Z32,false,0,0⟩ ↔ nilE { e with table:=0 }:=by
  unfold plainP nilE
  constructor
  · rintro ⟨a1,a2,a3,a4,a5,a6,a7,⟨a8,a9⟩,a10⟩
    refine ⟨?_,?_,?_,?_,?_,?_,?_,?_,?_⟩ <;> first | rfl | assumption | exact (congrArg ByteArray.size a2)
  · rintro ⟨b1,b2,b3,b4,b5,b6,b7,b8,b9⟩
    refine ⟨?_,?_,?_,?_,?_,?_,?_,⟨?_,?_⟩,?_⟩ <;> first | rfl | assumption | exact noT_of b1
theorem hash_nth {h : List Int} (hh : h.length = 32) : h = (List.range 32).map (nth h):=by
  apply List.ext_getElem (by simp [hh])
  intro i h1 h2;simp [nth,h1]
theorem built2q (k ta d v : Int) (q : Nat → Int) (g : Bool) : Tryz.prog.built 52 [(0,.int .i64 k),(2,.int .i64 ta),(3,.int .i64 d),(4,.int .i64 v),(6,.agg (hashC ((List.range 32).map q)).toArray),(7,.bool g)] = some (enC ⟨k,noT,ta,d,v,zV,(List.range 32).map q,g,0,0⟩ zCells).toArray:=by kernel_rfl
theorem built2 (k ta d v : Int) {h : List Int} (hh : h.length = 32) (g : Bool) : Tryz.prog.built 52 [(0,.int .i64 k),(2,.int .i64 ta),(3,.int .i64 d),(4,.int .i64 v),(6,.agg (hashC h).toArray),(7,.bool g)] = some (enC ⟨k,noT,ta,d,v,zV,h,g,0,0⟩ zCells).toArray:=by
  have:=built2q k ta d v (nth h) g;rw [← hash_nth hh] at this;exact this
theorem isE_z {w : World} {e : En} (h : e.data = zV) (hl : e.hash.length = 32) (hb : Byt e.hash) (ht : e.text.size ≤ 140737488355328) (r : R64 e.kind ∧ R64 e.table ∧ R64 e.doc ∧ R64 e.ver ∧ R64 e.ab ∧ R64 e.ae) : IsE 1 w e (enC e zCells) :=
  ⟨zCells,rfl,by rw [h];exact zV_isV 0 w,rfl,(zV_is (fun _ => True) 0 w).one,hl,hb,ht,r⟩
theorem r64_0 : R64 0:=by show -9223372036854775808 ≤ (0 : Int) ∧ (0 : Int) ≤ 9223372036854775807;omega
set_option maxRecDepth 100000 in
set_option maxHeartbeats 8000000 in
theorem rform_any {f : Nat} {w : World} {e : En} {cs : List Value} (h : IsE f w e cs) : Calls Tryz.prog 82 #[.agg cs.toArray] w (BoolIs (formE e) w):=by
  obtain ⟨dc,rfl,hv,hdl,hone,hh,hby,htx,hk,hta,hdo,hve,hab,hae⟩:=h;have hall : EnP (IsV f w) e (enC e dc):=⟨dc,rfl,hv,hdl,hone,hh,hby,htx,hk,hta,hdo,hve,hab,hae⟩;have hzl : Dig.Z32.length = 32:=rfl;have hzb : Byt Dig.Z32:=z32_byt;have hnt : noT.size ≤ 140737488355328:=by decide
  refine enter (args:=[.agg (enC e dc).toArray]) Tryz.func82 rfl Tryz.ntmps82 rfl ?_;refine K.kgo ?_;refine WL.box rfl rfl rfl rfl rfl fun g w1 hf => ?_;have hf' : Fresh w g w1 52 (enC e dc):=hf;clear hf;have B1 : EnAt 52 g w1 e dc:=⟨hf'.blk,hdl,hh⟩;have hw1:=hf'.below;clear hf';refine K.kgo ?_;refine WL.load rfl rfl rfl rfl rfl rfl B1.text ?_;refine K.kgo ?_;refine WL.call rfl rfl rfl rfl rfl Tryz.func61 rfl (by kernel_rfl) (rin_any _ _ _ _) ?_;rintro _ w1 ⟨rfl,rfl⟩;refine ⟨_,rfl,?_⟩;refine K.kgo ?_;refine WL.load rfl rfl rfl rfl rfl rfl B1.table ?_;refine WL.call rfl rfl rfl rfl rfl Tryz.func61 rfl (by kernel_rfl) (rin_any _ _ _ _) ?_;rintro _ w1 ⟨rfl,rfl⟩;refine ⟨_,rfl,?_⟩;refine K.kgo ?_;refine WL.load rfl rfl rfl rfl rfl rfl B1.doc ?_;refine WL.call rfl rfl rfl rfl rfl Tryz.func61 rfl (by kernel_rfl) (rin_any _ _ _ _) ?_;rintro _ w1 ⟨rfl,rfl⟩;refine ⟨_,rfl,?_⟩;refine K.kgo ?_;refine WL.load rfl rfl rfl rfl rfl rfl B1.kind ?_
  by_cases k1 : e.kind = 1
  · have hform : formE e ↔ (1 ≤ e.text.size ∧ e.text.size ≤ 4096) ∧ nilE { e with text:=noT }:=by unfold formE;rw [if_pos k1];exact ⟨fun h => ⟨⟨h.1,h.2.1⟩,h.2.2⟩,fun h => ⟨h.1.1,h.1.2,h.2⟩⟩
    refine K.kgo ?_;refine WL.load rfl rfl rfl rfl rfl rfl B1.text ?_;refine K.kgo ?_;refine WL.call rfl rfl rfl rfl rfl Tryz.func61 rfl (by kernel_rfl) (rin_any _ _ _ _) ?_;rintro _ w1 ⟨rfl,rfl⟩;refine ⟨_,rfl,?_⟩
    by_cases ht : (1 : Int) ≤ (e.text.size : Int) ∧ (e.text.size : Int) ≤ 4096
    rotate_left
    · refine K.kgo ?_
      exact WQ.ret1 rfl rfl (BoolIs.no (fun h => ht (by have:=(hform.1 h).1;omega)) hw1)
    refine K.kgo ?_;refine WL.loadMid rfl rfl rfl rfl rfl rfl (VBlk.rangeAt B1.blk) B1.len ?_;refine K.kgo ?_;refine WL.load rfl rfl rfl rfl rfl rfl B1.kind ?_;refine K.kgo ?_;refine WL.load rfl rfl rfl rfl rfl rfl B1.text ?_;refine WL.on rfl rfl ?_;refine WL.build (enC ⟨e.kind,e.text,0,0,0,zV,Dig.Z32,false,0,0⟩ zCells) rfl rfl rfl rfl rfl (by kernel_rfl) ?_;refine WL.on rfl rfl ?_;refine WL.call rfl rfl rfl rfl rfl Tryz.func101 rfl (by kernel_rfl) (rplain_any (IsE.below hw1 hall) (isE_z (e:=⟨e.kind,e.text,0,0,0,zV,Dig.Z32,false,0,0⟩) rfl hzl hzb (by first | exact htx | exact hnt) ⟨hk,by first | exact hta | exact r64_0,by first | exact hdo | exact r64_0,by first | exact hve | exact r64_0,by first | exact hab | exact r64_0,by first | exact hae | exact r64_0⟩)) ?_;rintro _ w5 ⟨⟨b,rfl,hb⟩,hk5⟩;refine ⟨_,rfl,?_⟩;refine K.kgo ?_;exact WQ.ret1 rfl rfl (BoolIs.of (hw1.trans (hk5.mono hw1.size)) (hb.trans (plain1 e)) (hform.trans ⟨fun h => h.2,fun h => ⟨by omega,h⟩⟩))
  by_cases k2 : e.kind = 2
  · have hform : formE e ↔ (1 ≤ e.table ∧ e.table ≤ 64) ∧ (1 ≤ e.doc ∧ e.doc ≤ 65536) ∧ (0 ≤ e.ver ∧ e.ver ≤ 2147483648) ∧ nilE { e with data:=zV,hash:=Dig.Z32,gone:=false,table:=0,doc:=0,ver:=0 } ∧ (e.gone = true → e.data = zV):=by unfold formE;rw [if_neg k1,if_pos k2]
    refine K.kgo ?_;refine WL.mid (fun b : Bool => [(1,.pointer (some ⟨g,0,none⟩)),(4,.bool (decide (1 ≤ e.table ∧ e.table ≤ 64))),(5,.bool (decide (1 ≤ e.doc ∧ e.doc ≤ 65536))),(42,.bool b)]) (fun b wx => (b = true ↔ e.gone = true ∧ ¬ e.data = zV) ∧ EnAt 52 g wx e dc ∧ Below w.heap.size w wx) rfl ?_ ?_
    · refine WL.load rfl rfl rfl rfl rfl rfl B1.gone ?_
      cases hgo : e.gone with
      | false =>
        refine K.kgo ?_;exact WQ.meet false ⟨rfl,rfl,rfl,rfl,trivial⟩ ⟨by simp,B1,hw1⟩
      | true =>
        refine K.kgo ?_;refine WL.loadMid rfl rfl rfl rfl rfl rfl B1.data hdl ?_;refine WL.on rfl rfl ?_;refine WL.call rfl rfl rfl rfl rfl Tryz.func102 rfl (by kernel_rfl) (rempty_any (hv.below hw1)) ?_;rintro _ w2 ⟨⟨b,rfl,hb⟩,hk2⟩;refine ⟨_,rfl,?_⟩;cases b with
        | true =>
          refine K.kgo ?_;exact WQ.meet false ⟨rfl,rfl,rfl,rfl,trivial⟩ ⟨by simp [hb.1 rfl],B1.below hk2,hw1.trans (hk2.mono hw1.size)⟩
        | false =>
          refine K.kgo ?_;exact WQ.meet true ⟨rfl,rfl,rfl,rfl,trivial⟩ ⟨by simp;exact fun h => (by have:=hb.2 h;cases this),B1.below hk2,hw1.trans (hk2.mono hw1.size)⟩
    rintro b w2 ⟨hb0,B2,hw2⟩;cases b with
    | true =>
      refine K.kgo ?_;exact WQ.ret1 rfl rfl (BoolIs.no (fun h => (hb0.1 rfl).2 ((hform.1 h).2.2.2.2 (hb0.1 rfl).1)) hw2)
    | false =>
      have hgd : e.gone = true → e.data = zV:=fun h => Classical.byContradiction fun h2 => by have:=hb0.2 ⟨h,h2⟩;cases this
      refine K.kgo ?_;refine WC.drawn 25 (fun wx => EnAt 52 g wx e dc) fun w3 hd => ?_;have hS : EnAt 52 g w3 e dc:=B2.below (hd.below _);have hw3 : Below w.heap.size w w3:=hw2.trans ((hd.below w2.heap.size).mono hw2.size)
      by_cases c1 : 1 ≤ e.table ∧ e.table ≤ 64
      rotate_left
      · refine K.fr [0,1,2,3,4,5,6,7,8,9,10,11,12,13,14,15,16,17,18,19,20,21,22,23,24] hS ?_
        refine K.wo 25 ?_;refine WL.off rfl rfl rfl ?_;refine K.dl ?_
        (refine K.fzl 26 rfl (q:=?_))
        refine K.wo 27 ?_;refine WL.pure rfl rfl rfl rfl ?_;refine K.dl ?_;refine WD.done (by kernel_rfl) ?_;refine K.kgo ?_;exact WQ.ret1 rfl rfl (BoolIs.no (fun h => c1 (hform.1 h).1) hw3)
      by_cases c2 : 1 ≤ e.doc ∧ e.doc ≤ 65536
      rotate_left
      · refine K.fr [0,1,2,3,4,5,6,7,8,9,10,11,12,13,14,15,16,17,18,19,20,21,22,23,24] hS ?_
        refine K.wo 25 ?_;refine WL.off rfl rfl rfl ?_;refine K.dl ?_
        (refine K.fzl 26 rfl (q:=?_))
        refine K.wo 27 ?_;refine WL.pure rfl rfl rfl rfl ?_;refine K.dl ?_;refine WD.done (by kernel_rfl) ?_;refine K.kgo ?_;exact WQ.ret1 rfl rfl (BoolIs.no (fun h => c2 (hform.1 h).2.1) hw3)
      refine K.fr [0,1,2,3,4,5] hS ?_;refine K.wl 6 [7,8,9,10,11,12,13,14,15,16,17,18,19,20,21,22,23,24,25,26,27] rfl rfl rfl rfl rfl rfl rfl (fun wx hx => hx.ver) hS ?_;refine K.wo 7 ?_;refine WL.on rfl rfl ?_;refine WL.call rfl rfl rfl rfl rfl Tryz.func61 rfl (by kernel_rfl) (rin_any _ _ _ _) ?_;rintro _ w3 ⟨rfl,rfl⟩;refine ⟨_,rfl,?_⟩;refine K.di hS ?_
      by_cases c3 : 0 ≤ e.ver ∧ e.ver ≤ 2147483648
      rotate_left
      · refine K.fr [8,9,10,11,12,13,14,15,16,17,18,19,20,21,22,23,24] hS ?_
        refine K.wo 25 ?_;refine WL.off rfl rfl rfl ?_;refine K.dl ?_
        (refine K.fzl 26 rfl (q:=?_))
        refine K.wo 27 ?_;refine WL.pure rfl rfl rfl rfl ?_;refine K.dl ?_;refine WD.done (by kernel_rfl) ?_;refine K.kgo ?_;exact WQ.ret1 rfl rfl (BoolIs.no (fun h => c3 (hform.1 h).2.2.1) hw3)
      refine K.fr [8,9] hS ?_;refine K.wm 10 [11,25,26,27] rfl rfl rfl rfl rfl rfl rfl (fun wx hx => VBlk.rangeAt hx.blk) B2.len hS ?_;refine K.fr [12] hS ?_;refine K.wl 13 [24,25,26,27] rfl rfl rfl rfl rfl rfl rfl (fun wx hx => hx.kind) hS ?_;refine K.fr [14] hS ?_;refine K.wl 15 [24,25,26,27] rfl rfl rfl rfl rfl rfl rfl (fun wx hx => hx.table) hS ?_;refine K.fr [16] hS ?_;refine K.wl 17 [24,25,26,27] rfl rfl rfl rfl rfl rfl rfl (fun wx hx => hx.doc) hS ?_;refine K.fr [18] hS ?_;refine K.wl 19 [24,25,26,27] rfl rfl rfl rfl rfl rfl rfl (fun wx hx => hx.ver) hS ?_;refine K.fr [20] hS ?_;refine K.wm 21 [24,25,26,27] rfl rfl rfl rfl rfl rfl rfl (fun wx hx => hx.hash) (by rw [List.length_map];exact hh) hS ?_;refine K.fr [22] hS ?_;refine K.wl 23 [24,25,26,27] rfl rfl rfl rfl rfl rfl rfl (fun wx hx => hx.gone) hS ?_;refine WD.build (enC ⟨e.kind,noT,e.table,e.doc,e.ver,zV,e.hash,e.gone,0,0⟩ zCells) 24 rfl (by kernel_rfl) rfl rfl (fun _ _ _ _ _ h => h) rfl rfl rfl (built2 _ _ _ _ hh _) (.inr hS) ?_;refine K.wo 11 ?_;refine WL.on rfl rfl ?_;refine WL.call rfl rfl rfl rfl rfl Tryz.func103 rfl (by kernel_rfl) (rbare_any hdl hh) ?_;rintro _ w4 ⟨rfl,hk4⟩;refine ⟨_,rfl,?_⟩;have hw4 : Below w.heap.size w w4:=hw3.trans (hk4.mono hw3.size);refine WL.nil (WQ.dk (.inr (hS.below hk4)) ?_);refine K.wo 25 ?_;refine WL.on rfl rfl ?_;refine WL.call rfl rfl rfl rfl rfl Tryz.func101 rfl (by kernel_rfl) (rplain_any (isE_z (e:={ e with data:=zV }) rfl hh hby htx ⟨hk,hta,hdo,hve,hab,hae⟩) (isE_z (e:=⟨e.kind,noT,e.table,e.doc,e.ver,zV,e.hash,e.gone,0,0⟩) rfl hh hby hnt ⟨hk,hta,hdo,hve,r64_0,r64_0⟩)) ?_;rintro _ w5 ⟨⟨b,rfl,hb⟩,hk5⟩;refine ⟨_,rfl,?_⟩;refine K.dl ?_
      (refine K.fzl 26 rfl (q:=?_))
      refine K.wo 27 ?_;refine WL.pure rfl rfl rfl rfl ?_;refine K.dl ?_;refine WD.done (by kernel_rfl) ?_;refine K.kgo ?_;exact WQ.ret1 rfl rfl (BoolIs.of (hw4.trans (hk5.mono hw4.size)) (hb.trans (plain2 e)) (hform.trans ⟨fun h => h.2.2.2.1,fun h => ⟨c1,c2,c3,h,hgd⟩⟩))
  by_cases k3 : e.kind = 3
  · have hform : formE e ↔ (1 ≤ e.table ∧ e.table ≤ 64) ∧ (1 ≤ e.doc ∧ e.doc ≤ 65536) ∧ (1 ≤ e.ver ∧ e.ver ≤ 2147483648) ∧ nilE { e with table:=0,doc:=0,ver:=0 }:=by unfold formE;rw [if_neg k1,if_neg k2,if_pos k3]
    by_cases c1 : 1 ≤ e.table ∧ e.table ≤ 64
    rotate_left
    · refine K.kgo ?_
      exact WQ.ret1 rfl rfl (BoolIs.no (fun h => c1 (hform.1 h).1) hw1)
    by_cases c2 : 1 ≤ e.doc ∧ e.doc ≤ 65536
    rotate_left
    · refine K.kgo ?_
      exact WQ.ret1 rfl rfl (BoolIs.no (fun h => c2 (hform.1 h).2.1) hw1)
    refine K.kgo ?_;refine WL.load rfl rfl rfl rfl rfl rfl B1.ver ?_;refine WL.on rfl rfl ?_;refine WL.call rfl rfl rfl rfl rfl Tryz.func61 rfl (by kernel_rfl) (rin_any _ _ _ _) ?_;rintro _ w1 ⟨rfl,rfl⟩;refine ⟨_,rfl,?_⟩
    by_cases c3 : 1 ≤ e.ver ∧ e.ver ≤ 2147483648
    rotate_left
    · refine K.kgo ?_
      exact WQ.ret1 rfl rfl (BoolIs.no (fun h => c3 (hform.1 h).2.2.1) hw1)
    refine K.kgo ?_;refine WL.loadMid rfl rfl rfl rfl rfl rfl (VBlk.rangeAt B1.blk) B1.len ?_;refine K.kgo ?_;refine WL.load rfl rfl rfl rfl rfl rfl B1.kind ?_;refine K.kgo ?_;refine WL.load rfl rfl rfl rfl rfl rfl B1.table ?_;refine K.kgo ?_;refine WL.load rfl rfl rfl rfl rfl rfl B1.doc ?_;refine K.kgo ?_;refine WL.load rfl rfl rfl rfl rfl rfl B1.ver ?_;refine WL.on rfl rfl ?_;refine WL.build (enC ⟨e.kind,noT,e.table,e.doc,e.ver,zV,Dig.Z32,false,0,0⟩ zCells) rfl rfl rfl rfl rfl (by kernel_rfl) ?_;refine WL.on rfl rfl ?_;refine WL.call rfl rfl rfl rfl rfl Tryz.func101 rfl (by kernel_rfl) (rplain_any (IsE.below hw1 hall) (isE_z (e:=⟨e.kind,noT,e.table,e.doc,e.ver,zV,Dig.Z32,false,0,0⟩) rfl hzl hzb (by first | exact htx | exact hnt) ⟨hk,by first | exact hta | exact r64_0,by first | exact hdo | exact r64_0,by first | exact hve | exact r64_0,by first | exact hab | exact r64_0,by first | exact hae | exact r64_0⟩)) ?_;rintro _ w5 ⟨⟨b,rfl,hb⟩,hk5⟩;refine ⟨_,rfl,?_⟩;refine K.kgo ?_;exact WQ.ret1 rfl rfl (BoolIs.of (hw1.trans (hk5.mono hw1.size)) (hb.trans (plain3 e)) (hform.trans ⟨fun h => h.2.2.2,fun h => ⟨c1,c2,c3,h⟩⟩))
  by_cases k4 : e.kind = 4
  · have hform : formE e ↔ (0 ≤ e.ab ∧ e.ab ≤ 2147483648) ∧ (0 ≤ e.ae ∧ e.ae ≤ 2147483648) ∧ nilE { e with ab:=0,ae:=0 }:=by unfold formE;rw [if_neg k1,if_neg k2,if_neg k3,if_pos k4]
    refine K.kgo ?_;refine WL.load rfl rfl rfl rfl rfl rfl B1.ab ?_;refine WL.call rfl rfl rfl rfl rfl Tryz.func61 rfl (by kernel_rfl) (rin_any _ _ _ _) ?_;rintro _ w1 ⟨rfl,rfl⟩;refine ⟨_,rfl,?_⟩
    by_cases c1 : 0 ≤ e.ab ∧ e.ab ≤ 2147483648
    rotate_left
    · refine K.kgo ?_
      exact WQ.ret1 rfl rfl (BoolIs.no (fun h => c1 (hform.1 h).1) hw1)
    refine K.kgo ?_;refine WL.load rfl rfl rfl rfl rfl rfl B1.ae ?_;refine WL.on rfl rfl ?_;refine WL.call rfl rfl rfl rfl rfl Tryz.func61 rfl (by kernel_rfl) (rin_any _ _ _ _) ?_;rintro _ w1 ⟨rfl,rfl⟩;refine ⟨_,rfl,?_⟩
    by_cases c2 : 0 ≤ e.ae ∧ e.ae ≤ 2147483648
    rotate_left
    · refine K.kgo ?_
      exact WQ.ret1 rfl rfl (BoolIs.no (fun h => c2 (hform.1 h).2.1) hw1)
    refine K.kgo ?_;refine WL.loadMid rfl rfl rfl rfl rfl rfl (VBlk.rangeAt B1.blk) B1.len ?_;refine K.kgo ?_;refine WL.load rfl rfl rfl rfl rfl rfl B1.kind ?_;refine K.kgo ?_;refine WL.loadMid rfl rfl rfl rfl rfl rfl B1.at' rfl ?_;refine WL.on rfl rfl ?_;refine WL.build (enC ⟨e.kind,noT,0,0,0,zV,Dig.Z32,false,e.ab,e.ae⟩ zCells) rfl rfl rfl rfl rfl (by kernel_rfl) ?_;refine WL.on rfl rfl ?_;refine WL.call rfl rfl rfl rfl rfl Tryz.func101 rfl (by kernel_rfl) (rplain_any (IsE.below hw1 hall) (isE_z (e:=⟨e.kind,noT,0,0,0,zV,Dig.Z32,false,e.ab,e.ae⟩) rfl hzl hzb (by first | exact htx | exact hnt) ⟨hk,by first | exact hta | exact r64_0,by first | exact hdo | exact r64_0,by first | exact hve | exact r64_0,by first | exact hab | exact r64_0,by first | exact hae | exact r64_0⟩)) ?_;rintro _ w5 ⟨⟨b,rfl,hb⟩,hk5⟩;refine ⟨_,rfl,?_⟩;refine K.kgo ?_;exact WQ.ret1 rfl rfl (BoolIs.of (hw1.trans (hk5.mono hw1.size)) (hb.trans (plain4 e)) (hform.trans ⟨fun h => h.2.2,fun h => ⟨c1,c2,h⟩⟩))
  by_cases k57 : e.kind = 5 ∨ e.kind = 7
  · have hform : formE e ↔ (1 ≤ e.table ∧ e.table ≤ 64) ∧ 1 ≤ e.text.size ∧ e.text.size ≤ 40 ∧ nilE { e with table:=0,text:=noT }:=by unfold formE;rw [if_neg k1,if_neg k2,if_neg k3,if_neg k4,if_pos k57]
    rcases k57 with k5 | k7
    all_goals
      by_cases c1 : 1 ≤ e.table ∧ e.table ≤ 64
      rotate_left
      · refine K.kgo ?_
        exact WQ.ret1 rfl rfl (BoolIs.no (fun h => c1 (hform.1 h).1) hw1)
      by_cases c2 : (1 : Int) ≤ (e.text.size : Int) ∧ (e.text.size : Int) ≤ 40
      rotate_left
      · refine K.kgo ?_
        exact WQ.ret1 rfl rfl (BoolIs.no (fun h => c2 (by have:=(hform.1 h).2;omega)) hw1)
      refine K.kgo ?_;refine WL.loadMid rfl rfl rfl rfl rfl rfl (VBlk.rangeAt B1.blk) B1.len ?_;refine K.kgo ?_;refine WL.load rfl rfl rfl rfl rfl rfl B1.kind ?_;refine K.kgo ?_;refine WL.load rfl rfl rfl rfl rfl rfl B1.table ?_;refine K.kgo ?_;refine WL.load rfl rfl rfl rfl rfl rfl B1.text ?_;refine WL.on rfl rfl ?_;refine WL.build (enC ⟨e.kind,e.text,e.table,0,0,zV,Dig.Z32,false,0,0⟩ zCells) rfl rfl rfl rfl rfl (by kernel_rfl) ?_;refine WL.on rfl rfl ?_;refine WL.call rfl rfl rfl rfl rfl Tryz.func101 rfl (by kernel_rfl) (rplain_any (IsE.below hw1 hall) (isE_z (e:=⟨e.kind,e.text,e.table,0,0,zV,Dig.Z32,false,0,0⟩) rfl hzl hzb (by first | exact htx | exact hnt) ⟨hk,by first | exact hta | exact r64_0,by first | exact hdo | exact r64_0,by first | exact hve | exact r64_0,by first | exact hab | exact r64_0,by first | exact hae | exact r64_0⟩)) ?_;rintro _ w5 ⟨⟨b,rfl,hb⟩,hk5⟩;refine ⟨_,rfl,?_⟩;refine K.kgo ?_;exact WQ.ret1 rfl rfl (BoolIs.of (hw1.trans (hk5.mono hw1.size)) (hb.trans (plain5 e)) (hform.trans ⟨fun h => h.2.2.2,fun h => ⟨c1,by omega,by omega,h⟩⟩))
  by_cases k6 : e.kind = 6
  · have hform : formE e ↔ (1 ≤ e.table ∧ e.table ≤ 64) ∧ nilE { e with table:=0 }:=by unfold formE;rw [if_neg k1,if_neg k2,if_neg k3,if_neg k4,if_neg k57,if_pos k6]
    by_cases c1 : 1 ≤ e.table ∧ e.table ≤ 64
    rotate_left
    · refine K.kgo ?_
      exact WQ.ret1 rfl rfl (BoolIs.no (fun h => c1 (hform.1 h).1) hw1)
    refine K.kgo ?_;refine WL.loadMid rfl rfl rfl rfl rfl rfl (VBlk.rangeAt B1.blk) B1.len ?_;refine K.kgo ?_;refine WL.load rfl rfl rfl rfl rfl rfl B1.kind ?_;refine K.kgo ?_;refine WL.load rfl rfl rfl rfl rfl rfl B1.table ?_;refine WL.on rfl rfl ?_;refine WL.build (enC ⟨e.kind,noT,e.table,0,0,zV,Dig.Z32,false,0,0⟩ zCells) rfl rfl rfl rfl rfl (by kernel_rfl) ?_;refine WL.on rfl rfl ?_;refine WL.call rfl rfl rfl rfl rfl Tryz.func101 rfl (by kernel_rfl) (rplain_any (IsE.below hw1 hall) (isE_z (e:=⟨e.kind,noT,e.table,0,0,zV,Dig.Z32,false,0,0⟩) rfl hzl hzb (by first | exact htx | exact hnt) ⟨hk,by first | exact hta | exact r64_0,by first | exact hdo | exact r64_0,by first | exact hve | exact r64_0,by first | exact hab | exact r64_0,by first | exact hae | exact r64_0⟩)) ?_;rintro _ w5 ⟨⟨b,rfl,hb⟩,hk5⟩;refine ⟨_,rfl,?_⟩;refine K.kgo ?_;exact WQ.ret1 rfl rfl (BoolIs.of (hw1.trans (hk5.mono hw1.size)) (hb.trans (plain6 e)) (hform.trans ⟨fun h => h.2,fun h => ⟨c1,h⟩⟩))
  have hform : ¬ formE e:=by unfold formE;rw [if_neg k1,if_neg k2,if_neg k3,if_neg k4,if_neg k57,if_neg k6];exact id
  refine K.kgo ?_;exact WQ.ret1 rfl rfl (BoolIs.no hform hw1)
end K
namespace K
theorem ruvarint_any (u : Nat) (hu : u < 18446744073709551616) (w : World) :
    Calls Tryz.prog 84 #[.int .u64 u] w fun e w' => ∃ b,e = .returned b ∧ Bu w' b (uvB u) ∧ Below w.heap.size w w' ∧ ∀ g,b.ownBlock = some g → w.heap.size ≤ g:=by
  refine enter (args:=[.int .u64 u]) Tryz.func84 rfl Tryz.ntmps84 rfl ?_;have h1 : u < 2 * 128 ^ 9:=by omega
  have h2 : uvB u = [] ++ uvF (9 + 1) u:=by rw [List.nil_append];rfl
  refine K.kgo ?_;refine WC.loop (fun i : Nat × Nat × List Int × Value => [(0,.int .u64 i.2.1),(3,i.2.2.2)])
    (fun i w' => i.2.1 < 2 * 128 ^ i.1 ∧ i.1 ≤ 9 ∧ uvB u = i.2.2.1 ++ uvF (i.1 + 1) i.2.1 ∧ i.2.2.1.length ≤ 9 ∧ Bu w' i.2.2.2 i.2.2.1 ∧ Grow w (.slice none 0 0) w' i.2.2.2) (fun i => i.1) (9,u,[],.slice none 0 0) ⟨rfl,rfl,trivial⟩ ⟨h1,Nat.le_refl 9,h2,Nat.zero_le 9,Bu.nil w,Grow.refl _ _⟩ ?_
  rintro ⟨f,c,A,v⟩ wr ⟨hc,hf,hA,hl,hb,hg⟩;simp only at hc hf hA hl hb hg ⊢;have hle : (128 : Nat) ^ f ≤ 128 ^ 9:=Nat.pow_le_pow_right (by decide) hf
  by_cases h : c < 128
  · have hw : IntKind.u8.wrap (c : Int) = (c : Int):=by rw [IntKind.wrap_u8];omega
    have hfin : uvF (f + 1) c = [(c : Int)]:=by rw [uvF,if_pos h]
    refine K.kgo ?_;refine WL.push rfl rfl rfl rfl rfl rfl rfl rfl rfl rfl rfl (fun _ => rfl) rfl hb (by simp only [List.length_cons,List.length_nil];omega) fun b2 w2 hb2 hg2 => ?_;refine K.kgo ?_;have hg3:=hg.trans hg2;refine WQ.ret1 rfl rfl ⟨b2,rfl,?_,hg3.old (Nat.le_refl _) (fun g h => by cases h),hg3.own (Nat.le_refl _) (fun g h => by cases h)⟩;rw [hw] at hb2;rw [hA,hfin];exact hb2
  · obtain ⟨f,rfl⟩ : ∃ f',f = f' + 1:=⟨f - 1,by
      cases f with
      | zero => simp at hc;omega
      | succ f => rfl⟩
    have hbig : uvF (f + 1 + 1) c = ((c % 128 + 128 : Nat) : Int) :: uvF (f + 1) (c / 128):=uvF_big (by omega);have hw : bits .or .u8 (IntKind.u8.wrap (bits .and .u64 (c : Int) 127)) 128 = ((c % 128 + 128 : Nat) : Int):=by
      have:=or128 (c % 128) (by omega);rw [and127 c (by omega),show IntKind.u8.wrap ((c % 128 : Nat) : Int) = ((c % 128 : Nat) : Int) by rw [IntKind.wrap_u8];omega,this];omega
    refine K.kgo ?_;refine WL.push rfl rfl rfl rfl rfl rfl rfl rfl rfl rfl rfl (fun _ => rfl) rfl hb (by simp only [List.length_cons,List.length_nil];omega) fun b2 w2 hb2 hg2 => ?_;rw [hw] at hb2;refine K.kgo ?_;refine WQ.again (f,c / 128,A ++ [((c % 128 + 128 : Nat) : Int)],b2) ⟨congrArg (fun z => some (Value.int .u64 z)) (shr7 c),rfl,trivial⟩
      ⟨by rw [Nat.pow_succ] at hc;show c / 128 < 2 * 128 ^ f;omega,by show f ≤ 9;omega,by show uvB u = A ++ [((c % 128 + 128 : Nat) : Int)] ++ uvF (f + 1) (c / 128);rw [hA,hbig];simp,?_,hb2,hg.trans hg2⟩ (by show f < f + 1;omega)
    show (A ++ [((c % 128 + 128 : Nat) : Int)]).length ≤ 9
    have:=congrArg List.length hA;rw [List.length_append,hbig,List.length_cons] at this;have h10 : (uvB u).length ≤ 10:=uvF_len 10 u;have h1 : 1 ≤ (uvF (f + 1) (c / 128)).length:=by unfold uvF;split <;> simp
    rw [List.length_append];simp only [List.length_cons,List.length_nil];omega
end K
namespace K
theorem rzig_any (v : Int) (h : -9223372036854775808 ≤ v ∧ v ≤ 9223372036854775807) (w : World) : Calls Tryz.prog 106 #[.int .i64 v] w fun e w' => e = .returned (.int .u64 (zig v : Nat)) ∧ w' = w:=by
  refine enter (args:=[.int .i64 v]) Tryz.func106 rfl Tryz.ntmps106 rfl ?_;refine K.kgo ?_
  by_cases hv : 0 ≤ v
  · refine WC.condT rfl hv ?_
    have e : IntKind.u64.wrap (2 * IntKind.u64.wrap v) = (zig v : Nat):=by unfold zig;rw [if_pos hv,IntKind.wrap_u64,IntKind.wrap_u64];omega
    refine K.kgo ?_;exact WQ.ret1 rfl rfl ⟨congrArg (fun z => Ending.returned (Value.int .u64 z)) e,rfl⟩
  · refine WC.condF rfl hv ?_
    have e : IntKind.u64.wrap (IntKind.u64.wrap (2 * IntKind.u64.wrap (IntKind.i64.wrap (0 - (v + 1)))) + 1) = (zig v : Nat):=by unfold zig;rw [if_neg hv];simp only [IntKind.wrap_u64,IntKind.wrap_i64];omega
    refine K.kgn ?_;refine WL.pure rfl rfl rfl rfl ?_;refine WL.pureAs (.int .i64 (v + 1)) rfl rfl rfl rfl (congrArg (Value.int .i64) (IntWalk.i64_in _ (by omega))) ?_;refine WL.pure rfl rfl rfl rfl ?_;refine WL.pure rfl rfl rfl rfl ?_;refine WL.pure rfl rfl rfl rfl ?_;refine WL.pure rfl rfl rfl rfl ?_;refine WL.pure rfl rfl rfl rfl ?_;refine K.kgn ?_;exact WQ.ret1 rfl rfl ⟨congrArg (fun z => Ending.returned (Value.int .u64 z)) e,rfl⟩
theorem rtext_any {w : World} {b : Value} {l : List Int} {s : ByteArray} (hb : Bu w b l) (hm : l.length + 10 + s.size ≤ 70368744178000) :
    Calls Tryz.prog 107 #[b,.string s] w fun e w' => ∃ b',e = .returned b' ∧ Bu w' b' (l ++ (uvB s.size ++ byI s)) ∧ Grow w b w' b':=by
  refine enter (args:=[b,.string s]) Tryz.func107 rfl Tryz.ntmps107 rfl ?_;have e8 : IntKind.u64.wrap (s.size : Int) = ((s.size : Nat) : Int):=by rw [IntKind.wrap_u64];omega
  have hul : (uvB s.size).length ≤ 10:=uvF_len 10 _;refine K.kgo ?_;refine WL.call rfl rfl rfl rfl rfl Tryz.func84 rfl (by kernel_rfl) (by rw [e8];exact ruvarint_any s.size (by omega) w) ?_;rintro _ w2 ⟨b2,rfl,hb2,hk2,-⟩;refine ⟨_,rfl,?_⟩;refine WL.app rfl rfl rfl rfl rfl (hb.below hk2) rfl hb2.sl (by omega) fun b3 w3 hb3 hg3 => ?_;refine K.kgo ?_;refine WL.appS rfl rfl rfl rfl rfl hb3 rfl (by rw [List.length_append];omega) fun b4 w4 hb4 hg4 => ?_;refine K.kgo ?_;exact WQ.ret1 rfl rfl ⟨b4,rfl,by rw [← List.append_assoc];exact hb4,(((Grow.refl w b).below hk2).trans hg3).trans hg4⟩
end K
namespace K
set_option maxHeartbeats 16000000 in
theorem rbytes_any (m : Nat) (ih : ∀ {f : Nat} {w0 w : World} {v : V} {cs : List Value} {b : Value} {l : List Int}, IsV f w0 v cs → chk m v = 0 → Bu w b l → Apart w0 w b → l.length + (encV m v).length ≤ 70368744177664 →
      Calls Tryz.prog 93 #[b, .agg cs.toArray] w fun e w' => ∃ b', e = .returned b' ∧ Bu w' b' (l ++ encV m v) ∧ Grow w b w' b') {f : Nat} {w0 w : World} {v : V} {cs : List Value} {b : Value} {l : List Int}
    (hv : IsV f w0 v cs) (hc : chk (m + 1) v = 0) (hb : Bu w b l) (ha : Apart w0 w b) (hm : l.length + (encV (m + 1) v).length ≤ 70368744177664) :
    Calls Tryz.prog 93 #[b, .agg cs.toArray] w fun e w' => ∃ b', e = .returned b' ∧ Bu w' b' (l ++ encV (m + 1) v) ∧ Grow w b w' b' := by
  obtain ⟨hk, f2, f3, f4, f5, fk, ft, f9⟩ := shp_form (chk_shp hc); cases f with
  | zero => exact hv.elim
  | succ f =>
  obtain ⟨sn, sk, rfl, wk, wn, ws, -, hnames, hkids⟩ := hv; have hkey := encV_two (m := m) (v := v); rw [hkey] at hm; have hn : -9223372036854775808 ≤ v.n ∧ v.n ≤ 9223372036854775807 := by simp [Lit.wf, IntKind.min, IntKind.max, IntKind.bits, IntKind.signed] at wn; omega
  have hzl := zig_lt hn; refine enter (args := [b, .agg (six v sn sk).toArray]) Tryz.func93 rfl Tryz.ntmps93 rfl ?_; refine K.kgo ?_; refine WL.box rfl rfl rfl rfl rfl fun g w1 hf => ?_; have hf' : Fresh w g w1 48 (six v sn sk) := hf; clear hf; have hb1 : Bu w1 b l := hb.below hf'.below; have hg1 : Grow w b w1 b := (Grow.refl w b).below hf'.below; have ha1 : Apart w0 w1 b := ha.grow hg1; have hR : ∀ {wk vk}, Grow w1 b wk vk → VBlk 48 wk g (six v sn sk) := fun h => hf'.stand hb h; have fin : ∀ {b' w' x}, Bu w' b' (l ++ v.k :: x) → Grow w1 b w' b' → (v.k :: x = encV (m + 1) v) → ∃ b'', Ending.returned b' = .returned b'' ∧ Bu w' b'' (l ++ encV (m + 1) v) ∧ Grow w b w' b'' :=
    fun {b' w' x} h1 h2 h3 => ⟨b', rfl, by rw [← h3]; exact h1, hg1.trans h2⟩
  have e8 : IntKind.u8.wrap v.k = v.k := by rw [IntKind.wrap_u8]; omega
  have hl1 : l.length + 1 ≤ 70368744177664 := by simp at hm; omega
  have g0 := Grow.refl w1 b; refine K.kgo ?_; refine WL.load rfl rfl rfl rfl rfl rfl ((hR g0).cell 0 (by simp)) ?_; refine K.kgo ?_; refine WL.push rfl rfl rfl rfl rfl rfl rfl rfl rfl rfl rfl (fun _ => rfl) rfl hb1 (by simp; omega) fun b2 w2 hb2 g2 => ?_; rw [e8] at hb2; refine K.kgo ?_; refine WL.load rfl rfl rfl rfl rfl rfl ((hR g2).cell 0 (by simp)) ?_; have hl2 : (l ++ [v.k]).length = l.length + 1 := by simp
  have hL0 : ∀ x, l ++ v.k :: x = (l ++ [v.k]) ++ x := fun x => by simp
  generalize hL : l ++ [v.k] = L at hb2 hl2 hL0; have hl3 : L.length + (encV (m + 1) v).length ≤ 70368744177664 + 1 := by rw [hkey]; simp at hm ⊢; omega
  by_cases k1 : v.k = 1
  · refine K.kgo ?_
    refine WQ.ret1 rfl rfl (fin (x := []) (by rw [hL0, List.append_nil]; exact hb2) g2 ?_); rw [hkey]; simp [k1]
  by_cases k2 : v.k = 2
  · have hx := f2 k2
    have e8 : IntKind.u8.wrap v.n = v.n := by rw [IntKind.wrap_u8]; omega
    have hkx : encV (m + 1) v = v.k :: [v.n] := by rw [hkey, if_pos k2]
    rw [hkx] at hl3; simp at hl3
    refine K.kgo ?_; refine WL.load rfl rfl rfl rfl rfl rfl ((hR g2).cell 1 (by simp)) ?_; refine K.kgo ?_; refine WL.push rfl rfl rfl rfl rfl rfl rfl rfl rfl rfl rfl (fun _ => rfl) rfl hb2 (by simp; omega) fun b3 w5 hb3 g3 => ?_; refine K.kgo ?_; refine WQ.ret1 rfl rfl (fin (x := [v.n]) ?_ (g2.trans g3) hkx.symm); rw [hL0, ← e8]; exact hb3
  by_cases k34 : v.k = 3 ∨ v.k = 4
  · have hu := uvF_len 10 (zig v.n)
    have hu : (uvB (zig v.n)).length ≤ 10 := hu; rcases k34 with k3 | k4
    · have hkx : encV (m + 1) v = v.k :: uvB (zig v.n) := by rw [hkey, if_neg k2, if_pos k3]
      rw [hkx] at hl3; simp at hl3
      refine K.kgo ?_; refine WL.load rfl rfl rfl rfl rfl rfl ((hR g2).cell 1 (by simp)) ?_; refine K.kgo ?_; refine WL.call rfl rfl rfl rfl rfl Tryz.func106 rfl (by kernel_rfl) (rzig_any v.n hn w2) ?_; rintro e w2 ⟨rfl, rfl⟩; refine ⟨_, rfl, ?_⟩; refine WL.call rfl rfl rfl rfl rfl Tryz.func84 rfl (by kernel_rfl) (ruvarint_any (zig v.n) hzl _) ?_; rintro _ w3 ⟨b3, rfl, hb3, hk3, -⟩; refine ⟨_, rfl, ?_⟩; refine WL.app rfl rfl rfl rfl rfl (hb2.below hk3) rfl hb3.sl (by omega) fun b4 w4 hb4 hg4 => ?_; refine K.kgo ?_; exact WQ.ret1 rfl rfl (fin (by rw [hL0]; exact hb4) ((g2.below hk3).trans hg4) hkx.symm)
    · have hx := f4 k4
      have e8 : IntKind.u8.wrap v.s = v.s := by rw [IntKind.wrap_u8]; omega
      have k3 : ¬ v.k = 3 := by omega
      have hkx : encV (m + 1) v = v.k :: (uvB (zig v.n) ++ [v.s]) := by rw [hkey, if_neg k2, if_neg k3, if_pos k4]
      rw [hkx] at hl3; simp at hl3
      refine K.kgo ?_; refine WL.load rfl rfl rfl rfl rfl rfl ((hR g2).cell 1 (by simp)) ?_; refine K.kgo ?_; refine WL.call rfl rfl rfl rfl rfl Tryz.func106 rfl (by kernel_rfl) (rzig_any v.n hn w2) ?_; rintro e w2 ⟨rfl, rfl⟩; refine ⟨_, rfl, ?_⟩; refine WL.call rfl rfl rfl rfl rfl Tryz.func84 rfl (by kernel_rfl) (ruvarint_any (zig v.n) hzl _) ?_; rintro _ w3 ⟨b3, rfl, hb3, hk3, -⟩; refine ⟨_, rfl, ?_⟩; refine WL.app rfl rfl rfl rfl rfl (hb2.below hk3) rfl hb3.sl (by omega) fun b4 w4 hb4 hg4 => ?_; have g4 := (g2.below hk3).trans hg4; refine K.kgo ?_; refine WL.load rfl rfl rfl rfl rfl rfl ((hR g4).cell 2 (by simp)) ?_; refine K.kgo ?_; refine WL.push rfl rfl rfl rfl rfl rfl rfl rfl rfl rfl rfl (fun _ => rfl) rfl hb4 (by simp; omega) fun b5 w7 hb5 g5 => ?_; refine K.kgo ?_; refine WQ.ret1 rfl rfl (fin (x := uvB (zig v.n) ++ [v.s]) ?_ (g4.trans g5) hkx.symm); rw [hL0, ← List.append_assoc, ← e8]; exact hb5
  have k3 : ¬ v.k = 3 := by omega
  have k4 : ¬ v.k = 4 := by omega
  by_cases k5 : v.k = 5
  · have hx := f5 k5
    have e8 : IntKind.u64.wrap v.n = (v.n.toNat : Int) := by rw [IntKind.wrap_u64]; omega
    have hkx : encV (m + 1) v = v.k :: uvB v.n.toNat := by rw [hkey, if_neg k2, if_neg k3, if_neg k4, if_pos k5]
    have hu : (uvB v.n.toNat).length ≤ 10 := uvF_len 10 _; rw [hkx] at hl3; simp at hl3
    refine K.kgo ?_; refine WL.load rfl rfl rfl rfl rfl rfl ((hR g2).cell 1 (by simp)) ?_; refine K.kgo ?_; refine WL.call rfl rfl rfl rfl rfl Tryz.func84 rfl (by kernel_rfl) (by rw [e8]; exact ruvarint_any v.n.toNat (by omega) _) ?_; rintro _ w3 ⟨b3, rfl, hb3, hk3, -⟩; refine ⟨_, rfl, ?_⟩; refine WL.app rfl rfl rfl rfl rfl (hb2.below hk3) rfl hb3.sl (by omega) fun b4 w4 hb4 hg4 => ?_; refine K.kgo ?_; exact WQ.ret1 rfl rfl (fin (by rw [hL0]; exact hb4) ((g2.below hk3).trans hg4) hkx.symm)
  by_cases k67 : v.k = 6 ∨ v.k = 7
  · have hkx : encV (m + 1) v = v.k :: (uvB v.t.size ++ byI v.t) := by rw [hkey, if_neg k2, if_neg k3, if_neg k4, if_neg k5, if_pos k67]
    have hbl := byI_len v.t; rw [hkx] at hl3; simp only [List.length_cons, List.length_append] at hl3; rcases k67 with k6 | k7
    all_goals
      refine K.kgo ?_; refine WL.load rfl rfl rfl rfl rfl rfl ((hR g2).cell 3 (by simp)) ?_; refine WL.call rfl rfl rfl rfl rfl Tryz.func107 rfl (by kernel_rfl) (rtext_any hb2 (by omega)) ?_; rintro _ w3 ⟨b3, rfl, hb3, g3⟩; refine ⟨_, rfl, ?_⟩; refine K.kgo ?_; exact WQ.ret1 rfl rfl (fin (by rw [hL0]; exact hb3) (g2.trans g3) hkx.symm)
  have k89 : v.k = 8 ∨ v.k = 9 := by omega
  obtain ⟨sp, cap, rfl, hcap1, hcap2, hrow⟩ := hkids; have hkx : encV (m + 1) v = v.k :: (uvB v.kids.length ++ (List.range v.kids.length).flatMap (pieceE (encV m) (decide (v.k = 9)) v.names v.kids)) := by rw [hkey, if_neg k2, if_neg k3, if_neg k4, if_neg k5, if_neg k67, if_pos k89]
  rw [hkx] at hl3; simp only [List.length_cons, List.length_append] at hl3; have hkid : ∀ j, j < v.kids.length → chk m (v.kids.getD j noV) = 0 := fun j hj => chk_kid hc hj; have round : ∀ i, i + 1 ≤ v.kids.length → ((List.range i).flatMap (pieceE (encV m) (decide (v.k = 9)) v.names v.kids)).length + (pieceE (encV m) (decide (v.k = 9)) v.names v.kids i).length ≤ ((List.range v.kids.length).flatMap (pieceE (encV m) (decide (v.k = 9)) v.names v.kids)).length := fun i hi => by
    have := range_len_le (pieceE (encV m) (decide (v.k = 9)) v.names v.kids) hi; rw [range_piece, List.length_append] at this; exact this
  have eK : IntKind.u64.wrap (v.kids.length : Int) = ((v.kids.length : Nat) : Int) := by rw [IntKind.wrap_u64]; omega
  have huk : (uvB v.kids.length).length ≤ 10 := uvF_len 10 _; have hL1 : ∀ x, l ++ v.k :: (uvB v.kids.length ++ x) = (L ++ uvB v.kids.length) ++ x := fun x => by rw [hL0, List.append_assoc]
  rcases k89 with k8 | k9
  · rw [show decide (v.k = 9) = false from decide_eq_false (by omega)] at hkx hl3 round
    refine K.kgo ?_; refine WL.load rfl rfl rfl rfl rfl rfl ((hR g2).cell 5 (by simp)) ?_; refine K.kgo ?_; refine WL.call rfl rfl rfl rfl rfl Tryz.func84 rfl (by kernel_rfl) (by rw [eK]; exact ruvarint_any v.kids.length (by omega) _) ?_; rintro _ w3 ⟨b3, rfl, hb3, hk3, -⟩; refine ⟨_, rfl, ?_⟩; refine WL.app rfl rfl rfl rfl rfl (hb2.below hk3) rfl hb3.sl (by omega) fun b4 w4 hb4 hg4 => ?_; have g4 := (g2.below hk3).trans hg4; have hLl : (L ++ uvB v.kids.length).length = L.length + (uvB v.kids.length).length := List.length_append; generalize L ++ uvB v.kids.length = M at hb4 hL1 hLl; refine K.kgo ?_; refine WC.loop (fun i : Nat × Value => [(0, i.2), (3, .pointer (some ⟨g, 0, none⟩)), (5, .int .i64 i.1)])
      (fun i w' => i.1 ≤ v.kids.length ∧ Bu w' i.2 (M ++ (List.range i.1).flatMap (pieceE (encV m) false v.names v.kids)) ∧ Grow w1 b w' i.2) (fun i => v.kids.length - i.1) (0, b4)
      ⟨rfl, rfl, rfl, trivial⟩ ⟨Nat.zero_le _, by simpa using hb4, g4⟩ ?_
    rintro ⟨i, br⟩ wr ⟨hi, hbr, hgr⟩; simp only at hi hbr hgr ⊢; refine K.kgo ?_; refine WL.load rfl rfl rfl rfl rfl rfl ((hR hgr).cell 5 (by simp)) ?_
    by_cases hik : i < v.kids.length
    · obtain ⟨kb, ko, rfl, hkb, hcells⟩ := hrow (by omega)
      obtain ⟨c, hc6, hci, hcr⟩ := hcells i hik; have hro := round i hik; refine K.kgo ?_; refine WL.load rfl rfl rfl rfl rfl rfl ((hR hgr).cell 0 (by simp)) ?_; have hpc : pieceE (encV m) false v.names v.kids i = encV m (v.kids.getD i noV) := rfl; rw [hpc] at hro; refine K.kgo ?_; refine WL.load rfl rfl rfl rfl rfl rfl ((hR hgr).cell 5 (by simp)) ?_; refine K.kgo ?_; refine WL.idx i (ko + i * 6) rfl rfl rfl rfl rfl rfl rfl rfl hik rfl ?_; have har2 := ha1.grow hgr; refine WL.loadMid rfl rfl rfl rfl rfl rfl (fun j u hu => (har2.below.cell (p := ⟨kb, ko + i * 6 + j, none⟩) hkb).trans (hcr j u hu)) hc6 ?_; refine WL.call rfl rfl rfl rfl rfl Tryz.func93 rfl (by kernel_rfl) (ih (w0 := w0) hci (hkid i hik) hbr har2 (by rw [List.length_append]; omega)) ?_; rintro _ w6 ⟨b6, rfl, hb6, hg6⟩; refine ⟨_, rfl, ?_⟩; refine K.kgo ?_; refine WQ.again (i + 1, b6) ⟨rfl, rfl, rfl, trivial⟩ ⟨hik, ?_, hgr.trans hg6⟩ (by show v.kids.length - (i + 1) < v.kids.length - i; omega)
      show Bu w6 b6 (M ++ (List.range (i + 1)).flatMap _)
      rw [range_piece, hpc]
      simpa [List.append_assoc] using hb6
    · obtain rfl : i = v.kids.length := by omega
      refine K.kgo ?_; exact WQ.ret1 rfl rfl (fin (by rw [hL1]; exact hbr) hgr hkx.symm)
  · rw [show decide (v.k = 9) = true from decide_eq_true k9] at hkx hl3 round
    obtain ⟨np, nc, rfl, nl, nc2, nsz, nr⟩ := hnames; have hnk := (f9 k9).1; refine K.kgo ?_; refine WL.load rfl rfl rfl rfl rfl rfl ((hR g2).cell 5 (by simp)) ?_; refine K.kgo ?_; refine WL.call rfl rfl rfl rfl rfl Tryz.func84 rfl (by kernel_rfl) (by rw [eK]; exact ruvarint_any v.kids.length (by omega) _) ?_; rintro _ w3 ⟨b3, rfl, hb3, hk3, -⟩; refine ⟨_, rfl, ?_⟩; refine WL.app rfl rfl rfl rfl rfl (hb2.below hk3) rfl hb3.sl (by omega) fun b4 w4 hb4 hg4 => ?_; have g4 := (g2.below hk3).trans hg4; have hLl : (L ++ uvB v.kids.length).length = L.length + (uvB v.kids.length).length := List.length_append; generalize L ++ uvB v.kids.length = M at hb4 hL1 hLl; refine K.kgo ?_; refine WC.loop (fun i : Nat × Value => [(0, i.2), (3, .pointer (some ⟨g, 0, none⟩)), (5, .int .i64 i.1)])
      (fun i w' => i.1 ≤ v.kids.length ∧ Bu w' i.2 (M ++ (List.range i.1).flatMap (pieceE (encV m) true v.names v.kids)) ∧ Grow w1 b w' i.2) (fun i => v.kids.length - i.1) (0, b4)
      ⟨rfl, rfl, rfl, trivial⟩ ⟨Nat.zero_le _, by simpa using hb4, g4⟩ ?_
    rintro ⟨i, br⟩ wr ⟨hi, hbr, hgr⟩; simp only at hi hbr hgr ⊢; refine K.kgo ?_; refine WL.load rfl rfl rfl rfl rfl rfl ((hR hgr).cell 5 (by simp)) ?_
    by_cases hik : i < v.kids.length
    · obtain ⟨kb, ko, rfl, hkb, hcells⟩ := hrow (by omega)
      obtain ⟨c, hc6, hci, hcr⟩ := hcells i hik; have hro := round i hik; refine K.kgo ?_; refine WL.load rfl rfl rfl rfl rfl rfl ((hR hgr).cell 0 (by simp)) ?_; obtain ⟨nb, no, rfl, hnb, hnr⟩ := nr (by omega); have hnc := hnr i (by omega); have hpc : pieceE (encV m) true v.names v.kids i = (uvB (v.names.getD i noT).size ++ byI (v.names.getD i noT)) ++ encV m (v.kids.getD i noV) := rfl; rw [hpc] at hro; have hbl := byI_len (v.names.getD i noT); have hul : (uvB (v.names.getD i noT).size).length ≤ 10 := uvF_len 10 _; have hns : (v.names.getD i noT).size ≤ 40 := (f9 k9).2 _ (by simp [show i < v.names.length by omega]); simp only [List.length_append] at hro; have har := ha1.grow hgr; refine K.kgo ?_; refine WL.load rfl rfl rfl rfl rfl rfl ((hR hgr).cell 4 (by simp)) ?_; refine K.kgo ?_; refine WL.idx i (no + i) rfl rfl rfl rfl rfl rfl rfl rfl (by omega) (by omega) ?_; refine WL.load rfl rfl rfl rfl rfl rfl ((har.below.cell (p := ⟨nb, no + i, none⟩) hnb).trans hnc) ?_; refine WL.call rfl rfl rfl rfl rfl Tryz.func107 rfl (by kernel_rfl) (rtext_any hbr (by rw [List.length_append]; omega)) ?_; rintro _ w5 ⟨b5, rfl, hb5, hg5⟩; refine ⟨_, rfl, ?_⟩; have g5 := hgr.trans hg5; refine K.kgo ?_; refine WL.load rfl rfl rfl rfl rfl rfl ((hR g5).cell 5 (by simp)) ?_; refine K.kgo ?_; refine WL.idx i (ko + i * 6) rfl rfl rfl rfl rfl rfl rfl rfl hik rfl ?_; have har2 := ha1.grow g5; refine WL.loadMid rfl rfl rfl rfl rfl rfl (fun j u hu => (har2.below.cell (p := ⟨kb, ko + i * 6 + j, none⟩) hkb).trans (hcr j u hu)) hc6 ?_; refine WL.call rfl rfl rfl rfl rfl Tryz.func93 rfl (by kernel_rfl) (ih (w0 := w0) hci (hkid i hik) hb5 har2 (by rw [List.length_append, List.length_append, List.length_append]; omega)) ?_; rintro _ w6 ⟨b6, rfl, hb6, hg6⟩; refine ⟨_, rfl, ?_⟩; refine K.kgo ?_; refine WQ.again (i + 1, b6) ⟨rfl, rfl, rfl, trivial⟩ ⟨hik, ?_, g5.trans hg6⟩ (by show v.kids.length - (i + 1) < v.kids.length - i; omega)
      show Bu w6 b6 (M ++ (List.range (i + 1)).flatMap _)
      rw [range_piece, hpc]
      simpa [List.append_assoc] using hb6
    · obtain rfl : i = v.kids.length := by omega
      refine K.kgo ?_; exact WQ.ret1 rfl rfl (fin (by rw [hL1]; exact hbr) hgr hkx.symm)
theorem rbytes_all : ∀ (m : Nat) {f : Nat} {w0 w : World} {v : V} {cs : List Value} {b : Value} {l : List Int}, IsV f w0 v cs → chk m v = 0 → Bu w b l → Apart w0 w b → l.length + (encV m v).length ≤ 70368744177664 →
      Calls Tryz.prog 93 #[b, .agg cs.toArray] w fun e w' => ∃ b', e = .returned b' ∧ Bu w' b' (l ++ encV m v) ∧ Grow w b w' b'
  | 0, _, _, _, _, _, _, _, _, h, _, _, _ => by cases h
  | m + 1, _, _, _, _, _, _, _, hv, hc, hb, ha, hm => rbytes_any m (rbytes_all m) hv hc hb ha hm
end K
end Go.Proofs.YtchgjaaadfjiiaaGreat
