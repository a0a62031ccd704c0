/- Texts for IxB, part 5 of 11. -/
import Derived.Test.YtlenklobbngopaaGreatZIxB4
set_option maxHeartbeats 64000000
set_option maxRecDepth 100000
set_option linter.all false
namespace Go.Proofs.YtlenklobbngopaaGreat
open _root_.Go.Proofs.Tryz
open Go.RowKit
variable {p:Prop}{w w' w0:World}{b:Value}{f m rb N:Nat}{cs:List Value}{l h:List Int}{α:Type}{O M D:Nat -> Prop}{txt:ByteArray}{tbl:Int}
namespace K
def jy (p:Prop) (w:World) (r:Ending) (w':World):Prop:=(∃b,r=.returned (.bool b) /\ (b=true ↔ p)) /\ iB w w'
theorem jy.no (h:¬p) (hb:iB w w'): jy p w (.returned (.bool false)) w':=⟨⟨false,rfl,by simp[h]⟩,hb⟩
theorem jy.of {q:Prop}{b:Bool}(hb:iB w w') (h1:b=true ↔ q) (h2:p ↔ q): jy p w (.returned (.bool b)) w':=⟨⟨b,rfl,h1.trans h2.symm⟩,hb⟩
theorem jy.yes (h:p) (hb:iB w w'): jy p w (.returned (.bool true)) w':=⟨⟨true,rfl,by simp[h]⟩,hb⟩
theorem Ve {e:En}(h:uE f w e cs): Calls prog 118 #[.agg cs.toArray] w (jy (jS e) w):=by
 obtain⟨dc,rfl,hv,j7,lx,hh,rp,rT,hk,wG,wE,yp,tf,EB⟩:=h;have j8:nN (kH f w) e (iU e dc):=⟨dc,rfl,hv,j7,lx,hh,rp,rT,hk,wG,wE,yp,tf,EB⟩;refine iY (args:=[.agg (iU e dc).toArray]) func118 ntmps118 ?_;refine gY ?_;refine iC fun g w1 hf=>?_;have jx:jl w g w1 76 (iU e dc):=hf;clear hf;have B1:jT _ g w1 e dc:=⟨jx.blk,j7,hh⟩;have lJ:=jx.below;have zY:=jx.size;have ZS:=jx.eq;clear jx;refine gY ?_;refine ia B1.table ?_;refine i_ fb (mu _ _ _ _) ?_;rintro w1 rfl
 refine iA ?_;refine ku ?_;refine ig (h_.rangeAt B1.blk) B1.len ?_;refine ix (z:=.agg (iU jo iy).toArray) (fun _=>by kernel_rfl) fun c w2 lI=>?_;have kM:jl w1 c w2 76 (iU jo iy):=lI;clear lI;refine ir (hm:=B1.len) (hold:=(by rfl)) kM.blk j8.one ?_;have mM:iB w1 (w2.setRow c (iU e dc).toArray):=below_setRow kM.below (by rw[kM.eq];exact af _) _;have C3:jT 76 c (w2.setRow c (iU e dc).toArray) e dc:=⟨kM.blk.setRow _,j7,hh⟩;have De:=kM.eq;clear kM;generalize w2.setRow c (iU e dc).toArray=w3 at mM C3;have B3:=B1.below mM;have mG:=lJ.trans (mM.mono gZ);have Hd:g≠c:=gZ;have hcw:w.heap.size <= c:=gZ;have su:=hv.below mG;have Is:=C3.data
 -- a store into the copy
 have Ir:∀ {wx:World}{i:Nat}(u:Value),iB w wx -> jT 76 g wx e dc -> iB w (wx.setCell ⟨c,i,none⟩ u) /\ jT 76 g (wx.setCell ⟨c,i,none⟩ u) e dc:=fun {wx i} u h1 h2=>
  ⟨ib.below ((ib.ic h1).setCell (fun hk=>by simp only at hk;omega) _),h2.ij (K:=fun b=>b≠c) ((ib.refl _ wx).setCell (fun hk=>hk rfl) _) Hd⟩
 have stR:∀ {wx:World}(u:Array Value),iB w wx -> jT 76 g wx e dc -> iB w (wx.setRow c u) /\ jT 76 g (wx.setRow c u) e dc:=fun {wx} u h1 h2=>
  ⟨ib.below (ib.setRow (ib.ic h1) (fun hk=>by omega) _),h2.ij (K:=fun b=>b≠c) (ib.setRow (ib.refl _ wx) (fun hk=>hk rfl) _) Hd⟩
 refine gY ?_;refine ia B3.kind ?_
 by_cases k1:e.kind=1
 ·have jM:jS e ↔ (1 <= e.text.size /\ e.text.size <= 4096) /\ mR { e with text:=jz }:=by unfold jS;rw[if_pos k1];constructor<;>(intro h;simp_all)
  refine gY ?_;refine iD (v:=.string jz) C3.text (C3.blk.free 1) ?_;obtain⟨nR,B4⟩:=Ir (i:=1) (.string jz) mG B3;have C4:=C3.R4 jz;generalize w3.setCell ⟨c,1,none⟩ (.string jz)=w4 at nR B4 C4;refine gY ?_;refine ia B4.text ?_;refine gY ?_;refine i_ fb (mu _ _ _ _) ?_;rintro w4 rfl
  by_cases ht:(1:Int) <= (e.text.size:Int) /\ (e.text.size:Int) <= 4096
  ·refine gY ?_
   refine ig (h_.rangeAt C4.blk) C4.len ?_;refine WL.on rfl rfl ?_;refine il func144 (qE (e:={ e with text:=jz }) (hv.below nR) hh ⟨wG,wE,yp⟩) ?_;rintro _ w5 ⟨⟨b,rfl,hb⟩,mz⟩;refine⟨_,rfl,?_⟩;refine gY ?_;exact g_ (jy.of (nR.iR mz) hb (jM.trans ⟨fun h=>h.2,fun h=>⟨gZ,h⟩⟩))
  ·refine gY ?_
   exact g_ (jy.no (fun h=>ht (by have:=(jM.1 h).1;omega)) nR)
 by_cases k23:e.kind=2 \/ e.kind=3
 ·have jM:jS e ↔ ((1 <= e.table /\ e.table <= 64) /\ (1 <= e.doc /\ e.doc <= 65536)) /\ ((if e.kind=3 then 1 else 0) <= e.iZ /\ e.iZ <= 2147483648) /\ mR (if e.kind=2 then { e with data:=zV,hash:=Dig.lB,gone:=false,table:=0,doc:=0,iZ:=0 } else { e with table:=0,doc:=0,iZ:=0 }) /\ (e.gone=true -> e.data=zV):=by
   unfold jS;rw[if_neg k1];rcases k23 with k2|k3
   ·rw[if_pos k2,if_pos k2,if_neg gZ]
    constructor
    ·rintro⟨a,b,c,d,x⟩;exact⟨⟨a,b⟩,c,d,x⟩
    ·rintro⟨⟨a,b⟩,c,d,x⟩;exact⟨a,b,c,d,x⟩
   ·rw[if_neg gZ,if_pos k3,if_pos k3,if_neg gZ]
    constructor
    ·rintro⟨a,b,c,d⟩;exact⟨⟨a,b⟩,c,d,fun h=>by have:=d.2.2.2.2.2.2.1;simp only at this;rw[this] at h;cases h⟩
    ·rintro⟨⟨a,b⟩,c,d,x⟩;exact⟨a,b,c,d⟩
  rcases k23 with k2|k3
  ·refine gY ?_
   refine ia B3.kind ?_;refine gY ?_;refine iE iy (by kernel_rfl) ?_;refine iE (jq Dig.lB) (by kernel_rfl) ?_;refine gY ?_;refine WL.tN rfl rfl rfl rfl rfl rfl C3.blk rfl (by rw[C3.len];omega) (mD (fun _=>True) 0 w3).one ?_;obtain⟨nR,B4⟩:=stR ((iU e dc).take (0+5)++iy++(iU e dc).drop (0+5+6)).toArray mG B3;have C4:=C3.Py (m:=iy) (off:=0+5) zV rfl rfl;generalize w3.setRow c ((iU e dc).take (0+5)++iy++(iU e dc).drop (0+5+6)).toArray=w4 at nR B4 C4;refine gY ?_;refine WL.tN rfl rfl rfl rfl rfl rfl C4.blk (by rfl) (by rw[C4.len];omega) (kj.int _ _) ?_;obtain⟨nY,B5⟩:=stR ((iU { e with data:=zV } iy).take (0+11)++jq Dig.lB++(iU { e with data:=zV } iy).drop (0+11+32)).toArray nR B4;have C5:=C4.aaK (off:=0+11) (hh:=Dig.lB) rfl rfl;generalize w4.setRow c ((iU { e with data:=zV } iy).take (0+11)++jq Dig.lB++(iU { e with data:=zV } iy).drop (0+11+32)).toArray=w5 at nY B5 C5;refine gY ?_;refine iD (v:=.bool false) C5.gone (C5.blk.free 43) ?_;obtain⟨vL,B6⟩:=Ir (i:=43) (.bool false) nY B5;have C6:=C5.ae0 false;generalize w5.setCell ⟨c,43,none⟩ (.bool false)=w6 at vL B6 C6;refine gY ?_;refine iD (v:=Iq 0) C6.table (C6.blk.free 2) ?_;obtain⟨Q2,Bp⟩:=Ir (i:=2) (Iq 0) vL B6;have Cp:=C6.setTable 0;generalize w6.setCell ⟨c,2,none⟩ (Iq 0)=wp at Q2 Bp Cp;refine gY ?_;refine iD (v:=Iq 0) Cp.doc (Cp.blk.free 3) ?_;obtain⟨hwq,Bq⟩:=Ir (i:=3) (Iq 0) Q2 Bp;have Cq:=Cp.We 0;generalize wp.setCell ⟨c,3,none⟩ (Iq 0)=wq at hwq Bq Cq;refine gY ?_;refine iD (v:=Iq 0) Cq.iZ (Cq.blk.free 4) ?_;obtain⟨Fk,Bx⟩:=Ir (i:=4) (Iq 0) hwq Bq;have Cx:=Cq.W9 0;generalize wq.setCell ⟨c,4,none⟩ (Iq 0)=wx at Fk Bx Cx;have qK:jS e ↔ ((1 <= e.table /\ e.table <= 64) /\ (1 <= e.doc /\ e.doc <= 65536)) /\ (0 <= e.iZ /\ e.iZ <= 2147483648) /\ mR { e with data:=zV,hash:=Dig.lB,gone:=false,table:=0,doc:=0,iZ:=0 } /\ (e.gone=true -> e.data=zV):=by
    rw[jM,if_pos k2,if_neg gZ]
   by_cases c1:1 <= e.table /\ e.table <= 64
   rotate_left
   ·refine gY ?_
    exact g_ (jy.no (fun h=>c1 (qK.1 h).1.1) Fk)
   refine gY ?_;refine ia Bx.doc ?_;refine WL.on rfl rfl ?_;refine i_ fb (mu _ _ _ _) ?_;rintro wx rfl
   by_cases c2:1 <= e.doc /\ e.doc <= 65536
   rotate_left
   ·refine gY ?_
    exact g_ (jy.no (fun h=>c2 (qK.1 h).1.2) Fk)
   refine gY ?_;refine ia Bx.iZ ?_;refine gY ?_;refine i_ fb (mu _ _ _ _) ?_;rintro wx rfl
   by_cases c3:0 <= e.iZ /\ e.iZ <= 2147483648
   rotate_left
   ·refine gY ?_
    exact g_ (jy.no (fun h=>c3 (qK.1 h).2.1) Fk)
   refine gY ?_;refine ig (h_.rangeAt Cx.blk) Cx.len ?_;refine WL.on rfl rfl ?_;refine il func144 (qE (e:={ e with data:=zV,hash:=Dig.lB,gone:=false,table:=0,doc:=0,iZ:=0 }) (mD (fun _=>True) 0 _).td Cx.hl ⟨by show jX 0;omega,by show jX 0;omega,by show jX 0;omega⟩) ?_;rintro _ wy ⟨⟨b,rfl,hb⟩,xE⟩;refine⟨_,rfl,?_⟩;have Nz:=Fk.iR xE;have By:=Bx.below xE;cases b with
   | false=>
    refine gY ?_;exact g_ (jy.no (fun h=>by have:=hb.2 (qK.1 h).2.2.1;cases this) Nz)
   | true=>
    have hN:=hb.1 rfl;refine gY ?_;refine ia By.gone ?_;cases Ny:e.gone with
    | false=>
     refine gY ?_;exact g_ (jy.yes (qK.2 ⟨⟨c1,c2⟩,c3,hN,fun h=>by rw[Ny] at h;cases h⟩) Nz)
    | true=>
     refine gY ?_;refine ig By.data j7 ?_;refine WL.on rfl rfl ?_;refine il func145 (Dy (hv.below Nz)) ?_;rintro _ wz ⟨⟨b2,rfl,jg⟩,hkz⟩;refine⟨_,rfl,?_⟩;refine gY ?_;exact g_ (jy.of (Nz.iR hkz) jg (qK.trans ⟨fun h=>h.2.2.2 Ny,fun h=>⟨⟨c1,c2⟩,c3,hN,fun _=>h⟩⟩))
  ·refine gY ?_
   refine ia B3.kind ?_;refine gY ?_;refine iD (v:=Iq 0) C3.table (C3.blk.free 2) ?_;obtain⟨Q2,Bp⟩:=Ir (i:=2) (Iq 0) mG B3;have Cp:=C3.setTable 0;generalize w3.setCell ⟨c,2,none⟩ (Iq 0)=wp at Q2 Bp Cp;refine gY ?_;refine iD (v:=Iq 0) Cp.doc (Cp.blk.free 3) ?_;obtain⟨hwq,Bq⟩:=Ir (i:=3) (Iq 0) Q2 Bp;have Cq:=Cp.We 0;generalize wp.setCell ⟨c,3,none⟩ (Iq 0)=wq at hwq Bq Cq;refine gY ?_;refine iD (v:=Iq 0) Cq.iZ (Cq.blk.free 4) ?_;obtain⟨Fk,Bx⟩:=Ir (i:=4) (Iq 0) hwq Bq;have Cx:=Cq.W9 0;generalize wq.setCell ⟨c,4,none⟩ (Iq 0)=wx at Fk Bx Cx;have qK:jS e ↔ ((1 <= e.table /\ e.table <= 64) /\ (1 <= e.doc /\ e.doc <= 65536)) /\ (1 <= e.iZ /\ e.iZ <= 2147483648) /\ mR { e with table:=0,doc:=0,iZ:=0 } /\ (e.gone=true -> e.data=zV):=by
    rw[jM,if_pos k3,if_neg gZ]
   by_cases c1:1 <= e.table /\ e.table <= 64
   rotate_left
   ·refine gY ?_
    exact g_ (jy.no (fun h=>c1 (qK.1 h).1.1) Fk)
   refine gY ?_;refine ia Bx.doc ?_;refine WL.on rfl rfl ?_;refine i_ fb (mu _ _ _ _) ?_;rintro wx rfl
   by_cases c2:1 <= e.doc /\ e.doc <= 65536
   rotate_left
   ·refine gY ?_
    exact g_ (jy.no (fun h=>c2 (qK.1 h).1.2) Fk)
   refine gY ?_;refine ia Bx.iZ ?_;refine gY ?_;refine i_ fb (mu _ _ _ _) ?_;rintro wx rfl
   by_cases c3:1 <= e.iZ /\ e.iZ <= 2147483648
   rotate_left
   ·refine gY ?_
    exact g_ (jy.no (fun h=>c3 (qK.1 h).2.1) Fk)
   refine gY ?_;refine ig (h_.rangeAt Cx.blk) Cx.len ?_;refine WL.on rfl rfl ?_;refine il func144 (qE (e:={ e with table:=0,doc:=0,iZ:=0 }) (hv.below Fk) Cx.hl ⟨by show jX 0;omega,by show jX 0;omega,by show jX 0;omega⟩) ?_;rintro _ wy ⟨⟨b,rfl,hb⟩,xE⟩;refine⟨_,rfl,?_⟩;have Nz:=Fk.iR xE;have By:=Bx.below xE;cases b with
   | false=>
    refine gY ?_;exact g_ (jy.no (fun h=>by have:=hb.2 (qK.1 h).2.2.1;cases this) Nz)
   | true=>
    have hN:=hb.1 rfl;refine gY ?_;refine ia By.gone ?_;cases Ny:e.gone with
    | false=>
     refine gY ?_;exact g_ (jy.yes (qK.2 ⟨⟨c1,c2⟩,c3,hN,fun h=>by rw[Ny] at h;cases h⟩) Nz)
    | true=>
     refine gY ?_;refine ig By.data j7 ?_;refine WL.on rfl rfl ?_;refine il func145 (Dy (hv.below Nz)) ?_;rintro _ wz ⟨⟨b2,rfl,jg⟩,hkz⟩;refine⟨_,rfl,?_⟩;refine gY ?_;exact g_ (jy.of (Nz.iR hkz) jg (qK.trans ⟨fun h=>h.2.2.2 Ny,fun h=>⟨⟨c1,c2⟩,c3,hN,fun _=>h⟩⟩))
 by_cases k4:e.kind=4
 ·have jM:jS e ↔ (0 <= e.ab /\ e.ab <= 2147483648) /\ (0 <= e.ae /\ e.ae <= 2147483648) /\ mR { e with ab:=0,ae:=0 }:=by
   unfold jS;rw[if_neg k1,if_neg gZ,if_neg gZ,if_pos k4]
  refine gY ?_;refine iE [Iq 0,Iq 0] (by kernel_rfl) ?_;refine gY ?_;refine WL.tN rfl rfl rfl rfl rfl rfl C3.blk rfl (by rw[C3.len];omega) (by intro u hu;simp at hu;rw[hu];rfl) ?_;obtain⟨nR,B4⟩:=stR ((iU e dc).take (0+44)++[Value.int .i64 0,Iq 0]++(iU e dc).drop (0+44+2)).toArray mG B3;have C4:=C3.setAt (off:=0+44) 0 0 rfl;generalize w3.setRow c ((iU e dc).take (0+44)++[Value.int .i64 0,Iq 0]++(iU e dc).drop (0+44+2)).toArray=w4 at nR B4 C4;refine gY ?_;refine ia B4.ab ?_;refine i_ fb (mu _ _ _ _) ?_;rintro w4 rfl
  by_cases c1:0 <= e.ab /\ e.ab <= 2147483648
  rotate_left
  ·refine gY ?_
   exact g_ (jy.no (fun h=>c1 (jM.1 h).1) nR)
  refine gY ?_;refine ia B4.ae ?_;refine WL.on rfl rfl ?_;refine i_ fb (mu _ _ _ _) ?_;rintro w4 rfl
  by_cases c2:0 <= e.ae /\ e.ae <= 2147483648
  ·refine gY ?_
   refine ig (h_.rangeAt C4.blk) C4.len ?_;refine WL.on rfl rfl ?_;refine il func144 (qE (e:={ e with ab:=0,ae:=0 }) (hv.below nR) C4.hl ⟨by first|exact wG|(show jX 0;omega),wE,yp⟩) ?_;rintro _ wy ⟨⟨b,rfl,hb⟩,xE⟩;refine⟨_,rfl,?_⟩;refine gY ?_;exact g_ (jy.of (nR.iR xE) hb (jM.trans ⟨fun h=>h.2.2,fun h=>⟨c1,c2,h⟩⟩))
  ·refine gY ?_
   exact g_ (jy.no (fun h=>c2 (jM.1 h).2.1) nR)
 by_cases OL:e.kind=5 \/ e.kind=7
 ·have jM:jS e ↔ (1 <= e.table /\ e.table <= 64) /\ (1 <= e.text.size /\ e.text.size <= 40) /\ mR { e with table:=0,text:=jz }:=by
   unfold jS;rw[if_neg k1,if_neg gZ,if_neg gZ,if_neg k4,if_pos OL]
   constructor
   ·rintro⟨a,b,c,d⟩;exact⟨a,⟨b,c⟩,d⟩
   ·rintro⟨a,⟨b,c⟩,d⟩;exact⟨a,b,c,d⟩
  rcases OL with k5|k7
  all_goals
   refine gY ?_;refine iD (v:=Iq 0) C3.table (C3.blk.free 2) ?_;obtain⟨nR,B4⟩:=Ir (i:=2) (Iq 0) mG B3;have C4:=C3.setTable 0;generalize w3.setCell ⟨c,2,none⟩ (Iq 0)=w4 at nR B4 C4;refine gY ?_;refine iD (v:=.string jz) C4.text (C4.blk.free 1) ?_;obtain⟨nY,B5⟩:=Ir (i:=1) (.string jz) nR B4;have C5:=C4.R4 jz;generalize w4.setCell ⟨c,1,none⟩ (.string jz)=w5 at nY B5 C5
   by_cases c1:1 <= e.table /\ e.table <= 64
   rotate_left
   ·refine gY ?_
    exact g_ (jy.no (fun h=>c1 (jM.1 h).1) nY)
   refine gY ?_;refine ia B5.text ?_;refine gY ?_;refine i_ fb (mu _ _ _ _) ?_;rintro w5 rfl
   by_cases c2:(1:Int) <= (e.text.size:Int) /\ (e.text.size:Int) <= 40
   rotate_left
   ·refine gY ?_
    exact g_ (jy.no (fun h=>c2 (by have:=(jM.1 h).2.1;omega)) nY)
   refine gY ?_;refine ig (h_.rangeAt C5.blk) C5.len ?_;refine WL.on rfl rfl ?_;refine il func144 (qE (e:={ e with table:=0,text:=jz }) (hv.below nY) C5.hl ⟨by first|exact wG|(show jX 0;omega),wE,yp⟩) ?_;rintro _ wy ⟨⟨b,rfl,hb⟩,xE⟩;refine⟨_,rfl,?_⟩;refine gY ?_;exact g_ (jy.of (nY.iR xE) hb (jM.trans ⟨fun h=>h.2.2,fun h=>⟨c1,gZ,h⟩⟩))
 by_cases k6:e.kind=6
 ·have jM:jS e ↔ (1 <= e.table /\ e.table <= 64) /\ mR { e with table:=0 }:=by
   unfold jS;rw[if_neg k1,if_neg gZ,if_neg gZ,if_neg k4,if_neg OL,if_pos k6]
  refine gY ?_;refine iD (v:=Iq 0) C3.table (C3.blk.free 2) ?_;obtain⟨nR,B4⟩:=Ir (i:=2) (Iq 0) mG B3;have C4:=C3.setTable 0;generalize w3.setCell ⟨c,2,none⟩ (Iq 0)=w4 at nR B4 C4
  by_cases c1:1 <= e.table /\ e.table <= 64
  ·refine gY ?_
   refine ig (h_.rangeAt C4.blk) C4.len ?_;refine WL.on rfl rfl ?_;refine il func144 (qE (e:={ e with table:=0 }) (hv.below nR) C4.hl ⟨by first|exact wG|(show jX 0;omega),wE,yp⟩) ?_;rintro _ wy ⟨⟨b,rfl,hb⟩,xE⟩;refine⟨_,rfl,?_⟩;refine gY ?_;exact g_ (jy.of (nR.iR xE) hb (jM.trans ⟨fun h=>h.2,fun h=>⟨c1,h⟩⟩))
  ·refine gY ?_
   exact g_ (jy.no (fun h=>c1 (jM.1 h).1) nR)
 ·have jM:¬jS e:=by
   unfold jS;rw[if_neg k1,if_neg gZ,if_neg gZ,if_neg k4,if_neg OL,if_neg k6];exact id
  refine gY ?_;exact g_ (jy.no jM mG)
theorem ajh (n:Int) (h:jX n): IntKind.u64.wrap (if n>0 then n else 0)=((n.toNat:Nat):Int):=by rw[aW];split<;>omega
theorem nM (n:Int) (hb:Bu w b l) (hn:jX n) (hm:l.length <= 70368744177664):
  Calls prog 121 #[b,Iq n] w fun e w'=>∃b',e=.returned b' /\ Bu w' b' (l++jK n.toNat) /\ jv w b w' b':=by
 refine iY fN ntmps121 ?_;have e:=ajh n hn;have OD:=jI n.toNat;refine gY ?_;refine WL.call rfl rfl rfl rfl rfl func147 rfl (by kernel_rfl) (by rw[show(bif false then(if(0:Int)>n then n else 0) else(if n>0 then n else 0))=(if n>0 then n else 0) from rfl,e];exact Fm n.toNat gZ w) ?_;rintro _ w2 ⟨b2,rfl,jg,lk,-⟩;refine⟨_,rfl,?_⟩;refine WL.app rfl rfl rfl rfl rfl (hb.below lk) rfl jg.sl gZ fun b3 w3 jF mP=>?_;refine gY ?_;exact g_ ⟨b3,rfl,jF,((jv.refl w b).below lk).trans mP⟩
theorem Fc {b off:Nat}(hr:w.rangeAt b off (jq h)) (hl:h.length=32) (hb:b<w.heap.size): Sl .u8 w (.slice (some ⟨b,off,none⟩) 32 32) h:=by
 have:=Sl.mk (k:=.u8) (w:=w) (b:=b) (o:=off) (cap:=32) (l:=h) gZ gZ hb (fun j hj=>by
  have h1:=hr j (.int .u8 (nth h j)) (by simp[nth,hj]);exact h1)
 rw[hl] at this;exact this
theorem FW (e:En) (hh:e.hash.length=32): (oM e).length <= 100+e.text.size:=by
 have h1:=jI e.table.toNat;have h2:=jI e.doc.toNat;have h3:=jI e.iZ.toNat;have h4:=jI e.text.size;have h5:=jI e.ab.toNat;have h6:=jI e.ae.toNat;have h7:=sN e.text;unfold oM
 by_cases k2:e.kind=2
 ·rw[if_pos k2];simp only[aj,aa];omega
 ·rw[if_neg k2];simp only[aj,aa,aF];omega
theorem LQ {e:En}(h:uE f w0 e cs) (hk:1 <= e.kind /\ e.kind <= 7) (hb:Bu w b l) (hm:l.length+e.text.size <= 70368744170000):
  Calls prog 122 #[b,.agg cs.toArray] w fun r w'=>∃b',r=.returned b' /\ Bu w' b' (l++oM e) /\ jv w b w' b':=by
 obtain⟨dc,rfl,hv,j7,lx,hh,rp,rT,-,wG,wE,yp,tf,EB⟩:=h;refine iY (args:=[b,.agg (iU e dc).toArray]) func122 ntmps122 ?_;refine gY ?_;refine iC fun g w1 hf=>?_;have jx:jl w g w1 76 (iU e dc):=hf;clear hf;have mj:=hb.below jx.below;have qD:=(jv.refl w b).below jx.below;have hR:∀ {wk vk},jv w1 b wk vk -> jT 76 g wk e dc:=fun h=>⟨jx.NQ hb h,j7,hh⟩;have fin:∀ {b' w'},Bu w' b' (l++oM e) -> jv w1 b w' b' -> ∃DJ,Ending.returned b'=.returned DJ /\ Bu w' DJ (l++oM e) /\ jv w b w' DJ:=fun {b' w'} h1 h2=>⟨b',rfl,h1,qD.trans h2⟩;have g0:=jv.refl w1 b;have e8:IntKind.u8.wrap e.kind=e.kind:=by rw[bB];omega
 refine gY ?_;refine ia (hR g0).kind ?_;refine gY ?_;refine WL.push rfl rfl rfl rfl rfl rfl rfl rfl rfl rfl rfl (fun _=>rfl) rfl mj (by simp only[aj,aF];omega) fun b2 w2 jg g2=>?_;rw[e8] at jg;refine gY ?_;refine ia (hR g2).table ?_;refine gY ?_;refine ia (hR g2).doc ?_;refine gY ?_;refine ia (hR g2).iZ ?_;refine gY ?_;refine ia (hR g2).text ?_;refine gY ?_;refine iE [Iq e.table,Iq e.doc,Iq e.iZ,Iq e.text.size] (by kernel_rfl) ?_;have hN:∃N:List Int,N=[e.table,e.doc,e.iZ,(e.text.size:Int)]:=⟨_,rfl⟩;obtain⟨N,hN⟩:=hN;have hNg:∀i,i<4 -> [Value.int .i64 e.table,Iq e.doc,Iq e.iZ,Iq e.text.size][i]? = some (Iq (N.getD i 0)) /\ jX (N.getD i 0):=fun i hi=>by
  rw[hN]
  match i,hi with
  | 0,_=>exact⟨rfl,wG⟩
  | 1,_=>exact⟨rfl,wE⟩
  | 2,_=>exact⟨rfl,yp⟩
  | 3,_=>exact⟨rfl,by show jX (e.text.size:Int);omega⟩
 have mN:∀i,i <= 4 -> ((N.take i).flatMap fun n=>jK n.toNat).length <= 10*i:=fun i hi=>by
  have h1:=jI e.table.toNat;have h2:=jI e.doc.toNat;have h3:=jI e.iZ.toNat;have h4:=jI (e.text.size:Int).toNat;rw[hN]
  match i,hi with
  | 0,_=>simp
  | 1,_=>simp;omega
  | 2,_=>simp;omega
  | 3,_=>simp;omega
  | 4,_=>simp only[bY,bR,an,cW,aa,aF];omega
 have hM:(l++[e.kind]).length=l.length+1:=iz;have Pe:l++oM e=(l++[e.kind])++((N.take 4).flatMap (fun n=>jK n.toNat)++(vA e.text++(jK e.ab.toNat++(jK e.ae.toNat++(if e.kind=2 then e.hash else[]))))):=by
  rw[hN];unfold oM;simp
 generalize l++[e.kind]=M at jg hM Pe;refine gY ?_;refine WC.loop (fun i:Nat × Value=>[(0,i.2),(3,iF g),(22,.agg [Iq e.table,Iq e.doc,Iq e.iZ,Iq e.text.size].toArray),(23,Iq i.1)])
  (fun i w'=>i.1 <= 4 /\ Bu w' i.2 (M++(N.take i.1).flatMap fun n=>jK n.toNat) /\ jv w1 b w' i.2) (fun i=>4 - i.1) (0,b2) iW ⟨aw _,by simpa using jg,g2⟩ ?_
 rintro⟨i,br⟩ wr ⟨hi,jC,lL⟩;simp only at hi jC lL ⊢;have hpi:=mN i hi
 by_cases je:i<4
 ·obtain⟨Cd,uB⟩:=hNg i je
  refine gY ?_;refine WL.elem i rfl rfl rfl rfl rfl rfl rfl rfl je Cd ?_;refine gY ?_;refine il fN (nM (N.getD i 0) jC uB (by rw[aa];omega)) ?_;rintro _ w3 ⟨b3,rfl,jF,mP⟩;refine⟨_,rfl,?_⟩;refine gY ?_;refine WQ.again (i+1,b3) iW ⟨je,?_,lL.trans mP⟩ (by show 4 - (i+1)<4 - i;omega);have hNl:N.length=4:=by rw[hN];rfl
  have ht:N.take (i+1)=N.take i++[N.getD i 0]:=by rw[aJ];simp[show i<N.length by omega]
  show Bu w3 b3 (M++(N.take (i+1)).flatMap _)
  rw[ht,ai,<- ao]
  simpa using jF
 ·obtain rfl:i=4:=gZ
  have Y1:=sN e.text;have hu5:=jI e.ab.toNat;have hu6:=jI e.ae.toNat;refine gY ?_;refine WC.drawn 11 (fun wx=>jT 76 g wx e dc) fun w4 Lc=>?_;have lD:=jC.below (Lc.below _);have ot:=lL.below (Lc.below _);have hS:=hR ot;refine iq [0,1] hS ?_;refine ik 2 [3,7,11,12] (fun wx hx=>hx.text) hS ?_;refine iq [4,5] hS ?_;refine ik 6 [7,11,12] (fun wx hx=>hx.ab) hS ?_;refine iq [8,9] hS ?_;refine ik 10 [11,12] (fun wx hx=>hx.ae) hS ?_;refine iI 3 ?_;refine WL.QM rfl rfl rfl rfl rfl lD rfl (by rw[aa];omega) fun b5 w5 oY Bg=>?_;have g5:=ot.trans Bg;refine WL.nil (WQ.dk (.inr (hR g5)) ?_);refine iI 7 ?_;refine il fN (nM e.ab oY tf (by rw[aa,aa,qf];omega)) ?_;rintro _ w6 ⟨b6,rfl,qA,Fa⟩;refine⟨_,rfl,?_⟩;have g6:=g5.trans Fa;refine WL.nil (WQ.dk (.inr (hR g6)) ?_);refine iI 11 ?_;refine il fN (nM e.ae qA EB (by rw[aa,aa,aa,qf];omega)) ?_;rintro _ w7 ⟨b7,rfl,wF,RG⟩;refine⟨_,rfl,?_⟩;have g7:=g6.trans RG;refine iO ?_;refine iI 12 ?_;refine iA ?_;refine iO ?_;refine im ?_;refine gY ?_;refine ia (hR g7).kind ?_;have Wb:Bu w7 b7 (M++((N.take 4).flatMap (fun n=>jK n.toNat)++(vA e.text++(jK e.ab.toNat++jK e.ae.toNat)))):=by simpa[ao,oB,vA] using wF
  by_cases k2:e.kind=2
  ·refine gY ?_
   refine WL.all rfl rfl rfl rfl rfl rfl ?_;refine WL.app rfl rfl rfl rfl rfl Wb rfl (Fc (hR g7).hash hh (hR g7).blk.lt) (by simp only[aa];omega) fun b8 w8 uV nP=>?_;refine gY ?_;refine g_ (fin ?_ (g7.trans nP));rw[Pe,if_pos k2]
   simpa[ao] using uV
  ·refine gY ?_
   refine g_ (fin ?_ g7);rw[Pe,if_neg k2,aS];exact Wb
theorem Yz (a b:List Int) (ha:a.length=32) (hb:b.length=32) (W:World): (binOp .neq 31 (.agg (jq a).toArray) (.agg (jq b).toArray)).run prog W=.ok (.bool (!decide (a=b))) W:=by
 have h:=Me a b ha hb W;rw[gA] at h;rw[run_neq_struct]
 revert h
 generalize (Op.equalIn 10000 31 (.agg (jq a).toArray) (.agg (jq b).toArray)).run prog W=r;intro h;cases r with
 | ok x w2=>
  simp only[bm] at h ⊢
  injection h with h1 h2
  injection h1 with h1
  rw[h1,h2]
 | halt x w2=>cases h
theorem N4 (x y:Operand) (a b:Array Value) (W:World): (eqGuard .neq 31 x y (.agg a) (.agg b)).run prog W=.ok () W:=by
 have h:prog.eqGuardType prog.depth 31=false:=by kernel_rfl
 simp[eqGuard,h]
section
variable {n:NN}{Q:Exit -> Act -> World -> Prop}{l:Env}{w w':World}{ops:Array Oper}{o:Oper}{rest:List Oper}{d:Nat}
theorem WL.aiD {x y:Operand}{t2:Nat}{a b:List Int}(hg:o.guard=none) (hd:o.dst=some d) (hn:Nat.blt d n.n=true) (ho:o.op=.binOp .neq 31 x y t2) (hx:jw l x=some (.agg (jq a).toArray)) (hy:jw l y=some (.agg (jq b).toArray)) (ha:a.length=32) (hb:b.length=32) (h:WL n ops Q rest ((d,.bool (!decide (a=b))) :: l) w): WL n ops Q (o :: rest) l w :=
 WL.step hg hd hn (fun c hc=>by
  unfold execOp;rw[ho];simp only[hc.eval hx,hc.eval hy,bA,N4,bm,Yz a b ha hb w]
  rfl) h
end
theorem Hj {e:En}(h:uE f w e cs) (hlen:chk 16 e.data=0 -> (encV 16 e.data).length <= 70368744177664):
  Calls prog 80 #[.agg cs.toArray] w fun r w'=>r=.returned (Iq (kY e)) /\ iB w w':=by
 obtain⟨dc,rfl,hv,j7,lx,hh,rp,rT,hr⟩:=h;have j8:nN (kH f w) e (iU e dc):=⟨dc,rfl,hv,j7,lx,hh,rp,rT,hr⟩;refine iY (args:=[.agg (iU e dc).toArray]) func80 ntmps80 ?_;refine gY ?_;refine iC fun g w1 hf=>?_;have jx:jl w g w1 76 (iU e dc):=hf;clear hf;have B1:jT _ g w1 e dc:=⟨jx.blk,j7,hh⟩;have lJ:=jx.below;clear jx;refine gY ?_;refine ig (h_.rangeAt B1.blk) B1.len ?_;refine il func118 (Ve (uE.below lJ j8)) ?_;rintro _ w2 ⟨⟨b,rfl,hb⟩,lk⟩;refine⟨_,rfl,?_⟩;have lQ:=lJ.iR lk;have B2:=B1.below lk;cases b with
 | false=>
  have hf:¬jS e:=fun h=>by have:=hb.2 h;cases this
  refine gY ?_;exact g_ ⟨by unfold kY;rw[if_neg hf],lQ⟩
 | true=>
  have hf:=hb.1 rfl;refine gY ?_;refine ia B2.kind ?_
  by_cases k2:e.kind=2
  rotate_left
  ·refine gY ?_
   exact g_ ⟨by unfold kY;rw[if_pos hf,if_pos (.inl k2)],lQ⟩
  refine gY ?_;refine ia B2.gone ?_;cases hg:e.gone with
  | true=>
   refine gY ?_;exact g_ ⟨by unfold kY;rw[if_pos hf,if_pos (.inr hg)],lQ⟩
  | false=>
   have vO:kY e=if(kL e.data).2≠0 then(kL e.data).2 else if kB e.data=e.hash then 0 else 18:=by unfold kY;rw[if_pos hf,if_neg (by simp[k2,hg])]
   refine gY ?_;refine ig B2.data j7 ?_;refine i_ func119 (ZM (hv.below lQ) hlen) ?_;rintro w3 mM
   have mG:=lQ.iR mM;have B3:=B2.below mM;have tg:(jq (kB e.data)).length=32:=by rw[av];exact pC _
   refine gY ?_;refine ix (z:=.agg (jq Dig.lB).toArray) (Dig.vh) fun c w4 hf4=>?_;have AT:jl w3 c w4 31 (jq Dig.lB):=hf4;clear hf4;refine ir (hm:=tg) (hold:=(by rfl)) AT.blk (kj.int _ _) ?_;have mz:iB w3 (w4.setRow c (jq (kB e.data)).toArray):=below_setRow AT.below (by rw[AT.eq];exact af _) _;have H5:h_ 31 (w4.setRow c (jq (kB e.data)).toArray) c (jq (kB e.data)):=AT.blk.setRow _;generalize w4.setRow c (jq (kB e.data)).toArray=w5 at mz H5;have nY:=mG.iR mz;have B5:=B3.below mz;clear AT
   by_cases he:(kL e.data).2=0
   rotate_left
   ·refine gY ?_
    exact WQ.uT rfl rfl ⟨by rw[vO,if_pos he];rfl,nY⟩
   rw[if_neg (by simpa using he)] at vO;refine gY ?_;refine ig (h_.rangeAt H5) tg ?_;refine gY ?_;refine WL.uj rfl rfl rfl rfl rfl rfl B5.hash (by rw[av];exact hh) ?_;refine WL.on rfl rfl ?_;refine WL.aiD rfl rfl rfl rfl rfl rfl (pC _) hh ?_
   by_cases hq:kB e.data=e.hash
   ·refine WL.as 27 (.bool false) rfl (congrArg Value.bool (by simp[hq])) ?_
    refine gY ?_;exact WQ.uT rfl rfl ⟨by rw[vO,if_pos hq,<- he];rfl,nY⟩
   ·refine WL.as 27 (.bool true) rfl (congrArg Value.bool (by simp[hq])) ?_
    refine gY ?_;exact g_ ⟨by rw[vO,if_neg hq],nY⟩
structure lM (T g:Nat) (w:World) (b:Bk) (se:Value):Prop where
 blk:h_ T w g (oH b se)
 pl:b.prev.length=32
section
variable {T g:Nat}{w w':World}{b:Bk}{se:Value}
theorem lM.len (h:lM T g w b se): (oH b se).length=36:=by simp[oH,h.pl]
theorem lM.index (h:lM T g w b se): w.cell? ⟨g,0,none⟩=some (Iq b.index):=h.blk.cell 0 (by simp[oH])
theorem lM.time (h:lM T g w b se): w.cell? ⟨g,1,none⟩=some (Iq b.time):=h.blk.cell 1 (by simp[oH])
theorem lM.rh (h:lM T g w b se): w.cell? ⟨g,2,none⟩=some (Iq b.rh):=h.blk.cell 2 (by simp[oH])
theorem lM.prev (h:lM T g w b se): w.rangeAt g 3 (jq b.prev):=h_.part h.blk [Iq b.index,Iq b.time,Iq b.rh] (jq b.prev) [se] rfl
theorem lM.iv (h:lM T g w b se): w.cell? ⟨g,35,none⟩=some se:=by
 have:=h.blk.cell 35 (by rw[h.len];omega);rw[this,ag];have h1:oH b se=(Iq b.index :: Iq b.time :: Iq b.rh :: jq b.prev)++[se]:=by simp[oH]
 rw[h1,ay (by simp[h.pl])];simp[h.pl]
theorem lM.ij (h:lM T g w b se) {K:Nat -> Prop}(hk:ib K w w') (hb:K g): lM T g w' b se:=⟨h_.ij h.blk hk hb,h.pl⟩
theorem lM.below (h:lM T g w b se) (hk:iB w w'): lM T g w' b se:=⟨h_.below h.blk hk h.blk.lt,h.pl⟩
end
def KD (w:World) (l:List Int) (r:Ending) (w':World):Prop:=∃v,r=.returned v /\ Bu w' v l /\ iB w w' /\ ∀g,v.ownBlock=some g -> w.heap.size <= g
theorem Y2 {b:Bk}(h:CP f w b cs): Calls prog 120 #[.agg cs.toArray] w (KD w (rQ b)):=by
 obtain⟨se,rfl,mH,mN,uK,hi,ht,hx⟩:=h;refine iY (args:=[.agg (oH b se).toArray]) func120 ntmps120 ?_;refine gY ?_;refine iC fun g w1 hf=>?_;have jx:jl w g w1 34 (oH b se):=hf;clear hf;have uF:jv w (.slice none 0 0) w1 (.slice none 0 0):=(jv.refl w _).below jx.below;have hR:∀ {wk vk},jv w1 (.slice none 0 0) wk vk -> lM 34 g wk b se:=fun h=>⟨jx.NQ (Bu.nil w) h,mN⟩;have h1:=jI b.index.toNat;have h2:=jI b.time.toNat;have h3:=jI b.rh.toNat;refine gY ?_;refine WC.drawn 11 (fun wx=>lM 34 g wx b se) fun w2 qY=>?_;have g2:jv w1 (.slice none 0 0) w2 (.slice none 0 0):=(jv.refl w1 _).below (qY.below _);have hS:=hR g2;refine iq [0] hS ?_;refine ik 1 [2,5,8,11,12] (fun wx hx=>hx.index) hS ?_;refine iq [3] hS ?_;refine ik 4 [5,8,11,12] (fun wx hx=>hx.time) hS ?_;refine iq [6] hS ?_;refine ik 7 [8,11,12] (fun wx hx=>hx.rh) hS ?_;refine iq [9] hS ?_;refine WD.all 10 rfl (by kernel_rfl) rfl rfl (fun _ _ _ _ _ h=>h) rfl rfl rfl rfl (.inr hS) ?_;refine iI 2 ?_;refine il fN (nM b.index (Bu.nil w2) hi iz) ?_;rintro _ w3 ⟨b3,rfl,jF,mP⟩;refine⟨_,rfl,?_⟩;have g3:=g2.trans mP;refine WL.nil (WQ.dk (.inr (hR g3)) ?_);rw[aH] at jF;refine iI 5 ?_;refine il fN (nM b.time jF ht gZ) ?_;rintro _ w4 ⟨b4,rfl,lD,ot⟩;refine⟨_,rfl,?_⟩;have g4:=g3.trans ot;refine WL.nil (WQ.dk (.inr (hR g4)) ?_);refine iI 8 ?_;refine il fN (nM b.rh lD hx (by rw[aa];omega)) ?_;rintro _ w5 ⟨b5,rfl,oY,Bg⟩;refine⟨_,rfl,?_⟩;have g5:=g4.trans Bg;refine WL.nil (WQ.dk (.inr (hR g5)) ?_);refine iI 11 ?_;refine WL.app rfl rfl rfl rfl rfl oY rfl (Fc (hR g5).prev mN (hR g5).blk.lt) (by rw[aa,aa];omega) fun b6 w6 qA Fa=>?_;have g6:=g5.trans Fa;refine iO ?_;refine iI 12 ?_;refine iA ?_;refine iO ?_;refine im ?_;refine gY ?_;have g7:=uF.trans g6;refine g_ ⟨b6,rfl,?_,g7.old (af _) (fun g h=>by cases h),g7.own (af _) (fun g h=>by cases h)⟩;unfold rQ
 simpa[ao] using qA
theorem YW {data:Bool}{e:En}(h:kY e=0) (hh:e.hash.length=32): (oM e++ow data e).length <= 80000:=by
 obtain⟨hf,hd⟩:=KT h;obtain⟨-,-,-,-,hx,-⟩:=tI hf;have h1:=FW e hh;have h2:(ow data e).length <= 70000:=by
  unfold ow
  by_cases k2:e.kind=2
  ·rw[if_pos k2]
   by_cases hg:e.gone=true \/ data=false
   ·rw[if_pos hg];simp
   ·rw[if_neg hg]
    have Uu:e.gone=false:=by cases hq:e.gone with
     | true=>exact absurd (.inl hq) hg
     | false=>rfl
    obtain⟨he,-⟩:=hd k2 Uu;obtain⟨-,hl,hx⟩:=vS he;have:=jI (encV 16 e.data).length;rw[hx];simp only[aj,aa];omega
  ·rw[if_neg k2];simp
 rw[aa];omega
theorem Dw {data:Bool}:∀(es:List En),(∀e∈es,kY e=0 /\ e.hash.length=32) -> (es.flatMap fun e=>oM e++ow data e).length <= 80000*es.length
 | [],_=>iz
 | e :: es,h=>by
  have h1:=YW (data:=data) (h e iz).1 (h e iz).2;have h2:=Dw (data:=data) es fun x hx=>h x (az _ hx);rw[an,aa,aj];omega
theorem lA.at {z:α}{P:α -> List Value -> Prop}{v:Value}{l:List α}(h:lA m z P O w v l) {j:Nat}(hj:j<l.length):
  ∃b o cap cs,v=.slice (some ⟨b,o,none⟩) l.length cap /\ b<w.heap.size /\ cs.length=m /\ P (l.getD j z) cs /\ w.rangeAt b (o+j*m) cs:=by
 obtain⟨sp,cap,rfl,-,-,-,h4⟩:=h;obtain⟨b,o,rfl,hb,-,hr⟩:=h4 gZ;obtain⟨cs,h1,h2,h3⟩:=hr j hj;exact⟨b,o,cap,cs,rfl,hb,h1,h2,h3⟩
theorem lA.slice {z:α}{P:α -> List Value -> Prop}{v:Value}{l:List α}(h:lA m z P O w v l): ∃sp cap,v=.slice sp l.length cap:=by
 obtain⟨sp,cap,rfl,-⟩:=h;exact⟨sp,cap,rfl⟩
theorem II (l:List α) (z:α) {i:Nat}(h:i<l.length): l.take (i+1)=l.take i++[l.getD i z]:=by rw[aJ];simp[h]
theorem O9.Wk {b:Bk}(h:CP f w b cs): ∀e∈b.iv,e.hash.length=32 /\ aq1 e:=by
 intro e he;obtain⟨j,hj,rfl⟩:=bn he;obtain⟨se,-,mH,-⟩:=h;obtain⟨_,_,_,cs,-,-,-,⟨dc,-,hv,-,-,hl,-⟩,-⟩:=mH.at hj;have e1:b.iv.getD j jo=b.iv[j]:=by simp[hj]
 rw[e1] at hv hl;exact⟨hl,⟨f,kH.rng hv⟩,hl⟩
theorem Ul {b:Bk}(data:Bool) (h:CP f w b cs) (Hy:∀e∈b.iv,kY e=0) (hle:b.iv.length <= 200): Calls prog 81 #[.agg cs.toArray,.bool data] w (KD w (wU data b)):=by
 have j8:=h;have Lw:=O9.Wk h;have mg:=h.len;obtain⟨se,rfl,mH,mN,uK,hr⟩:=h;obtain⟨sp,cap,rfl⟩:=mH.slice;refine iY (args:=[.agg (oH b (.slice sp b.iv.length cap)).toArray,.bool data]) func81 ntmps81 ?_;refine gY ?_;refine iC fun g w1 hf=>?_;have jx:jl w g w1 34 (oH b (.slice sp b.iv.length cap)):=hf;clear hf;have lJ:=jx.below;have B1:lM 34 g w1 b (.slice sp b.iv.length cap):=⟨jx.blk,mN⟩;clear jx;refine gY ?_;refine ig (h_.rangeAt B1.blk) mg ?_;refine il func120 (Y2 (CP.below lJ j8)) ?_;rintro _ w2 ⟨b2,rfl,jg,lk,wN⟩;refine⟨_,rfl,?_⟩;have lQ:=lJ.iR lk;have B2:=B1.below lk;have ha2:na w w2 b2:=⟨lQ,fun g hg=>aU lJ.size (wN g hg)⟩;have tg:(rQ b).length <= 70:=by
  have h1:=jI b.index.toNat;have h2:=jI b.time.toNat;have h3:=jI b.rh.toNat;unfold rQ;simp only[aa];omega
 refine gY ?_;refine ia B2.iv ?_;refine gY ?_;refine il fN (nM (b.iv.length:Int) jg (by show jX _;omega) gZ) ?_;rintro _ w3 ⟨b3,rfl,jF,mP⟩;refine⟨_,rfl,?_⟩;rw[fM] at jF;have UP:=ha2.grow mP;have B3:=B2.ij mP.1 ⟨B2.blk.lt,fun e=>by have:=wN g e;have:=B1.blk.lt;omega⟩;have HQ:=jI b.iv.length;have hM:(rQ b++jK b.iv.length).length <= 80:=by rw[aa];omega
 have Pe:wU data b=(rQ b++jK b.iv.length)++b.iv.flatMap fun e=>oM e++ow data e:=by unfold wU;rw[ao]
 generalize rQ b++jK b.iv.length=M at jF hM Pe;refine gY ?_;refine ia B3.iv ?_;refine gY ?_;refine WC.loop (fun i:Nat × Value=>[(1,.bool data),(5,i.2),(18,.slice sp b.iv.length cap),(19,Iq b.iv.length),(20,Iq i.1)])
  (fun i w'=>i.1 <= b.iv.length /\ Bu w' i.2 (M++(b.iv.take i.1).flatMap fun e=>oM e++ow data e) /\ na w w' i.2) (fun i=>b.iv.length - i.1) (0,b3) iW ⟨aw _,by simpa using jF,UP⟩ ?_
 rintro⟨i,br⟩ wr ⟨hi,jC,ss⟩;simp only at hi jC ss ⊢
 by_cases je:i<b.iv.length
 ·have hlen:(M++(b.iv.take i).flatMap fun e=>oM e++ow data e).length <= 80+80000*200:=by
   have:=Dw (data:=data) (b.iv.take i) fun e he=>⟨Hy e (bN he),(Lw e (bN he)).1⟩;rw[aE] at this;rw[aa];have h2:min i b.iv.length <= 200:=gZ;have:=gL 80000 h2;omega
  have EW:=II b.iv jo je;obtain⟨kb,ko,oc,cs,qH,oN,yu,yD,mo⟩:=mH.at je
  injection qH with I5 _ Ih
  subst I5;subst Ih;have Ej:b.iv.getD i jo∈b.iv:=by simp[je]
  have Th:=Hy _ Ej;have SZ:=(Lw _ Ej).1;obtain⟨jM,PI⟩:=KT Th;obtain⟨wQ,-,-,-,rT,-⟩:=tI jM;generalize b.iv.getD i jo=e at yD Th SZ jM PI wQ rT EW;generalize KZ:(M++(b.iv.take i).flatMap fun e=>oM e++ow data e)=L at jC hlen;have hle:=FW e SZ;have again:∀ {wx:World}{bx:Value},Bu wx bx (L++(oM e++ow data e)) -> na w wx bx -> Bu wx bx (M++(b.iv.take (i+1)).flatMap fun e=>oM e++ow data e) /\ na w wx bx:=fun {wx bx} h1 h2=>by
   rw[EW,ai,<- ao,KZ];exact⟨by simpa using h1,h2⟩
  have lx:=yD.one;have aeM:=yD;obtain⟨dc,rfl,hv,j7,-,hh,-⟩:=yD;refine gY ?_;refine iG i (ko+i*46) je ?_;refine ig (fun j u hu=>(ss.below.cell (p:=⟨kb,ko+i*46+j,none⟩) oN).trans (mo j u hu)) yu ?_;refine ix (z:=.agg (iU jo iy).toArray) (fun _=>by kernel_rfl) fun c w5 PJ=>?_;have sK:jl wr c w5 76 (iU jo iy):=PJ;clear PJ;refine gY ?_;refine ir (hm:=yu) (hold:=(by rfl)) sK.blk lx ?_;have m5:iB wr (w5.setRow c (iU e dc).toArray):=below_setRow sK.below (by rw[sK.eq];exact af _) _;have C6:jT 76 c (w5.setRow c (iU e dc).toArray) e dc:=⟨sK.blk.setRow _,j7,hh⟩;have ap0:=sK.eq;generalize w5.setRow c (iU e dc).toArray=w6 at m5 C6;clear sK;have qA:=jC.below m5;have g6:=(jv.refl wr br).below m5;have hco:br.ownBlock≠some c:=fun e=>by have:=jC.lt _ e;omega
  have hR:∀ {wk vk},jv w6 br wk vk -> jT 76 c wk e dc:=fun h=>C6.ij h.1 ⟨C6.blk.lt,hco⟩;refine gY ?_;refine ig (h_.rangeAt C6.blk) yu ?_;refine il func122 (LQ aeM wQ qA gZ) ?_;rintro _ w7 ⟨b7,rfl,wF,g7⟩;refine⟨_,rfl,?_⟩;refine gY ?_;refine ia (hR g7).kind ?_
  by_cases k2:e.kind=2
  rotate_left
  ·have hX:ow data e=[]:=by unfold ow;rw[if_neg k2]
   refine gY ?_;refine WQ.again (i+1,b7) iW ⟨je,again (by rw[hX,aS];exact wF) (ss.grow (g6.trans g7))⟩ (by show b.iv.length - (i+1)<b.iv.length - i;omega)
  refine gY ?_;refine ia (hR g7).gone ?_
  by_cases sT:e.gone=true \/ data=false
  ·have hX:ow data e=[0]:=by unfold ow;rw[if_pos k2,if_pos sT]
   have TU:e.gone=true \/ (e.gone=false /\ data=false):=by
    cases hq:e.gone with
    | true=>exact .inl rfl
    | false=>exact .inr ⟨rfl,sT.resolve_left (by rw[hq];simp)⟩
   rcases TU with hq|⟨hq,hdf⟩
   ·rw[hq]
    refine gY ?_;refine WL.push rfl rfl rfl rfl rfl rfl rfl rfl rfl rfl rfl (fun _=>rfl) rfl wF (by rw[aa];simp only[aj,aF];omega) fun b8 w8 uV g8=>?_;refine gY ?_;refine WQ.again (i+1,b8) iW ⟨je,again (by rw[hX,<- ao];exact uV) (ss.grow ((g6.trans g7).trans g8))⟩ (by show b.iv.length - (i+1)<b.iv.length - i;omega)
   ·rw[hq]
    subst hdf;refine gY ?_;refine WL.push rfl rfl rfl rfl rfl rfl rfl rfl rfl rfl rfl (fun _=>rfl) rfl wF (by rw[aa];simp only[aj,aF];omega) fun b8 w8 uV g8=>?_;refine gY ?_;refine WQ.again (i+1,b8) iW ⟨je,again (by rw[hX,<- ao];exact uV) (ss.grow ((g6.trans g7).trans g8))⟩ (by show b.iv.length - (i+1)<b.iv.length - i;omega)
  ·have Uu:e.gone=false:=by cases hq:e.gone with
    | true=>exact absurd (.inl hq) sT
    | false=>rfl
   obtain rfl:data=true:=by cases data with
    | true=>rfl
    | false=>exact absurd (.inr rfl) sT
   have hX:ow true e=1 :: (jK (kL e.data).1.length++(kL e.data).1):=by unfold ow;rw[if_pos k2,if_neg sT]
   obtain⟨he,-⟩:=PI k2 Uu;obtain⟨hc,IC,hx⟩:=vS he;have HQ:=jI (kL e.data).1.length;rw[<- hx] at IC;rw[Uu];have ahE:=ss.grow (g6.trans g7);refine gY ?_;refine ig (hR g7).data j7 ?_;refine il func123 (GS (hv.below ahE.below) fun _=>by rw[<- hx];omega) ?_;rintro _ w8 ⟨b8,rfl,uV,yq,xC⟩;refine⟨_,rfl,?_⟩;obtain⟨sp8,ai6,rfl,-⟩:=uV.form;have anR:=wF.below yq;have g8:=(jv.refl w7 b7).below yq;refine gY ?_;refine WL.push rfl rfl rfl rfl rfl rfl rfl rfl rfl rfl rfl (fun _=>rfl) rfl anR (by rw[aa];simp only[aj,aF];omega) fun b9 w9 EO g9=>?_;refine gY ?_;refine WL.call rfl rfl rfl rfl rfl fN rfl (by kernel_rfl) (nM ((kL e.data).1.length:Int) EO (by show jX _;omega) (by rw[aa,aa];simp only[aj,aF];omega)) ?_;rintro _ qZ ⟨D8,rfl,MP,AU⟩;refine⟨_,rfl,?_⟩;rw[fM] at MP;have ao4:=uV.sl.ij (g9.trans AU).1 fun b o n c hb iS=>⟨iS,fun e1=>by
    injection hb with mj _ _
    have h1:=xC b (by rw[mj];rfl);have h2:=wF.lt _ e1;omega⟩
   refine gY ?_;refine WL.app rfl rfl rfl rfl rfl MP rfl ao4 (by simp only[aa,aj,aF];omega) fun KY Tl Mq Qd=>?_;refine gY ?_;refine WQ.again (i+1,KY) iW ⟨je,again (by rw[hX];simpa[ao] using Mq) ((((ahE.grow g8).grow g9).grow AU).grow Qd)⟩ (by show b.iv.length - (i+1)<b.iv.length - i;omega)
 ·obtain rfl:i=b.iv.length:=gZ
  rw[aI] at jC;refine gY ?_;refine g_ ⟨br,rfl,?_,ss.below,ss.own⟩;rw[Pe];exact jC
theorem Ok {b:Bk}(h:CP f w b cs) (hlen:∀e∈b.iv,chk 16 e.data=0 -> (encV 16 e.data).length <= 70368744177664): Calls prog 53 #[.agg cs.toArray] w fun r w'=>r=.returned (Iq (oL b)) /\ iB w w':=by
 have j8:=h;have mg:=h.len;obtain⟨se,rfl,mH,mN,uK,hi,ht,hx⟩:=h;obtain⟨sp,cap,rfl⟩:=mH.slice;refine iY (args:=[.agg (oH b (.slice sp b.iv.length cap)).toArray]) func53 ntmps53 ?_;refine gY ?_;refine iC fun g w1 hf=>?_;have jx:jl w g w1 34 (oH b (.slice sp b.iv.length cap)):=hf;clear hf;have lJ:=jx.below;have B1:lM 34 g w1 b (.slice sp b.iv.length cap):=⟨jx.blk,mN⟩;clear jx;have bad:¬((0 <= b.index /\ b.index <= 2147483648) /\ (0 <= b.time /\ b.time <= 9007199254740992) /\ (0 <= b.rh /\ b.rh <= 9007199254740992) /\ (1 <= b.iv.length /\ b.iv.length <= 200)) -> Ending.returned (Value.int .i64 1)=.returned (Iq (oL b)):=fun h=>by unfold oL;rw[if_neg h]
 refine gY ?_;refine ia B1.index ?_;refine i_ fb (mu _ _ _ _) ?_;rintro w1 rfl
 by_cases c1:0 <= b.index /\ b.index <= 2147483648
 rotate_left
 ·refine WL.as 8 (.bool false) rfl (congrArg Value.bool (decide_eq_false c1)) ?_
  refine gY ?_;exact g_ ⟨bad fun h=>c1 h.1,lJ⟩
 refine WL.as 8 (.bool true) rfl (congrArg Value.bool (decide_eq_true c1)) ?_;refine gY ?_;refine ia B1.time ?_;refine WL.on rfl rfl ?_;refine i_ fb (mu _ _ _ _) ?_;rintro w1 rfl
 by_cases c2:0 <= b.time /\ b.time <= 9007199254740992
 rotate_left
 ·refine WL.as 13 (.bool false) rfl (congrArg Value.bool (decide_eq_false c2)) ?_
  refine gY ?_;exact g_ ⟨bad fun h=>c2 h.2.1,lJ⟩
 refine WL.as 13 (.bool true) rfl (congrArg Value.bool (decide_eq_true c2)) ?_;refine gY ?_;refine ia B1.rh ?_;refine WL.on rfl rfl ?_;refine i_ fb (mu _ _ _ _) ?_;rintro w1 rfl
 by_cases c3:0 <= b.rh /\ b.rh <= 9007199254740992
 rotate_left
 ·refine WL.as 19 (.bool false) rfl (congrArg Value.bool (decide_eq_false c3)) ?_
  refine gY ?_;exact g_ ⟨bad fun h=>c3 h.2.2.1,lJ⟩
 refine WL.as 19 (.bool true) rfl (congrArg Value.bool (decide_eq_true c3)) ?_;refine gY ?_;refine ia B1.iv ?_;refine gY ?_;refine i_ fb (mu _ _ _ _) ?_;rintro w1 rfl
 by_cases c4:(1:Int) <= (b.iv.length:Int) /\ (b.iv.length:Int) <= 200
 rotate_left
 ·refine WL.as 26 (.bool false) rfl (congrArg Value.bool (decide_eq_false c4)) ?_
  refine gY ?_;exact g_ ⟨bad fun h=>c4 gZ,lJ⟩
 refine WL.as 26 (.bool true) rfl (congrArg Value.bool (decide_eq_true c4)) ?_;have qt:oL b=if firstBad (b.iv.map kY)≠0 then firstBad (b.iv.map kY) else if 262144<(wU true b).length then 5 else 0:=by unfold oL;rw[if_pos ⟨c1,c2,c3,gZ⟩]
 have KR:∀j,j<b.iv.length -> (b.iv.map kY).getD j 0=kY (b.iv.getD j jo):=fun j hj=>by simp[hj]
 refine gY ?_;refine ia B1.iv ?_;refine gY ?_;refine WC.loop (fun i:Nat=>[(1,iF g),(30,.slice sp b.iv.length cap),(31,Iq b.iv.length),(32,Iq i)])
  (fun i w'=>i <= b.iv.length /\ iB w1 w' /\ ∀j,j<i -> kY (b.iv.getD j jo)=0) (fun i=>b.iv.length - i) 0 iW ⟨aw _,Below.refl _ _,fun j hj=>by omega⟩ ?_
 rintro i wr ⟨hi,jC,hz⟩;have tQ:=lJ.iR jC
 by_cases je:i<b.iv.length
 ·obtain⟨kb,ko,oc,cs,qH,oN,yu,yD,mo⟩:=mH.at je
  injection qH with I5 _ Ih
  subst I5;subst Ih;have Ej:b.iv.getD i jo∈b.iv:=by simp[je]
  have hl:=hlen _ Ej;have hmi:=KR i je;refine gY ?_;refine iG i (ko+i*46) je ?_;refine ig (fun j u hu=>(tQ.cell (p:=⟨kb,ko+i*46+j,none⟩) oN).trans (mo j u hu)) yu ?_;refine ix (z:=.agg (iU jo iy).toArray) (fun _=>by kernel_rfl) fun c w5 PJ=>?_;have sK:jl wr c w5 76 (iU jo iy):=PJ;clear PJ;refine ir (hm:=yu) (hold:=(by rfl)) sK.blk yD.one ?_;have m5:iB wr (w5.setRow c cs.toArray):=below_setRow sK.below (by rw[sK.eq];exact af _) _;have C6:h_ 76 (w5.setRow c cs.toArray) c cs:=sK.blk.setRow _;generalize w5.setRow c cs.toArray=w6 at m5 C6;clear sK;have vL:=tQ.iR m5;refine gY ?_;refine ig (h_.rangeAt C6) yu ?_;refine i_ func80 (Hj (uE.below vL yD) hl) ?_;rintro w7 tF
  have VP:=vL.iR tF
  by_cases hc:kY (b.iv.getD i jo)=0
  ·refine gY ?_
   refine WQ.again (i+1) iW ⟨je,(jC.iR m5).trans (tF.mono (aU jC.size m5.size)),fun j hj=>?_⟩ (by show b.iv.length - (i+1)<b.iv.length - i;omega);rcases aO j i with h|h
   ·exact hz j h
   ·obtain rfl:j=i:=gZ
    exact hc
  ·have sF:firstBad (b.iv.map kY)=kY (b.iv.getD i jo):=by
    rw[<- hmi];exact qn (by simpa using je) (fun j hj=>by rw[KR j gZ];exact hz j hj) (by rw[hmi];exact hc)
   refine gY ?_;exact g_ ⟨by rw[qt,sF,if_pos hc],VP⟩
 ·obtain rfl:i=b.iv.length:=gZ
  have sF:=rj fun j hj=>by
   rw[av] at hj;rw[KR j hj];exact hz j hj
  have Hy:∀e∈b.iv,kY e=0:=fun e he=>oT.1 sF _ (fw he);have Br:=B1.below jC;rw[if_neg (by simpa using sF)] at qt;refine gY ?_;refine ig (h_.rangeAt Br.blk) mg ?_;refine il func81 (Ul true (CP.below tQ j8) Hy gZ) ?_;rintro _ w8 ⟨b8,rfl,uV,yq,-⟩;refine⟨_,rfl,?_⟩;obtain⟨sp8,ai6,rfl,-⟩:=uV.form;have OJ:=tQ.iR yq
  by_cases rz:262144<(wU true b).length
  ·refine gY ?_
   exact g_ ⟨by rw[qt,if_pos rz],OJ⟩
  ·refine gY ?_
   exact g_ ⟨by rw[qt,if_neg rz],OJ⟩
section
variable {T g:Nat}{w w':World}{b:Bk}{se:Value}
theorem lM.acn (h:lM T g w b se) (v:Value) (es:List En): lM T g (w.setCell ⟨g,35,none⟩ v) { b with iv:=es } v:=by
 refine⟨?_,h.pl⟩;have:=h.blk.set 35 v;have h1:∀se,oH b se=(.int .i64 b.index :: .int .i64 b.time :: .int .i64 b.rh :: jq b.prev)++[se]:=fun se=>by simp[oH]
 have h2:(Value.int IntKind.i64 b.index :: .int .i64 b.time :: .int .i64 b.rh :: jq b.prev).length=35:=by simp[h.pl]
 rw[h1,cN _ _ (by omega),h2] at this;exact this
end
section
variable {rb g:Nat}{w0 w w':World}{b:Bk}{se se':Value}{q:Nat -> Prop}
end
theorem ajZ: lK prog 32 76 46 192:=lK.mk' (z:=.agg (iU jo iy).toArray) underlying32 (by kernel_rfl) rfl gZ
theorem AP: Yk Dig.lB:=fun x hx=>by have:=List.eq_of_mem_replicate hx;omega
end K
namespace K
end K
open Go.Maps
namespace Vw
open K
abbrev zr:Nat:=76
abbrev wK:Nat:=34
def sZ (w:World) (rb:Nat) (M D:Nat -> Prop) (f:Nat) (c:Int) (s:St) (N:Nat) (e:Ending) (w':World):Prop :=
 ∃M' D',e=.returned (Iq c) /\ p_ w' rb M' D' f s N /\ ib (fun b=>b<w.heap.size /\ ¬M b) w w' /\ (∀b,M' b -> M b \/ w.heap.size <= b) /\ ∀b,D' b -> D b \/ w.heap.size <= b
theorem BV {L:List Cat.Tb}{kind:Int}(h5:kind≠5) (h6:kind≠6) (h7:kind≠7): Cat.kt L kind txt tbl=0 /\ Cat.mW L kind txt tbl=L:=by
 have hc:Cat.kt L kind txt tbl=0:=by unfold Cat.kt;rw[if_neg h5,if_neg h6,if_neg h7]
 exact⟨hc,by unfold Cat.mW;rw[if_pos hc,if_neg h5,if_neg h6,if_neg h7]⟩
theorem aeh {L:List Cat.Tb}{kind:Int}(h:Cat.kt L kind txt tbl≠0): Cat.mW L kind txt tbl=L:=by unfold Cat.mW;rw[if_neg h]
theorem WI {P:V -> List Value -> Prop}{e:En}(h:nN P e cs): Cat.E9 cs.toArray e.kind e.text e.table:=by
 obtain⟨dc,rfl,-,h1,-,h2,-,h3,-,h4,-⟩:=id h;exact⟨by simpa using h.len,rfl,rfl,rfl,by unfold maxLen;omega,zW h4⟩
theorem sZ.of {M':Nat -> Prop}{c c':Int}{s s':St}(h:p_ w' rb M' D f s N) (hk:ib (fun b=>b<w.heap.size /\ ¬M b) w w') (hM:∀b,M' b -> M b \/ w.heap.size <= b) (e1:c'=c) (e2:s'=s):
  sZ w rb M D f c' s' N (.returned (Iq c)) w':=by
 subst e1 e2;exact⟨M',D,rfl,h,hk,hM,fun b hb=>.inl hb⟩
theorem p_.mono {s:St}{N':Nat}(h:p_ w rb M D f s N) (h1:N <= N') (h2:N' <= 1000000): p_ w rb M D f s N':=by
 obtain⟨cp,Oc,rv,mb,k,h⟩:=h;exact⟨cp,Oc,rv,mb,k,h.vb,h.cat,h.rows,h.red,h.tR,h.FL,h.rn,h.SQ,h.Sv,h.Fq,h.lt,h.sep,h.wS,by have:=h.ok;omega⟩
theorem DQ (f:Nat): Sm 3000 (f+1) zV:=⟨by show(0:Nat) <= 3000;omega,by show(0:Nat) <= 3000;omega,fun x hx=>by cases hx⟩
theorem Oo: lK prog 54 QT 14 144:=lK.mk' (z:=.agg (jQ jf iy).toArray) underlying54 (by kernel_rfl) rfl gZ
theorem ZZ (a b c g h i:Int) (d e:Bool) (v1 v2 v3:Int) (t:ByteArray) (sp sq:Option Addr) (n1 n2 c1 c2:Nat):
  prog.built QT [(0,Iq a),(1,Iq b),(2,Iq c),(3,.agg #[Iq v1,Iq v2,Iq v3,.string t,.slice sp n1 c1,.slice sq n2 c2]),(4,.bool d),(5,.bool e),(6,Iq g),(7,Iq h),(8,Iq i)] =
   some [Value.int .i64 a,Iq b,Iq c,Iq v1,Iq v2,Iq v3,.string t,.slice sp n1 c1,.slice sq n2 c2,.bool d,.bool e,Iq g,Iq h,Iq i].toArray:=by kernel_rfl
theorem yQ {v:V}(h:jE O f w v cs): ∃sp sq n1 n2 c1 c2,cs=[Iq v.k,Iq v.n,Iq v.s,.string v.t,.slice sp n1 c1,.slice sq n2 c2]:=by
 cases f with
 | zero=>exact h.elim
 | succ f=>
  obtain⟨sn,sk,rfl,-,-,-,-,⟨sp,c1,rfl,-⟩,⟨sq,c2,rfl,-⟩⟩:=h;exact⟨sp,sq,_,_,c1,c2,rfl⟩
theorem GI {s:St}(h0:p_ w rb M D f s N) (hN:N+1 <= 1000000) {E:Nat -> Prop}(VU:∀x,E x -> ¬M x) {b:Bk}{bc:List Value}(hb:m6 E f w b bc) (k:Nat) (hk:k<b.iv.length) (m5:k <= 1000000) (lX:Sm 3000 f (b.iv.getD k jo).data):
  Calls prog 73 #[iF rb,.agg bc.toArray,Iq k] w (sZ w rb M D f (entR s (b.iv.getD k jo) b.index k b.time).1 (entR s (b.iv.getD k jo) b.index k b.time).2 (N+1)):=by
 obtain⟨cp,Oc,rv,mb,kc,h⟩:=id h0;obtain⟨se,rfl,mH,mN,uK,Vi,XQ,-⟩:=hb;obtain⟨sp,cap,rfl,tC,rO,Cg,ji⟩:=mH;obtain⟨bb,bo,rfl,sh,hbE,ji⟩:=ji gZ;obtain⟨ec,kU,u6,her⟩:=ji k hk;generalize b.iv.getD k jo=e at lX u6 ⊢;have hE:=WI u6;obtain⟨dc,rfl,Au,j7,tO,tg,hhb,rT,El⟩:=u6;have iS:=h.lt;refine iY (args:=[iF rb,.agg (oH b (.slice (some ⟨bb,bo,none⟩) b.iv.length cap)).toArray,Iq k]) func73 ntmps73 ?_;refine ku ?_;refine iC fun g4 w1 f1=>?_;have B1:lM wK g4 w1 b (.slice (some ⟨bb,bo,none⟩) b.iv.length cap):=⟨f1.blk,mN⟩;have b1:=f1.below;have e4:=f1.eq;clear f1;have ahK:w1.rangeAt bb (bo+k*46) (iU e dc):=fun j u hu=>(b1.cell (p:=⟨bb,bo+k*46+j,none⟩) sh).trans (her j u hu);have cse:=B1.iv;refine iu ?_;refine iG k (bo+k*46) hk ?_;refine ig ahK kU ?_;refine ix (z:=.agg (iU jo iy).toArray) (fun _=>by kernel_rfl) fun g7 w2 f2=>?_;refine ir (hm:=kU) f2.blk (nN.one (P:=fun _ _=>True) ⟨dc,rfl,trivial,j7,tO,tg,hhb,rT,El⟩) ?_;obtain⟨v3,b3,-,q3⟩:=mh (iU e dc) (Below.refl _ w1) f2;have e7:w.heap.size <= g7:=by have:=b1.size;omega
 have E3:jT zr g7 (w2.setRow g7 (iU e dc).toArray) e dc:=⟨v3,j7,tg⟩;have Vu:=h_.lt B1.blk;have B3:lM wK g4 (w2.setRow g7 (iU e dc).toArray) b (.slice (some ⟨bb,bo,none⟩) b.iv.length cap):=⟨h_.below B1.blk b3 Vu,mN⟩;replace b1:=b1.iR b3;generalize w2.setRow g7 (iU e dc).toArray=w3 at v3 b1 b3 E3 B3 ⊢;replace Vu:=h_.lt B3.blk;have yB:=h_.lt v3;clear f2 cse ahK b3 B1 v3 her q3 w2 w1;have z1:=b1.size;have h3:=h.below b1;have aqc:=Au.ij (O':=E) (ib.ic b1) (fun b _ h=>h) (fun b h=>h);have cp3:=h3.vb.cell 0 iz;simp only[al] at cp3;have qd:=h3.lt rb (.inl h3.tR);refine gY ?_;refine WC.drawn 5 (iB w3) fun Rn hd=>?_;have hS:iB w3 Rn:=hd.below _;clear hd;refine iq [0,1,2] hS ?_;refine ik 3 [5,6] (jZ qd cp3) hS ?_;refine jG (hm:=kU) 4 [5,6] (fun wx hx=>h_.rangeAt (E3.below hx).blk) hS ?_;refine iI 5 ?_;have h3a:=h3.below hS;refine WL.call rfl rfl rfl rfl rfl func109 rfl (by kernel_rfl) (Cr.TA h3a.cat hE) ?_;rintro _ w4 ⟨O4,rfl,Pb,k4,o4⟩;refine⟨_,rfl,?_⟩;refine iO ?_
 (refine js 6 rfl (q:=?_))
 refine im ?_;have hAc:=aeh (L:=s.cat) (kind:=e.kind) (txt:=e.text) (tbl:=e.table);have h4:=h3a.app Pb k4 o4;have z3:=hS.size;have z4:=k4.size;have K4:ib (fun b=>b<w.heap.size /\ ¬M b) w w4:=(ib.ic (b1.trans (hS.mono z1))).mono (fun b hb=>hb.1) |>.trans (k4.mono fun b hb=>⟨gZ,fun hh=>hb.2 (h.rn b hh)⟩);have no4:∀g,w.heap.size <= g -> g<w3.heap.size -> g<Rn.heap.size /\ ¬Oc g:=fun g h1 h2=>⟨gZ,fun hh=>by have:=iS g (.inl (h.rn g hh));omega⟩;have E4:=(E3.below hS).ij k4 (no4 g7 gZ yB);have B4:lM wK g4 w4 b (.slice (some ⟨bb,bo,none⟩) b.iv.length cap):=⟨(h_.below B3.blk hS gZ).ij k4 (no4 g4 gZ gZ),mN⟩;have SA:∀x,(M x \/ (Rn.heap.size <= x /\ x<w4.heap.size)) -> M x \/ w.heap.size <= x:=fun x hx=>hx.elim .inl fun hh=>.inr gZ;have abk:=Au.ij K4 (fun x hx h=>⟨h,VU x hx⟩) (fun _ h=>h);clear o4 k4 Pb h3a no4 E3 B3 h3 aqc hS
 by_cases DI:Cat.kt s.cat e.kind e.text e.table=0
 case neg=>
  have hR:entR s e b.index k b.time=(Cat.kt s.cat e.kind e.text e.table,s):=by unfold entR;rw[if_pos DI]
  rw[hAc DI] at h4;rw[hR];generalize Cat.kt s.cat e.kind e.text e.table=code at DI ⊢;refine gY ?_;exact g_ (sZ.of (p_.mono ⟨_,_,_,_,_,h4⟩ gZ hN) K4 SA rfl rfl)
 case pos=>
 have ek:=E4.kind
 by_cases Fp:e.kind=2 \/ e.kind=3
 case pos=>
  obtain⟨-,hL⟩:=BV (L:=s.cat) (kind:=e.kind) (txt:=e.text) (tbl:=e.table) gZ gZ gZ;rw[hL] at h4;change RV w4 rb (fun b=>M b \/ (Rn.heap.size <= b /\ b<w4.heap.size)) D f s cp O4 rv mb kc N at h4;have hR:entR s e b.index k b.time=if(Cat.ju s.cat e.table).2.2≠0 \/ (Cat.ju s.cat e.table).2.1.dropped=true \/ fits s e=false then(3,s) else(0,{ s with rows:=s.rows++[rowOf e b.index k b.time]}):=by
   unfold entR;rw[if_neg (by simpa using DI),if_pos Fp]
  rw[hR];rw[DI];clear hR DI hAc hL;have cp4:=h4.vb.cell 0 iz;simp only[al] at cp4;have Wu:=h_.lt B4.blk;have D5:=h_.lt E4.blk;have ann:=h4.lt rb (.inl h4.tR);have akF:=abk.td;refine iu ?_;refine WC.sa (fun _:Unit=>[(0,iF rb),(2,Iq k),(4,iF g4),(7,iF g7),(30,.bool true)]) (fun _ w'=>w'=w4) rfl ?_ ?_
  ·rcases Fp with e2|e3
   ·refine WC.qg rfl e2 ?_
    refine gY ?_;exact WQ.meet () ⟨rfl,rfl,rfl,rfl,congrArg (fun z=>some (Value.bool z)) (decide_eq_true e2),trivial⟩ rfl
   ·refine WC.pE rfl gZ ?_
    refine gY ?_;exact WQ.meet () iW rfl
  rintro⟨⟩ w4 rfl;refine gY ?_;refine WC.sa (fun g:Nat=>[(0,iF rb),(2,Iq k),(4,iF g4),(7,iF g7),(9,iF g),(10,Iq (Cat.ju s.cat e.table).2.2)])
   (fun g w'=>iB w4 w' /\ w'.cell? ⟨g,2,none⟩=some (.bool (Cat.ju s.cat e.table).2.1.dropped)) rfl ?_ ?_
  ·refine iu ?_
   refine WC.drawn 6 (iB w4) fun wa hd=>?_;have hS:iB w4 wa:=hd.below _;refine iq [0,1,2,4] hS ?_;refine ik 3 [6,7,8,9,11,12] (jZ ann cp4) hS ?_;refine ik 5 [6,7,8,9,11,12] (fun wx hx=>(hx.cell (p:=⟨g7,2,none⟩) D5).trans E4.table) hS ?_;refine WD.two 6 10 (by kernel_rfl) rfl rfl ?_ ?_
   ·skip
    refine WL.call rfl rfl rfl rfl rfl func110 rfl (by kernel_rfl) (Cr.Al (h4.below hS).cat e.table) ?_;rintro _ wb ⟨fv,rfl,ho,oR⟩;refine⟨_,rfl,?_⟩;refine iO ?_
    (refine js 7 rfl (q:=?_);refine js 8 rfl (q:=?_);refine js 9 rfl (q:=?_))
    refine iI 10 ?_;refine ix (z:=.agg Cr.qP.toArray) Cr.xa fun g9 wc f9=>?_;refine iO ?_;refine iI 11 ?_;refine ir f9.blk (Cr.pw (Cr.iK.one ho)) ?_;obtain⟨vf,bf,-,-⟩:=mh [Value.int .i64 (Cat.ju s.cat e.table).1,.string (Cat.ju s.cat e.table).2.1.name,.bool (Cat.ju s.cat e.table).2.1.dropped,fv] oR f9;replace bf:=hS.iR bf;refine iO ?_
    (refine js 12 rfl (q:=?_))
    refine im ?_;refine gY ?_;exact WQ.meet g9 iW ⟨bf,vf.cell 2 iz⟩
   ·skip
    refine ix (z:=.agg Cr.qP.toArray) Cr.xa fun g9 wc f9=>?_;have uJ:=hS.iR f9.below;refine km uJ ?_;refine iI 6 ?_;refine WL.call rfl rfl rfl rfl rfl func110 rfl (by kernel_rfl) (Cr.Al (h4.below uJ).cat e.table) ?_;rintro _ wb ⟨fv,rfl,ho,oR⟩;refine⟨_,rfl,?_⟩;refine iO ?_
    (refine js 7 rfl (q:=?_);refine js 8 rfl (q:=?_);refine js 9 rfl (q:=?_))
    refine iI 11 ?_;have v9:=h_.below f9.blk oR f9.blk.lt;refine ir v9 (Cr.pw (Cr.iK.one ho)) ?_;have vf:=v9.setRow [Value.int .i64 (Cat.ju s.cat e.table).1,.string (Cat.ju s.cat e.table).2.1.name,.bool (Cat.ju s.cat e.table).2.1.dropped,fv];have Zm:=f9.eq;have hgz:=hS.size;have bf:=(Cr.kC (K:=fun x=>x<w4.heap.size) (g:=g9) (ib.ic (uJ.iR oR)) (fun hh=>by omega) [Value.int .i64 (Cat.ju s.cat e.table).1,.string (Cat.ju s.cat e.table).2.1.name,.bool (Cat.ju s.cat e.table).2.1.dropped,fv].toArray).below;refine iO ?_
    (refine js 12 rfl (q:=?_))
    refine im ?_;refine gY ?_;exact WQ.meet g9 iW ⟨bf,vf.cell 2 iz⟩
  rintro g9 w5 ⟨b5,cd⟩;have h5:=h4.below b5;have E5:=E4.ij (ib.ic b5) D5;have B5:lM wK g4 w5 b (.slice (some ⟨bb,bo,none⟩) b.iv.length cap):=⟨h_.below B4.blk b5 Wu,mN⟩;have aiu:=abk.ij (O':=E) (ib.ic b5) (fun b _ h=>h) (fun b h=>h);have z5:=b5.size;have K5:=K4.trans ((ib.ic b5).mono fun x (hx:x<w.heap.size /\ ¬M x)=>(by omega:x<w4.heap.size));have Vu:=h_.lt B5.blk;have yB:=h_.lt E5.blk;clear h4 E4 B4 abk akF b5 cp4 K4 ek;generalize (Cat.ju s.cat e.table).2.2=code;generalize (Cat.ju s.cat e.table).2.1.dropped=dr at cd ⊢;have bad:∀ {c9:Prop}[Decidable c9] {s2:Int × St}{wx:World},iB w5 wx -> c9 -> sZ w rb M D f (if c9 then((3:Int),s) else s2).1 (if c9 then((3:Int),s) else s2).2 (N+1) (.returned (Iq 3)) wx:=fun hx hc=>by
   rw[if_pos hc];exact sZ.of (p_.mono ⟨_,_,_,_,_,h5.below hx⟩ gZ hN) (K5.trans ((ib.ic hx).mono fun x (hx:x<w.heap.size /\ ¬M x)=>(by omega:x<w5.heap.size))) SA rfl rfl
  by_cases c9:code=0
  case neg=>
   refine gY ?_;exact g_ (bad (Below.refl _ _) (.inl c9))
  case pos=>
  cases dr with
  | true=>
   refine iu ?_;exact g_ (bad (Below.refl _ _) (.inr (.inl rfl)))
  | false=>
  have ev:=E5.iZ;have et:=E5.table;have ed:=E5.doc;have c1:=h5.vb.cell 1 iz;simp only[ax,al] at c1;have GM:=h5.lt rb (.inl h5.tR);have kU:=ox h5.rows;obtain⟨Lu,J3,rfl,-⟩:=id kU;have hfit:fits s e=if e.iZ=0 then decide (e.doc=next s e.table) else match(of s.rows (e.table,e.doc)).getLast? with|some r=>!r.del && decide (r.iZ+1=e.iZ)|none=>false:=rfl
  have arc:=h5.ok;refine iu ?_;refine WC.sa (fun _:Unit=>[(0,iF rb),(2,Iq k),(4,iF g4),(7,iF g7)]) (fun _ w'=>iB w5 w' /\ fits s e=true) rfl ?_ ?_
  ·by_cases HD:e.iZ=0
   case pos=>
    rw[if_pos HD] at hfit;refine WC.qg rfl HD ?_;refine iu ?_;refine WC.drawn 6 (iB w5) fun wa hd=>?_;have hS:iB w5 wa:=hd.below _;refine iq [0] hS ?_;refine ik 1 [6] (jZ yB ed) hS ?_;refine iq [2,3] hS ?_;refine ik 4 [5,6] (jZ yB et) hS ?_;refine iI 5 ?_;refine WL.call rfl rfl rfl rfl rfl func105 rfl (by kernel_rfl) (MI ⟨_,_,_,_,_,h5.below hS⟩ e.table) ?_;rintro _ wb ⟨rfl,oR⟩;refine⟨_,rfl,?_⟩;replace hS:=hS.iR oR;refine km hS ?_;refine iI 6 ?_;refine iA ?_;refine iO ?_;refine im ?_
    by_cases NA:e.doc=next s e.table
    ·refine gY ?_
     refine WC.pE rfl (fun q=>q NA) ?_;refine gY ?_;exact WQ.meet () iW ⟨hS,by rw[hfit,decide_eq_true NA]⟩
    ·refine gY ?_
     refine WC.qg rfl NA ?_;refine gY ?_;exact g_ (bad hS (.inr (.inr (by rw[hfit,decide_eq_false NA]))))
   case neg=>
    rw[if_neg HD] at hfit;refine WC.pE rfl HD ?_;refine iu ?_;refine WL.call rfl rfl rfl rfl rfl func111 rfl (by kernel_rfl) (YZ ⟨_,_,_,_,_,h5⟩ e.table e.doc) ?_;rintro _ w5 ⟨rfl,o,rfl,ho⟩;refine⟨_,rfl,?_⟩;cases o with
    | none=>
     simp only at ho;rw[ho] at hfit;have z:I8 none = -1:=rfl;rw[z];refine gY ?_;refine WC.drawn 25 (iB w5) fun wa hd=>?_;have hS:iB w5 wa:=hd.below _;refine iq [0,1,2,3,4,5] hS ?_;refine iq [6] hS ?_;refine iq [7] hS ?_;refine iq [8] hS ?_;refine iq [9] hS ?_;refine iq [10] hS ?_;refine iq [11,12,13,14,15] hS ?_;refine iq [16] hS ?_;refine iq [17] hS ?_;refine iq [18] hS ?_;refine iq [19] hS ?_;refine iq [20] hS ?_;refine iq [21,22] hS ?_;refine iq [23] hS ?_;refine iq [24] hS ?_;refine iI 25 ?_;refine iA ?_;refine iO ?_;refine im ?_;refine gY ?_;exact g_ (bad hS (.inr (.inr hfit)))
    | some i=>
     simp only at ho;obtain⟨hi,qW⟩:=ho;rw[qW] at hfit;simp only at hfit;have z:I8 (some i)=(i:Int):=rfl;rw[z];obtain⟨b9,o9,pr,CZ,es,qU,-,R9,-,Da,-⟩:=mw kU hi;obtain⟨rfl,rfl⟩:Lu=some ⟨b9,o9,none⟩ /\ J3=pr:=by simpa using es
     clear es;have tw:s.rows.getD i jf∈s.rows:=by rw[jW hi];exact aN hi
     generalize s.rows.getD i jf=r at R9 hfit Da tw;have ang:jX r.iZ /\ r.iZ <= 1000000:=⟨Da.iZ,by have:=h5.wS _ tw;omega⟩;cases Ae:r.del with
     | true=>
      have AV:=R9.del;rw[Ae] at hfit AV;refine gY ?_;refine WC.drawn 25 (iB w5) fun wa hd=>?_;have hS:iB w5 wa:=hd.below _;refine iq [0,1,2,3,4,5] hS ?_;refine ik 6 [8,9,10,11,12,13,14,15,16,17,18,19,20,21,22,23,24,25] (jZ GM c1) hS ?_;refine iq [7] hS ?_;refine jV 8 i (o9+i*14) hi (.inr hS) ?_;refine iq [9] hS ?_;refine ik 10 [11,12,13,14,15,16,17,18,19,20,21,22,23,24,25] (jZ qU AV) hS ?_;refine iq [11,12,13,14,15] hS ?_;refine iq [16] hS ?_;refine iq [17] hS ?_;refine iq [18] hS ?_;refine iq [19] hS ?_;refine iq [20] hS ?_;refine iq [21,22] hS ?_;refine iq [23] hS ?_;refine iq [24] hS ?_;refine iI 25 ?_;refine iA ?_;refine iO ?_;refine im ?_;refine gY ?_;exact g_ (bad hS (.inr (.inr hfit)))
     | false=>
      have AV:=R9.del;rw[Ae] at hfit AV;obtain⟨⟨rv1,-⟩,rv2⟩:=ang;have aa6:IntKind.wrap .i64 (r.iZ+1)=r.iZ+1:=bG _ gZ;refine gY ?_;refine WC.drawn 25 (iB w5) fun wa hd=>?_;have hS:iB w5 wa:=hd.below _;refine iq [0,1,2,3,4,5] hS ?_;refine ik 6 [8,9,10,11,12,13,14,15,16,17,18,19,20,21,22,23,24,25] (jZ GM c1) hS ?_;refine iq [7] hS ?_;refine jV 8 i (o9+i*14) hi (.inr hS) ?_;refine iq [9] hS ?_;refine ik 10 [11,12,13,14,15,16,17,18,19,20,21,22,23,24,25] (jZ qU AV) hS ?_;refine iq [11,12,13,14,15] hS ?_;refine ik 16 [18,19,20,21,24,25] (jZ GM c1) hS ?_;refine iq [17] hS ?_;refine jV 18 i (o9+i*14) hi (.inr hS) ?_;refine iq [19] hS ?_;refine ik 20 [21,24,25] (fun wx hx=>(hx.cell (p:=⟨b9,o9+i*14+2,none⟩) qU).trans R9.iZ) hS ?_;refine iq [21,22] hS ?_;refine ik 23 [24,25] (jZ yB ev) hS ?_;refine iq [24] hS ?_;refine iI 25 ?_;refine iA ?_;refine iO ?_;refine im ?_
      by_cases HC:r.iZ+1=e.iZ
      ·refine gY ?_
       refine WC.pE rfl (fun q=>q HC) ?_;refine gY ?_;exact WQ.meet () iW ⟨hS,by rw[hfit,decide_eq_true HC];rfl⟩
      ·refine gY ?_
       refine WC.qg rfl HC ?_;refine gY ?_;exact g_ (bad hS (.inr (.inr (by rw[hfit,decide_eq_false HC];rfl))))
  rintro⟨⟩ w6 ⟨b6,VA⟩;rw[if_neg (by rw[VA];simp[c9])];have Zu:e.iZ <= s.rows.length+1:=by
   rw[hfit] at VA
   by_cases HD:e.iZ=0
   ·omega
   ·rw[if_neg HD] at VA
    cases qW:(of s.rows (e.table,e.doc)).getLast? with
    | none=>rw[qW] at VA;cases VA
    | some r=>
     rw[qW] at VA;simp only[aA,decide_eq_true_eq] at VA;have:=h5.wS r (bQ.1 (fo qW)).1;omega
  have h6:=h5.below b6;have E6:=E5.ij (ib.ic b6) yB;have B6:lM wK g4 w6 b (.slice (some ⟨bb,bo,none⟩) b.iv.length cap):=⟨h_.below B5.blk b6 Vu,mN⟩;have apG:=aiu.ij (O':=E) (ib.ic b6) (fun b _ h=>h) (fun b h=>h);have z6:=b6.size;have K6:=K5.trans ((ib.ic b6).mono fun x (hx:x<w.heap.size /\ ¬M x)=>(by omega:x<w5.heap.size));have Wu:=h_.lt B6.blk;have D5:=h_.lt E6.blk;have c16:=h6.vb.cell 1 iz;simp only[ax,al] at c16;have aex:=h6.lt rb (.inl h6.tR);clear h5 E5 B5 aiu K5 bad ev et ed c1 kU b6 cd Vu yB GM;refine iu ?_;refine WC.drawn 26 (iB w6) fun wa hd=>?_;have hS:iB w6 wa:=hd.below _;refine iq [0,1,2,3] hS ?_;refine ik 4 [26,27,28,29] (jZ aex c16) hS ?_;refine iq [5] hS ?_;refine ik 6 [24,25,26,27,28,29] (fun wx hx=>(hx.cell (p:=⟨g7,2,none⟩) D5).trans E6.table) hS ?_;refine iq [7] hS ?_;refine ik 8 [24,25,26,27,28,29] (fun wx hx=>(hx.cell (p:=⟨g7,3,none⟩) D5).trans E6.doc) hS ?_;refine iq [9] hS ?_;refine ik 10 [24,25,26,27,28,29] (fun wx hx=>(hx.cell (p:=⟨g7,4,none⟩) D5).trans E6.iZ) hS ?_;refine iq [11] hS ?_;refine jG (hm:=j7) 12 [13,24,25,26,27,28,29] (fun wx hx=>(E6.ij (ib.ic hx) D5).data) hS ?_;refine iq [14] hS ?_;refine ik 15 [24,25,26,27,28,29] (fun wx hx=>(hx.cell (p:=⟨g7,43,none⟩) D5).trans E6.gone) hS ?_;refine iq [16] hS ?_;refine ik 17 [18,24,25,26,27,28,29] (fun wx hx=>(hx.cell (p:=⟨g7,0,none⟩) D5).trans E6.kind) hS ?_;refine iq [18,19] hS ?_;refine ik 20 [24,25,26,27,28,29] (fun wx hx=>(hx.cell (p:=⟨g4,0,none⟩) Wu).trans B6.index) hS ?_;refine iq [21,22] hS ?_;refine ik 23 [24,25,26,27,28,29] (fun wx hx=>(hx.cell (p:=⟨g4,1,none⟩) Wu).trans B6.time) hS ?_;refine iI 13 ?_;refine WL.call rfl rfl rfl rfl rfl func112 rfl (by kernel_rfl) ((yG (B:=3000) gZ f (apG.ij (O':=E) (ib.ic hS) (fun b _ h=>h) (fun b h=>h)).td lX)) ?_;rintro _ wb ⟨oR,yo,rfl,zq⟩;refine⟨_,rfl,?_⟩;obtain⟨sL,yL,xP,xD,qe,py,rfl⟩:=yQ zq;have cb:=hS.iR oR;refine km cb ?_;have rP:=hS;have hS:=cb;refine Cr.uh (jQ (rowOf e b.index k b.time) [Iq e.data.k,Iq e.data.n,Iq e.data.s,.string e.data.t,.slice sL xP qe,.slice yL xD py]) 24 rfl (by kernel_rfl) rfl rfl (fun _ _ _ _ _ h=>h) rfl rfl rfl (ZZ _ _ _ _ _ _ _ _ _ _ _ _ _ _ _ _ _ _) (.inr hS) ?_;refine iI 25 ?_;refine jR (cs:=(jQ (rowOf e b.index k b.time) [Iq e.data.k,Iq e.data.n,Iq e.data.s,.string e.data.t,.slice sL xP qe,.slice yL xD py])) fun gl w8 f8=>?_;have c8:=cb.iR f8.below;refine km c8 ?_;refine iI 26 ?_;have apk:=zq.there.ij (O':=fun b=>D b \/ (wa.heap.size <= b /\ b<wb.heap.size)) (ib.ic f8.below) (fun b _ h=>h) (fun b h=>.inr h);have xC:jk QT 14 jf (lC (fun b=>D b \/ (wa.heap.size <= b /\ b<wb.heap.size)) f w8) (fun b=>M b \/ (Rn.heap.size <= b /\ b<w4.heap.size)) w8 (.slice Lu s.rows.length J3) s.rows:=Go.Proofs.YtlenklobbngopaaGreat.K.jk.ij h6.rows (ib.ic c8) (fun g hg=>h6.lt g (.inl (h6.rows.own hg))) (fun _ h=>h) fun _ _ hp=>hp.ij (ib.ic c8) (fun x hx _=>h6.lt x (.inr hx)) (fun _ h=>.inl h);have I3:lC (fun b=>D b \/ (wa.heap.size <= b /\ b<wb.heap.size)) f w8 (rowOf e b.index k b.time) (jQ (rowOf e b.index k b.time) [Iq e.data.k,Iq e.data.n,Iq e.data.s,.string e.data.t,.slice sL xP qe,.slice yL xD py]):=⟨_,rfl,apk,⟨El.2.1,El.2.2.1,El.2.2.2.1,Vi,⟨by show(-9223372036854775808:Int) <= k;omega,by show(k:Int) <= _;omega⟩,XQ⟩,lX⟩;refine WL.snoc rfl rfl rfl rfl Oo rfl xC rfl f8.blk I3.one I3.len I3 gZ gZ fun rv9 w9 DM lL=>?_;refine iO ?_
  (refine js 27 rfl (q:=?_);refine js 28 rfl (q:=?_))
  refine iI 29 ?_;have c19:=(lL.1.cell (p:=⟨rb,1,none⟩) ⟨by have:=c8.size;show rb<w8.heap.size;omega,fun q=>h6.ne.1 q⟩).trans ((c8.cell (p:=⟨rb,1,none⟩) aex).trans c16);refine iD (hv:=(K.jk.one DM)) c19 (h_.free (h_.ij (h_.below h6.vb c8 aex) lL.1 ⟨by have:=c8.size;omega,fun q=>h6.ne.1 q⟩) 1) ?_;refine iO ?_;refine im ?_;have zb:=c8.size;have z06:=rP.size;have z0b:=oR.size;have zb8:=f8.below.size;have z89:=lL.1.size;have l6:=h6.lt;have FO:ib (fun b=>b<w6.heap.size /\ (Value.slice Lu s.rows.length J3).ownBlock≠some b) w6 w9:=(ib.ic c8).mono (fun b hb=>hb.1) |>.trans (lL.1.mono fun b hb=>⟨gZ,hb.2⟩);have ahF:∀g,(Value.slice Lu s.rows.length J3).ownBlock=some g -> (M g \/ (Rn.heap.size <= g /\ g<w4.heap.size)):=fun g hg=>h6.rows.own hg;have oe:=h6.push (M':=fun b=>(M b \/ (Rn.heap.size <= b /\ b<w4.heap.size)) \/ (w8.heap.size <= b /\ b<w9.heap.size)) (D':=fun b=>D b \/ (wa.heap.size <= b /\ b<wb.heap.size)) (r:=rowOf e b.index k b.time) hN FO (by
    refine Go.Proofs.YtlenklobbngopaaGreat.K.jk.ij DM (K:=fun _=>True) (w':=w9) ⟨rfl,rfl,rfl,af _,fun _ _=>rfl⟩ (fun _ _=>trivial) (fun _ h=>h) (fun _ _ h=>h) |> fun hx=>?_;obtain⟨lO,q1,q2,q3⟩:=hx;refine⟨lO,q1,fun j hj=>⟨(q2 j hj).1,(q2 j hj).2.ij lL.1 (fun x hx _=>⟨?_,fun hh=>?_⟩) (fun _ h=>h)⟩,q3.1,q3.2.1,fun g hg=>?_⟩
    ·rcases hx with hx|hx
     ·have:=l6 x (.inr hx);omega
     ·omega
    ·have q:=ahF x hh
     rcases hx with hx|hx
     ·exact h6.sep x q hx
     ·have:=l6 x (.inl q);omega
    ·rcases q3.own hg with q|q
     ·exact .inl q
     ·exact .inr ⟨gZ,by have:=q3.lt hg;omega⟩)
   (fun b hb=>.inl hb) (fun b hb=>.inl hb) (fun x hx=>by
    rcases hx with(hx|hx)|(hx|hx)
    ·have:=l6 x (.inl hx);omega
    ·exact hx.2
    ·have:=l6 x (.inr hx);omega
    ·omega) (fun x hx hd=>by
    rcases hx with hx|hx
    ·rcases hd with hd|hd
     ·exact h6.sep x hx hd
     ·have:=l6 x (.inl hx);omega
    ·rcases hd with hd|hd
     ·have:=l6 x (.inr hd);omega
     ·omega) (fun g hg hh=>by
    rcases lL.2 g hg with q|q
    ·exact h6.Fq g q hh
    ·have:=l6 g (.inl (h6.rn g hh));omega) Zu
  refine gY ?_;exact g_ ⟨_,_,rfl,⟨_,_,_,_,_,oe⟩,ib.setCell (K6.trans (FO.mono fun x hx=>⟨gZ,fun hh=>by
    rcases ahF x hh with q|q
    ·exact hx.2 q
    ·omega⟩)) (fun hh=>hh.2 h.tR) _,fun x hx=>hx.elim (fun q=>SA x q) (fun q=>.inr gZ),fun x hx=>hx.elim .inl (fun q=>.inr gZ)⟩
 case neg=>
 have h5k:∀ {kk:Int},kk=e.kind -> True:=fun _=>trivial;clear h5k
 by_cases h44:e.kind=4
 case pos=>
  obtain⟨-,hL⟩:=BV (L:=s.cat) (kind:=e.kind) (txt:=e.text) (tbl:=e.table) gZ gZ gZ;rw[hL] at h4;change RV w4 rb (fun b=>M b \/ (Rn.heap.size <= b /\ b<w4.heap.size)) D f s cp O4 rv mb kc N at h4;have hR:entR s e b.index k b.time=match s.rows.findIdx? (wM s (e.ab,e.ae)) with|some i=>(0,{ s with rows:=s.rows.set i (shut (s.rows.getD i jf)),red:=vH s.red (e.ab,e.ae)})|none=>(3,s):=by
   unfold entR;rw[if_neg (by simpa using DI),if_neg Fp,if_pos h44];rfl
  rw[hR,DI];clear hR DI hAc hL;have c1:=h4.vb.cell 1 iz;have c3:=h4.vb.cell 3 iz;simp only[ax,al] at c1 c3;have GM:=h4.lt rb (.inl h4.tR);have yB:=h_.lt E4.blk;have kU:=ox h4.rows;obtain⟨Lu,J3,rfl,-⟩:=id kU;have eab:=E4.ab;have eae:=E4.ae;have qW:∀ {wx:World},iB w4 wx -> (Instr.lookup 55 (.map (some mb)) (lR (e.ab,e.ae)) false).run prog wx=.ok ((uR s.red (e.ab,e.ae)).getD (Iq 0)) wx:=fun hx=>
   (h4.below hx).red.look tY underlying55 (z:=Iq 0) (by kernel_rfl) (AE (x:=(e.ab,e.ae)) El.2.2.2.2.1 El.2.2.2.2.2)
  have arc:=h4.ok;refine iu ?_;refine WC.loop (fun i:Nat=>[(0,iF rb),(7,iF g7),(12,Iq i)]) (fun i w'=>i <= s.rows.length /\ iB w4 w' /\ ∀j,j<i -> wM s (e.ab,e.ae) (s.rows.getD j jf)=false) (fun i=>s.rows.length - i) 0 iW ⟨aw _,Below.refl _ _,fun j hj=>absurd hj (cR j)⟩ ?_;rintro i wl ⟨hi,bl,mC⟩;have c1l:=(bl.cell (p:=⟨rb,1,none⟩) GM).trans c1
  by_cases GH:i<s.rows.length
  case neg=>
   obtain rfl:i=s.rows.length:=gZ;rw[Iv mC];refine iu ?_;exact g_ (sZ.of (p_.mono ⟨_,_,_,_,_,h4.below bl⟩ gZ hN) (K4.trans ((ib.ic bl).mono fun x (hx:x<w.heap.size /\ ¬M x)=>(by omega:x<w4.heap.size))) SA rfl rfl)
  case pos=>
  obtain⟨b9,o9,pr,CZ,es,qU,-,R9,p5,-⟩:=mw kU GH;obtain⟨rfl,rfl⟩:Lu=some ⟨b9,o9,none⟩ /\ J3=pr:=by simpa using es
  clear es;obtain⟨r,hr⟩:∃r,r=s.rows.getD i jf:=⟨_,rfl⟩;rw[<- hr] at R9 p5;have G3:wM s (e.ab,e.ae) r=(decide (r.blk=e.ab) && decide (r.ni=e.ae) && !r.del && !s.red (e.ab,e.ae)):=rfl;have LV:wM s (e.ab,e.ae) r=false -> ∀j,j<i+1 -> wM s (e.ab,e.ae) (s.rows.getD j jf)=false:=fun hh j hj=>by
   rcases aO j i with h'|h'
   ·exact mC j h'
   ·obtain rfl:j=i:=gZ
    rw[<- hr];exact hh
  refine iu ?_;refine iG i (o9+i*14) GH ?_;refine iu ?_
  by_cases q1:r.blk=e.ab
  case neg=>
   refine WC.drawn 34 (iB w4) fun wa hd=>?_;have hS:=bl.trans (hd.below _);refine iq [0,1,2] hS ?_;refine ik 3 [7,8,9,10,11,12,13,14,15,16,17,18,19,20,21,22,23,24,25,26,27,28,29,30,31,32,33,34] (fun wx hx=>(hx.cell (p:=⟨b9,o9+i*14+11,none⟩) qU).trans R9.blk) hS ?_;refine iq [4,5] hS ?_;refine ik 6 [7,8,9,10,11,12,13,14,15,16,17,18,19,20,21,22,23,24,25,26,27,28,29,30,31,32,33,34] (jZ yB eab) hS ?_;refine iq [7,8,9,10,11] hS ?_;refine iq [12] hS ?_;refine iq [13,14] hS ?_;refine iq [15] hS ?_;refine iq [16,17,18,19,20,21] hS ?_;refine iq [22] hS ?_;refine iq [23,24,25,26,27,28] hS ?_;refine iq [29] hS ?_;refine iq [30] hS ?_;refine iq [31] hS ?_;refine iq [32] hS ?_;refine iq [33] hS ?_;refine iI 34 ?_;refine iA ?_;refine iO ?_;refine im ?_;refine gY ?_;exact WQ.again (i+1) iW ⟨GH,hS,LV (by rw[G3,decide_eq_false q1];rfl)⟩ gZ
  case pos=>
  by_cases q2:r.ni=e.ae
  case neg=>
   refine WC.drawn 34 (iB w4) fun wa hd=>?_;have hS:=bl.trans (hd.below _);refine iq [0,1,2] hS ?_;refine ik 3 [7,8,9,10,11,12,13,14,15,16,17,18,19,20,21,22,23,24,25,26,27,28,29,30,31,32,33,34] (fun wx hx=>(hx.cell (p:=⟨b9,o9+i*14+11,none⟩) qU).trans R9.blk) hS ?_;refine iq [4,5] hS ?_;refine ik 6 [7,8,9,10,11,12,13,14,15,16,17,18,19,20,21,22,23,24,25,26,27,28,29,30,31,32,33,34] (jZ yB eab) hS ?_;refine iq [7,8,9,10,11] hS ?_;refine ik 12 [16,17,18,19,20,21,22,23,24,25,26,27,28,29,30,31,32,33,34] (fun wx hx=>(hx.cell (p:=⟨b9,o9+i*14+12,none⟩) qU).trans R9.ni) hS ?_;refine iq [13,14] hS ?_;refine ik 15 [16,17,18,19,20,21,22,23,24,25,26,27,28,29,30,31,32,33,34] (jZ yB eae) hS ?_;refine iq [16,17,18,19,20,21] hS ?_;refine iq [22] hS ?_;refine iq [23,24,25,26,27,28] hS ?_;refine iq [29] hS ?_;refine iq [30] hS ?_;refine iq [31] hS ?_;refine iq [32] hS ?_;refine iq [33] hS ?_;refine iI 34 ?_;refine iA ?_;refine iO ?_;refine im ?_;refine gY ?_;exact WQ.again (i+1) iW ⟨GH,hS,LV (by rw[G3,decide_eq_false q2];simp)⟩ gZ
  case pos=>
  have AV:=R9.del;cases Ae:r.del with
  | true=>
   rw[Ae] at AV;refine WC.drawn 34 (iB w4) fun wa hd=>?_;have hS:=bl.trans (hd.below _);refine iq [0,1,2] hS ?_;refine ik 3 [7,8,9,10,11,12,13,14,15,16,17,18,19,20,21,22,23,24,25,26,27,28,29,30,31,32,33,34] (fun wx hx=>(hx.cell (p:=⟨b9,o9+i*14+11,none⟩) qU).trans R9.blk) hS ?_;refine iq [4,5] hS ?_;refine ik 6 [7,8,9,10,11,12,13,14,15,16,17,18,19,20,21,22,23,24,25,26,27,28,29,30,31,32,33,34] (jZ yB eab) hS ?_;refine iq [7,8,9,10,11] hS ?_;refine ik 12 [16,17,18,19,20,21,22,23,24,25,26,27,28,29,30,31,32,33,34] (fun wx hx=>(hx.cell (p:=⟨b9,o9+i*14+12,none⟩) qU).trans R9.ni) hS ?_;refine iq [13,14] hS ?_;refine ik 15 [16,17,18,19,20,21,22,23,24,25,26,27,28,29,30,31,32,33,34] (jZ yB eae) hS ?_;refine iq [16,17,18,19,20,21] hS ?_;refine ik 22 [23,24,25,26,27,28,29,30,31,32,33,34] (jZ qU AV) hS ?_;refine iq [23,24,25,26,27,28] hS ?_;refine iq [29] hS ?_;refine iq [30] hS ?_;refine iq [31] hS ?_;refine iq [32] hS ?_;refine iq [33] hS ?_;refine iI 34 ?_;refine iA ?_;refine iO ?_;refine im ?_;refine gY ?_;exact WQ.again (i+1) iW ⟨GH,hS,LV (by rw[G3,Ae];simp)⟩ gZ
  | false=>
  rw[Ae] at AV;cases DH:s.red (e.ab,e.ae) with
  | true=>
   have ae3:∀ {wx:World},iB w4 wx -> (Instr.lookup 55 (.map (some mb)) (lR (e.ab,e.ae)) false).run prog wx=.ok (Iq 1) wx:=fun hx=>by rw[qW hx];unfold uR;rw[DH];rfl
   refine WC.drawn 34 (iB w4) fun wa hd=>?_;have hS:=bl.trans (hd.below _);refine iq [0,1,2] hS ?_;refine ik 3 [7,8,9,10,11,12,13,14,15,16,17,18,19,20,21,22,23,24,25,26,27,28,29,30,31,32,33,34] (fun wx hx=>(hx.cell (p:=⟨b9,o9+i*14+11,none⟩) qU).trans R9.blk) hS ?_;refine iq [4,5] hS ?_;refine ik 6 [7,8,9,10,11,12,13,14,15,16,17,18,19,20,21,22,23,24,25,26,27,28,29,30,31,32,33,34] (jZ yB eab) hS ?_;refine iq [7,8,9,10,11] hS ?_;refine ik 12 [16,17,18,19,20,21,22,23,24,25,26,27,28,29,30,31,32,33,34] (fun wx hx=>(hx.cell (p:=⟨b9,o9+i*14+12,none⟩) qU).trans R9.ni) hS ?_;refine iq [13,14] hS ?_;refine ik 15 [16,17,18,19,20,21,22,23,24,25,26,27,28,29,30,31,32,33,34] (jZ yB eae) hS ?_;refine iq [16,17,18,19,20,21] hS ?_;refine ik 22 [23,24,25,26,27,28,29,30,31,32,33,34] (jZ qU AV) hS ?_;refine iq [23,24,25,26,27,28] hS ?_;refine ik 29 [32,33,34] (jZ GM c3) hS ?_;refine iq [30] hS ?_;refine jG 31 [32,33,34] (fun wx hx=>(E4.ij (ib.ic hx) yB).yV) hS ?_;refine WD.look 32 [33,34] rfl (by kernel_rfl) rfl rfl (fun _ _ _ _ _ h=>h) rfl rfl rfl rfl (fun wx hx=>ae3 hx) hS ?_;refine iq [33] hS ?_;refine iI 34 ?_;refine iA ?_;refine iO ?_;refine im ?_;refine gY ?_;exact WQ.again (i+1) iW ⟨GH,hS,LV (by rw[G3,DH];simp)⟩ gZ
  | false=>
  have ae3:∀ {wx:World},iB w4 wx -> (Instr.lookup 55 (.map (some mb)) (lR (e.ab,e.ae)) false).run prog wx=.ok (Iq 0) wx:=fun hx=>by rw[qW hx];unfold uR;rw[DH];rfl
  refine WC.drawn 34 (iB w4) fun wa hd=>?_;have hS:=bl.trans (hd.below _);refine iq [0,1,2] hS ?_;refine ik 3 [7,8,9,10,11,12,13,14,15,16,17,18,19,20,21,22,23,24,25,26,27,28,29,30,31,32,33,34] (fun wx hx=>(hx.cell (p:=⟨b9,o9+i*14+11,none⟩) qU).trans R9.blk) hS ?_;refine iq [4,5] hS ?_;refine ik 6 [7,8,9,10,11,12,13,14,15,16,17,18,19,20,21,22,23,24,25,26,27,28,29,30,31,32,33,34] (jZ yB eab) hS ?_;refine iq [7,8,9,10,11] hS ?_;refine ik 12 [16,17,18,19,20,21,22,23,24,25,26,27,28,29,30,31,32,33,34] (fun wx hx=>(hx.cell (p:=⟨b9,o9+i*14+12,none⟩) qU).trans R9.ni) hS ?_;refine iq [13,14] hS ?_;refine ik 15 [16,17,18,19,20,21,22,23,24,25,26,27,28,29,30,31,32,33,34] (jZ yB eae) hS ?_;refine iq [16,17,18,19,20,21] hS ?_;refine ik 22 [23,24,25,26,27,28,29,30,31,32,33,34] (jZ qU AV) hS ?_;refine iq [23,24,25,26,27,28] hS ?_;refine ik 29 [32,33,34] (jZ GM c3) hS ?_;refine iq [30] hS ?_;refine jG 31 [32,33,34] (fun wx hx=>(E4.ij (ib.ic hx) yB).yV) hS ?_;refine WD.look 32 [33,34] rfl (by kernel_rfl) rfl rfl (fun _ _ _ _ _ h=>h) rfl rfl rfl rfl (fun wx hx=>ae3 hx) hS ?_;refine iq [33] hS ?_;refine iI 34 ?_;refine iA ?_;refine iO ?_;refine im ?_;rw[Ff GH mC (by rw[<- hr,G3,Ae,DH,decide_eq_true q1,decide_eq_true q2];rfl)];have ha:=h4.below hS;obtain⟨g,abr,es,hMg,lgg,A,B,C,F8,XV,hBl,hPB,aa1⟩:=TE ha.rows GH;obtain⟨⟨rfl,rfl⟩,rfl⟩:(b9=g /\ o9=0) /\ J3=abr:=by simpa using es
  clear es;obtain⟨dB,rfl,Yh,okB,smB⟩:=hPB;obtain⟨wR,C0,n1,n2,qe,py,rfl⟩:=yQ Yh;rw[<- hr] at Yh okB F8 hBl;have G9:b9≠mb:=fun q=>ha.ne.2 (by rw[q];rfl);have aop:g7<wa.heap.size:=by have:=hS.size;omega
  have E7:=E4.ij (ib.ic hS) yB;have aol:=ha.lt rb (.inl ha.tR);have c3a:=ha.vb.cell 3 iz;simp only[ax,al] at c3a;have Ka:=K4.trans ((ib.ic hS).mono fun x (hx:x<w.heap.size /\ ¬M x)=>(by omega:x<w4.heap.size));refine gY ?_;refine WC.drawn 6 (iB wa) fun wd qY=>?_;have ph:=hS;replace hS:iB wa wd:=qY.below _;refine iq [0,1,2] hS ?_;refine ik 3 [6] (jZ aol c3a) hS ?_;refine iq [4] hS ?_;refine jG 5 [6] (fun wx hx=>(E7.ij (ib.ic hx) aop).yV) hS ?_;refine iI 6 ?_;obtain⟨wc,kz,hmf,U0⟩:=MF.put rE (ha.below hS).red tY underlying55 (by unfold maxLen;have:=ha.ok;omega) (key:=(e.ab,e.ae)) (Iq 1) (AE (x:=(e.ab,e.ae)) El.2.2.2.2.1 El.2.2.2.2.2);rw[RS] at hmf;refine WL.kv rfl rfl rfl rfl rfl rfl kz ?_;refine iO ?_;refine im ?_;have Cv:=(h_.below F8 hS lgg).ij U0 G9;refine WQ.then rfl ?_;refine WC.as 13 (.pointer (some ⟨b9,i*14,none⟩)) rfl (by rw[a_]) ?_;have ES:(jQ r [Iq r.data.k,Iq r.data.n,Iq r.data.s,.string r.data.t,.slice wR n1 qe,.slice C0 n2 py]).length=14:=rfl;have tD:=Cv.set (i*14+9) (.bool true);rw[QS _ XV (by rw[ES];omega)] at tD;have abJ:wc.cell? ⟨b9,i*14+9,none⟩=some ((A++(jQ r [Iq r.data.k,Iq r.data.n,Iq r.data.s,.string r.data.t,.slice wR n1 qe,.slice C0 n2 py]++C)).getD (i*14+9) undef):=Cv.cell _ (by simp only[aa];rw[ES];omega);refine gY ?_;refine iD abJ (h_.free Cv _) ?_;refine gY ?_;refine iE iy (by kernel_rfl) ?_;refine gY ?_;refine WL.tN rfl rfl rfl rfl rfl rfl tD rfl (by simp only[aa,aC];rw[ES];omega) (mD (fun _=>True) 0 wc).one ?_;have su:=h_.setRow tD ((A++((jQ r [Iq r.data.k,Iq r.data.n,Iq r.data.s,.string r.data.t,.slice wR n1 qe,.slice C0 n2 py]).set 9 (.bool true)++C)).take (i*14+3)++iy++(A++((jQ r [Iq r.data.k,Iq r.data.n,Iq r.data.s,.string r.data.t,.slice wR n1 qe,.slice C0 n2 py]).set 9 (.bool true)++C)).drop (i*14+3+6));have Kb:=QL (A:=A) (B:=(jQ r [Iq r.data.k,Iq r.data.n,Iq r.data.s,.string r.data.t,.slice wR n1 qe,.slice C0 n2 py]).set 9 (.bool true)) (C:=C) (m:=iy) (x:=i*14) (off:=3) (k:=6) XV rfl (by rw[aC,ES];omega);rw[Mu] at Kb;obtain⟨row,ji⟩:∃row,row=(A++((jQ r [Iq r.data.k,Iq r.data.n,Iq r.data.s,.string r.data.t,.slice wR n1 qe,.slice C0 n2 py]).set 9 (.bool true)++C)).take (i*14+3)++iy++(A++((jQ r [Iq r.data.k,Iq r.data.n,Iq r.data.s,.string r.data.t,.slice wR n1 qe,.slice C0 n2 py]).set 9 (.bool true)++C)).drop (i*14+3+6):=⟨_,rfl⟩;rw[<- ji] at su Kb ⊢;have k2:ib (fun x=>x≠b9) wc ((wc.setCell ⟨b9,i*14+9,none⟩ (.bool true)).setRow b9 row.toArray):=Cr.kC ((ib.refl _ _).setCell iz _) iz _;generalize (wc.setCell ⟨b9,i*14+9,none⟩ (.bool true)).setRow b9 row.toArray=we at su k2 ⊢;rw[Kb] at su;have kae:ib (fun x=>x<wa.heap.size /\ x≠mb /\ x≠b9) wa we:=((ib.ic hS).mono fun x hx=>hx.1).trans ((U0.mono fun x hx=>hx.2.1).trans (k2.mono fun x hx=>hx.2.2));have hl:=ha.lt;have hfp:f≠0:=fun q=>by subst q;exact Yh.elim
  obtain⟨f',rfl⟩:∃f',f=f'+1:=⟨f - 1,gZ⟩;have HZ:=aa1 (w':=we) (P':=lC D (f'+1) we) (jQ (shut r) iy) (shut r) su rfl (lC.one (D:=D) (f:=f'+1) (w:=we) ⟨iy,rfl,mD D f' we,⟨okB.lj,okB.doc,okB.iZ,okB.blk,okB.ni,okB.pO⟩,DQ f'⟩) ⟨iy,rfl,mD D f' we,⟨okB.lj,okB.doc,okB.iZ,okB.blk,okB.ni,okB.pO⟩,DQ f'⟩
   (fun x cs hp=>hp.ij kae (fun y hy _=>⟨hl y (.inr hy),fun q=>ha.sep mb ha.FL (q ▸ hy),fun q=>ha.sep b9 hMg (q ▸ hy)⟩) (fun _ h=>h))
  rw[hr] at HZ;have oe:=(ha.below hS).ak8 (w':=we) (i:=i) (a:=(e.ab,e.ae)) hN (k2.mono (fun x hx=>fun q=>hx.2 (by rw[q];rfl)) |> fun k3=>(U0.mono fun x hx=>hx.1).trans k3) (hmf.ij k2 (fun q=>G9 q.symm)) HZ;refine gY ?_;exact g_ (sZ.of ⟨_,_,_,_,_,oe⟩ (Ka.trans (kae.mono fun x hx=>⟨by have:=ph.size;omega,fun q=>hx.2 (by rcases ha.FL with h'|h';exact q ▸ h';omega),fun q=>hx.2 (by rcases hMg with h'|h';exact q ▸ h';omega)⟩)) SA rfl rfl)
 case neg=>
  have hR:entR s e b.index k b.time=(0,{ s with cat:=Cat.mW s.cat e.kind e.text e.table }):=by
   unfold entR;rw[if_neg (by simpa using DI),if_neg Fp,if_neg h44]
  rw[hR,DI];refine iu ?_;exact g_ (sZ.of (p_.mono ⟨_,_,_,_,_,h4⟩ gZ hN) K4 SA rfl rfl)
end Vw
namespace K
theorem pL (n lo hi:Int) (w:World): Calls prog 106 #[Iq n,Iq lo,Iq hi] w fun e w'=>e=.returned (.bool (decide (lo <= n /\ n <= hi))) /\ w'=w:=by
 refine iY eC ntmps106 ?_
 by_cases h1:lo <= n
 ·by_cases h2:n <= hi
  ·refine gY ?_
   exact g_ ⟨by rw[decide_eq_true ⟨h1,h2⟩],rfl⟩
  ·refine gY ?_
   exact g_ ⟨by rw[decide_eq_false fun h=>h2 h.2],rfl⟩
 ·refine gY ?_
  exact g_ ⟨by rw[decide_eq_false fun h=>h1 h.1],rfl⟩
theorem WM (f:Nat) (w:World): kH (f+1) w zV iy:=(mD (fun _=>True) f w).td
theorem GU {v:V}(h:kH f w v cs): Calls prog 154 #[.agg cs.toArray] w (jy (v=zV) w):=by
 have hcs:=h.len;refine iY (args:=[.agg cs.toArray]) func154 ntmps154 ?_;refine gY ?_;refine iC fun g w1 hf=>?_;have jx:jl w g w1 25 cs:=hf;clear hf;refine gY ?_;refine ig (h_.rangeAt jx.blk) hcs ?_;refine iE iy (by kernel_rfl) ?_;refine il func165 (Im f (h.below jx.below) (WM 0 w1)) ?_;rintro _ w2 ⟨⟨b,rfl,hb⟩,lk⟩;refine⟨_,rfl,?_⟩;refine gY ?_;exact g_ ⟨⟨b,rfl,hb⟩,jx.below.trans (lk.mono jx.below.size)⟩
theorem T2 {e:En}{dc:List Value}(hd:dc.length=6) (hh:e.hash.length=32):
  Calls prog 155 #[.agg (iU e dc).toArray] w fun r w'=>r=.returned (.agg (iU { e with data:=zV } iy).toArray) /\ iB w w':=by
 refine iY (args:=[.agg (iU e dc).toArray]) func155 ntmps155 ?_;refine gY ?_;refine iC fun g w1 hf=>?_;have jx:jl w g w1 76 (iU e dc):=hf;clear hf;refine ix (z:=.agg (iU jo iy).toArray) (fun _=>by kernel_rfl) fun c w2 lI=>?_;have kM:jl w1 c w2 76 (iU jo iy):=lI;clear lI;have ZS:=jx.eq;have De:=kM.eq;have zY:=jx.size;have lQ:=jx.below.trans (kM.below.mono jx.below.size);have A:jT 76 g w2 e dc:=⟨jx.blk.below kM.below jx.blk.lt,hd,hh⟩;have C:=kM.blk;clear jx kM;refine gY ?_;refine iE iy (by kernel_rfl) ?_;refine gY ?_;refine WL.tN rfl rfl rfl rfl rfl rfl A.blk rfl (by rw[A.len];omega) (mD (fun _=>True) 0 w2).one ?_;have A3:=A.Py (m:=iy) (off:=0+5) zV rfl rfl;have mG:iB w (w2.setRow g ((iU e dc).take (0+5)++iy++(iU e dc).drop (0+5+6)).toArray):=ib.below (ib.setRow (ib.ic lQ) (fun hk=>by omega) _);have C3:h_ 76 (w2.setRow g ((iU e dc).take (0+5)++iy++(iU e dc).drop (0+5+6)).toArray) c (iU jo iy):=C.setRow_other _ gZ;generalize w2.setRow g ((iU e dc).take (0+5)++iy++(iU e dc).drop (0+5+6)).toArray=w3 at A3 mG C3;have yY:kj (iU { e with data:=zV } iy):=by
  intro u hu;unfold iU at hu;simp only[ar,aq,aR,dG] at hu;rcases hu with rfl|rfl|rfl|rfl|rfl|hu|hu|rfl|rfl|rfl
  all_goals first|rfl|exact(mD (fun _=>True) 0 w2).one u hu|exact kj.int _ _ u hu
 refine gY ?_;refine ig (h_.rangeAt A3.blk) A3.len ?_;refine ir (hm:=A3.len) (hold:=(by rfl)) C3 yY ?_;refine gY ?_;exact WQ.tl rfl rfl rfl A3.len (C3.setRow _) ⟨rfl,ib.below (ib.setRow (ib.ic mG) (fun hk=>by omega) _)⟩
def px (e x:En):Prop:=e.kind=x.kind /\ e.text=x.text /\ e.table=x.table /\ e.doc=x.doc /\ e.iZ=x.iZ /\ e.hash=x.hash /\ e.gone=x.gone /\ (e.ab=x.ab /\ e.ae=x.ae) /\ e.data=zV
theorem r7 {f2:Nat}{e1 e2:En}{c1 c2:List Value}(h1:uE f w e1 c1) (h2:uE f2 w e2 c2):
  Calls prog 153 #[.agg c1.toArray,.agg c2.toArray] w (jy (px e1 e2) w):=by
 obtain⟨d1,rfl,NO,tO,-,BZ,-⟩:=h1;obtain⟨d2,rfl,tD,qY,-,JK,-⟩:=h2;refine iY (args:=[.agg (iU e1 d1).toArray,.agg (iU e2 d2).toArray]) func153 ntmps153 ?_;refine gY ?_;refine iC fun g1 w1 nh=>?_;have mJ:jl w g1 w1 76 (iU e1 d1):=nh;clear nh;refine iC fun g2 w2 lI=>?_;have kM:jl w1 g2 w2 76 (iU e2 d2):=lI;clear lI;have hw:=mJ.below.trans (kM.below.mono mJ.below.size);have A1:jT _ g1 w2 e1 d1:=⟨mJ.blk.below kM.below mJ.blk.lt,tO,BZ⟩;have A2:jT _ g2 w2 e2 d2:=⟨kM.blk,qY,JK⟩;clear mJ kM;have no:¬px e1 e2 -> jy (px e1 e2) w (.returned (.bool false)) w2:=fun h=>jy.no h hw;refine gY ?_;refine ia A1.kind ?_;refine gY ?_;refine ia A2.kind ?_
 by_cases q1:e1.kind=e2.kind
 rotate_left
 ·refine gY ?_
  exact g_ (no fun e=>q1 e.1)
 refine gY ?_;refine ia A1.text ?_;refine gY ?_;refine ia A2.text ?_
 by_cases q2:e1.text=e2.text
 rotate_left
 ·refine WL.on rfl rfl ?_
  refine WL.xg (.bool false) rfl rfl rfl rfl (by simp[FZ q2]) ?_;refine gY ?_;exact g_ (no fun e=>q2 e.2.1)
 refine WL.on rfl rfl ?_;refine WL.xg (.bool true) rfl rfl rfl rfl (by simp[q2]) ?_;refine gY ?_;refine ia A1.table ?_;refine gY ?_;refine ia A2.table ?_
 by_cases q3:e1.table=e2.table
 rotate_left
 ·refine gY ?_
  exact g_ (no fun e=>q3 e.2.2.1)
 refine gY ?_;refine ia A1.doc ?_;refine gY ?_;refine ia A2.doc ?_
 by_cases q4:e1.doc=e2.doc
 rotate_left
 ·refine gY ?_
  exact g_ (no fun e=>q4 e.2.2.2.1)
 refine gY ?_;refine ia A1.iZ ?_;refine gY ?_;refine ia A2.iZ ?_
 by_cases q5:e1.iZ=e2.iZ
 rotate_left
 ·refine gY ?_
  exact g_ (no fun e=>q5 e.2.2.2.2.1)
 refine gY ?_;refine WL.uj rfl rfl rfl rfl rfl rfl A1.hash (by simp[BZ]) ?_;refine gY ?_;refine WL.uj rfl rfl rfl rfl rfl rfl A2.hash (by simp[JK]) ?_;refine WL.on rfl rfl ?_;refine WL.ahB rfl rfl rfl rfl rfl rfl BZ JK ?_
 by_cases q6:e1.hash=e2.hash
 rotate_left
 ·refine WL.as 43 (.bool false) rfl (congrArg Value.bool (decide_eq_false q6)) ?_
  refine gY ?_;exact g_ (no fun e=>q6 e.2.2.2.2.2.1)
 refine WL.as 43 (.bool true) rfl (congrArg Value.bool (decide_eq_true q6)) ?_;refine gY ?_;refine ia A1.gone ?_;refine gY ?_;refine ia A2.gone ?_
 by_cases q7:e1.gone=e2.gone
 rotate_left
 ·cases b1:e1.gone<;>cases b2:e2.gone
  ·exact absurd (b1.trans b2.symm) q7
  ·refine gY ?_
   exact g_ (no fun e=>q7 e.2.2.2.2.2.2.1)
  ·refine gY ?_
   exact g_ (no fun e=>q7 e.2.2.2.2.2.2.1)
  ·exact absurd (b1.trans b2.symm) q7
 refine WL.on rfl rfl ?_;refine WL.xg (.bool true) rfl rfl rfl rfl (by simp[q7]) ?_;refine gY ?_;refine ig A1.yV rfl ?_;refine gY ?_;refine ig A2.yV rfl ?_;refine WL.on rfl rfl ?_;refine WL.aiz rfl rfl rfl rfl rfl rfl ?_
 by_cases q8:e1.ab=e2.ab /\ e1.ae=e2.ae
 rotate_left
 ·refine WL.as 57 (.bool false) rfl (congrArg Value.bool (decide_eq_false q8)) ?_
  refine gY ?_;exact g_ (no fun e=>q8 e.2.2.2.2.2.2.2.1)
 refine WL.as 57 (.bool true) rfl (congrArg Value.bool (decide_eq_true q8)) ?_;refine gY ?_;refine ig A1.data tO ?_;refine WL.on rfl rfl ?_;refine il func154 (GU (NO.below hw)) ?_;rintro _ w3 ⟨⟨b,rfl,hb⟩,mM⟩;refine⟨_,rfl,?_⟩;refine gY ?_;exact g_ (jy.of (hw.iR mM) hb ⟨fun h=>h.2.2.2.2.2.2.2.2,fun h=>⟨q1,q2,q3,q4,q5,q6,q7,q8,h⟩⟩)
theorem agi (e:En): px e ⟨e.kind,e.text,0,0,0,zV,Dig.lB,false,0,0⟩ ↔ mR { e with text:=jz }:=by
 unfold px mR
 constructor
 ·rintro⟨a1,a2,a3,a4,a5,a6,a7,⟨a8,a9⟩,a10⟩
  refine⟨?_,?_,?_,?_,?_,?_,?_,?_,?_⟩<;>first|rfl|assumption|exact(congrArg ByteArray.size a2)
 ·rintro⟨b1,b2,b3,b4,b5,b6,b7,b8,b9⟩
  refine⟨?_,?_,?_,?_,?_,?_,?_,⟨?_,?_⟩,?_⟩<;>first|rfl|assumption|exact p6 b1
theorem ag1 (e:En): px { e with data:=zV } ⟨e.kind,jz,e.table,e.doc,e.iZ,zV,e.hash,e.gone,0,0⟩ ↔ mR { e with data:=zV,hash:=Dig.lB,gone:=false,table:=0,doc:=0,iZ:=0 }:=by
 unfold px mR
 constructor
 ·rintro⟨a1,a2,a3,a4,a5,a6,a7,⟨a8,a9⟩,a10⟩
  refine⟨?_,?_,?_,?_,?_,?_,?_,?_,?_⟩<;>first|rfl|assumption|exact(congrArg ByteArray.size a2)
 ·rintro⟨b1,b2,b3,b4,b5,b6,b7,b8,b9⟩
  refine⟨?_,?_,?_,?_,?_,?_,?_,⟨?_,?_⟩,?_⟩<;>first|rfl|assumption|exact p6 b1
theorem afT (e:En): px e ⟨e.kind,jz,e.table,e.doc,e.iZ,zV,Dig.lB,false,0,0⟩ ↔ mR { e with table:=0,doc:=0,iZ:=0 }:=by
 unfold px mR
 constructor
 ·rintro⟨a1,a2,a3,a4,a5,a6,a7,⟨a8,a9⟩,a10⟩
  refine⟨?_,?_,?_,?_,?_,?_,?_,?_,?_⟩<;>first|rfl|assumption|exact(congrArg ByteArray.size a2)
 ·rintro⟨b1,b2,b3,b4,b5,b6,b7,b8,b9⟩
  refine⟨?_,?_,?_,?_,?_,?_,?_,⟨?_,?_⟩,?_⟩<;>first|rfl|assumption|exact p6 b1
theorem agC (e:En): px e ⟨e.kind,jz,0,0,0,zV,Dig.lB,false,e.ab,e.ae⟩ ↔ mR { e with ab:=0,ae:=0 }:=by
 unfold px mR
 constructor
 ·rintro⟨a1,a2,a3,a4,a5,a6,a7,⟨a8,a9⟩,a10⟩
  refine⟨?_,?_,?_,?_,?_,?_,?_,?_,?_⟩<;>first|rfl|assumption|exact(congrArg ByteArray.size a2)
 ·rintro⟨b1,b2,b3,b4,b5,b6,b7,b8,b9⟩
  refine⟨?_,?_,?_,?_,?_,?_,?_,⟨?_,?_⟩,?_⟩<;>first|rfl|assumption|exact p6 b1
theorem afz (e:En): px e ⟨e.kind,e.text,e.table,0,0,zV,Dig.lB,false,0,0⟩ ↔ mR { e with table:=0,text:=jz }:=by
 unfold px mR
 constructor
 ·rintro⟨a1,a2,a3,a4,a5,a6,a7,⟨a8,a9⟩,a10⟩
  refine⟨?_,?_,?_,?_,?_,?_,?_,?_,?_⟩<;>first|rfl|assumption|exact(congrArg ByteArray.size a2)
 ·rintro⟨b1,b2,b3,b4,b5,b6,b7,b8,b9⟩
  refine⟨?_,?_,?_,?_,?_,?_,?_,⟨?_,?_⟩,?_⟩<;>first|rfl|assumption|exact p6 b1
theorem ahr (e:En): px e ⟨e.kind,jz,e.table,0,0,zV,Dig.lB,false,0,0⟩ ↔ mR { e with table:=0 }:=by
 unfold px mR
 constructor
 ·rintro⟨a1,a2,a3,a4,a5,a6,a7,⟨a8,a9⟩,a10⟩
  refine⟨?_,?_,?_,?_,?_,?_,?_,?_,?_⟩<;>first|rfl|assumption|exact(congrArg ByteArray.size a2)
 ·rintro⟨b1,b2,b3,b4,b5,b6,b7,b8,b9⟩
  refine⟨?_,?_,?_,?_,?_,?_,?_,⟨?_,?_⟩,?_⟩<;>first|rfl|assumption|exact p6 b1
theorem YE (hh:h.length=32): h=(List.range 32).map (nth h):=by
 apply d_ (by simp[hh])
 intro i h1 h2;simp[nth,h1]
theorem aah (k ta d v:Int) (q:Nat -> Int) (g:Bool): prog.built 76 [(0,Iq k),(2,Iq ta),(3,Iq d),(4,Iq v),(6,.agg (jq ((List.range 32).map q)).toArray),(7,.bool g)]=some (iU ⟨k,jz,ta,d,v,zV,(List.range 32).map q,g,0,0⟩ iy).toArray:=by kernel_rfl
theorem ag0 (k ta d v:Int) (hh:h.length=32) (g:Bool): prog.built 76 [(0,Iq k),(2,Iq ta),(3,Iq d),(4,Iq v),(6,.agg (jq h).toArray),(7,.bool g)]=some (iU ⟨k,jz,ta,d,v,zV,h,g,0,0⟩ iy).toArray:=by
 have:=aah k ta d v (nth h) g;rw[<- YE hh] at this;exact this
theorem Dq {e:En}(h:e.data=zV) (hl:e.hash.length=32) (hb:Yk e.hash) (ht:e.text.size <= 140737488355328) (r:jX e.kind /\ jX e.table /\ jX e.doc /\ jX e.iZ /\ jX e.ab /\ jX e.ae): uE 1 w e (iU e iy) :=
 ⟨iy,rfl,by rw[h];exact WM 0 w,rfl,(mD (fun _=>True) 0 w).one,hl,hb,ht,r⟩
theorem mZ: jX 0:=by show -9223372036854775808 <= (0:Int) /\ (0:Int) <= 9223372036854775807;omega
theorem Vk {e:En}(h:uE f w e cs): Calls prog 135 #[.agg cs.toArray] w (jy (jS e) w):=by
 obtain⟨dc,rfl,hv,j7,lx,hh,rp,rT,hk,wG,wE,yp,tf,EB⟩:=h;have j8:nN (kH f w) e (iU e dc):=⟨dc,rfl,hv,j7,lx,hh,rp,rT,hk,wG,wE,yp,tf,EB⟩;have IB:Dig.lB.length=32:=rfl;have OG:=AP;have Zd:jz.size <= 140737488355328:=by decide
 refine iY (args:=[.agg (iU e dc).toArray]) func135 ntmps135 ?_;refine gY ?_;refine iC fun g w1 hf=>?_;have jx:jl w g w1 76 (iU e dc):=hf;clear hf;have B1:jT 76 g w1 e dc:=⟨jx.blk,j7,hh⟩;have lJ:=jx.below;clear jx;refine gY ?_;refine ia B1.text ?_;refine gY ?_;refine i_ eC (pL _ _ _ _) ?_;rintro w1 rfl
 refine gY ?_;refine ia B1.table ?_;refine i_ eC (pL _ _ _ _) ?_;rintro w1 rfl
 refine gY ?_;refine ia B1.doc ?_;refine i_ eC (pL _ _ _ _) ?_;rintro w1 rfl
 refine gY ?_;refine ia B1.kind ?_
 by_cases k1:e.kind=1
 ·have jM:jS e ↔ (1 <= e.text.size /\ e.text.size <= 4096) /\ mR { e with text:=jz }:=by unfold jS;rw[if_pos k1];exact⟨fun h=>⟨⟨h.1,h.2.1⟩,h.2.2⟩,fun h=>⟨h.1.1,h.1.2,h.2⟩⟩
  refine gY ?_;refine ia B1.text ?_;refine gY ?_;refine i_ eC (pL _ _ _ _) ?_;rintro w1 rfl
  by_cases ht:(1:Int) <= (e.text.size:Int) /\ (e.text.size:Int) <= 4096
  rotate_left
  ·refine gY ?_
   exact g_ (jy.no (fun h=>ht (by have:=(jM.1 h).1;omega)) lJ)
  refine gY ?_;refine ig (h_.rangeAt B1.blk) B1.len ?_;refine gY ?_;refine ia B1.kind ?_;refine gY ?_;refine ia B1.text ?_;refine WL.on rfl rfl ?_;refine iE (iU ⟨e.kind,e.text,0,0,0,zV,Dig.lB,false,0,0⟩ iy) (by kernel_rfl) ?_;refine WL.on rfl rfl ?_;refine il func153 (r7 (uE.below lJ j8) (Dq (e:=⟨e.kind,e.text,0,0,0,zV,Dig.lB,false,0,0⟩) rfl IB OG (by first|exact rT|exact Zd) ⟨hk,by first|exact wG|exact mZ,by first|exact wE|exact mZ,by first|exact yp|exact mZ,by first|exact tf|exact mZ,by first|exact EB|exact mZ⟩)) ?_;rintro _ w5 ⟨⟨b,rfl,hb⟩,mz⟩;refine⟨_,rfl,?_⟩;refine gY ?_;exact g_ (jy.of (lJ.iR mz) (hb.trans (agi e)) (jM.trans ⟨fun h=>h.2,fun h=>⟨gZ,h⟩⟩))
 by_cases k2:e.kind=2
 ·have jM:jS e ↔ (1 <= e.table /\ e.table <= 64) /\ (1 <= e.doc /\ e.doc <= 65536) /\ (0 <= e.iZ /\ e.iZ <= 2147483648) /\ mR { e with data:=zV,hash:=Dig.lB,gone:=false,table:=0,doc:=0,iZ:=0 } /\ (e.gone=true -> e.data=zV):=by unfold jS;rw[if_neg k1,if_pos k2]
  refine gY ?_;refine WL.sa (fun b:Bool=>[(1,iF g),(4,.bool (decide (1 <= e.table /\ e.table <= 64))),(5,.bool (decide (1 <= e.doc /\ e.doc <= 65536))),(42,.bool b)]) (fun b wx=>(b=true ↔ e.gone=true /\ ¬e.data=zV) /\ jT 76 g wx e dc /\ iB w wx) rfl ?_ ?_
  ·refine ia B1.gone ?_
   cases Ny:e.gone with
   | false=>
    refine gY ?_;exact WQ.meet false iW ⟨iz,B1,lJ⟩
   | true=>
    refine gY ?_;refine ig B1.data j7 ?_;refine WL.on rfl rfl ?_;refine il func154 (GU (hv.below lJ)) ?_;rintro _ w2 ⟨⟨b,rfl,hb⟩,lk⟩;refine⟨_,rfl,?_⟩;cases b with
    | true=>
     refine gY ?_;exact WQ.meet false iW ⟨by simp[hb.1 rfl],B1.below lk,lJ.iR lk⟩
    | false=>
     refine gY ?_;exact WQ.meet true iW ⟨by simp;exact fun h=>(by have:=hb.2 h;cases this),B1.below lk,lJ.iR lk⟩
  rintro b w2 ⟨Es,B2,lQ⟩;cases b with
  | true=>
   refine gY ?_;exact g_ (jy.no (fun h=>(Es.1 rfl).2 ((jM.1 h).2.2.2.2 (Es.1 rfl).1)) lQ)
  | false=>
   have sT:=fun h=>fH fun h2=>by have:=Es.2 ⟨h,h2⟩;cases this
   refine gY ?_;refine WC.drawn 25 (fun wx=>jT 76 g wx e dc) fun w3 hd=>?_;have hS:=B2.below (hd.below _);have mG:=lQ.trans ((hd.below w2.heap.size).mono lQ.size)
   by_cases c1:1 <= e.table /\ e.table <= 64
   rotate_left
   ·refine iq [0,1,2,3,4,5,6,7,8,9,10,11,12,13,14,15,16,17,18,19,20,21,22,23,24] hS ?_
    refine iI 25 ?_;refine WL.off rfl rfl rfl ?_;refine iO ?_
    (refine js 26 rfl (q:=?_))
    refine iI 27 ?_;refine iA ?_;refine iO ?_;refine im ?_;refine gY ?_;exact g_ (jy.no (fun h=>c1 (jM.1 h).1) mG)
   by_cases c2:1 <= e.doc /\ e.doc <= 65536
   rotate_left
   ·refine iq [0,1,2,3,4,5,6,7,8,9,10,11,12,13,14,15,16,17,18,19,20,21,22,23,24] hS ?_
    refine iI 25 ?_;refine WL.off rfl rfl rfl ?_;refine iO ?_
    (refine js 26 rfl (q:=?_))
    refine iI 27 ?_;refine iA ?_;refine iO ?_;refine im ?_;refine gY ?_;exact g_ (jy.no (fun h=>c2 (jM.1 h).2.1) mG)
   refine iq [0,1,2,3,4,5] hS ?_;refine ik 6 [7,8,9,10,11,12,13,14,15,16,17,18,19,20,21,22,23,24,25,26,27] (fun wx hx=>hx.iZ) hS ?_;refine iI 7 ?_;refine WL.on rfl rfl ?_;refine i_ eC (pL _ _ _ _) ?_;rintro w3 rfl
   refine km hS ?_
   by_cases c3:0 <= e.iZ /\ e.iZ <= 2147483648
   rotate_left
   ·refine iq [8,9,10,11,12,13,14,15,16,17,18,19,20,21,22,23,24] hS ?_
    refine iI 25 ?_;refine WL.off rfl rfl rfl ?_;refine iO ?_
    (refine js 26 rfl (q:=?_))
    refine iI 27 ?_;refine iA ?_;refine iO ?_;refine im ?_;refine gY ?_;exact g_ (jy.no (fun h=>c3 (jM.1 h).2.2.1) mG)
   refine iq [8,9] hS ?_;refine jG (hm:=B2.len) 10 [11,25,26,27] (fun wx hx=>h_.rangeAt hx.blk) hS ?_;refine iq [12] hS ?_;refine ik 13 [24,25,26,27] (fun wx hx=>hx.kind) hS ?_;refine iq [14] hS ?_;refine ik 15 [24,25,26,27] (fun wx hx=>hx.table) hS ?_;refine iq [16] hS ?_;refine ik 17 [24,25,26,27] (fun wx hx=>hx.doc) hS ?_;refine iq [18] hS ?_;refine ik 19 [24,25,26,27] (fun wx hx=>hx.iZ) hS ?_;refine iq [20] hS ?_;refine aii 21 [24,25,26,27] rfl rfl rfl rfl rfl rfl rfl (fun wx hx=>hx.hash) (by rw[av];exact hh) hS ?_;refine iq [22] hS ?_;refine ik 23 [24,25,26,27] (fun wx hx=>hx.gone) hS ?_;refine WD.build (iU ⟨e.kind,jz,e.table,e.doc,e.iZ,zV,e.hash,e.gone,0,0⟩ iy) 24 rfl (by kernel_rfl) rfl rfl (fun _ _ _ _ _ h=>h) rfl rfl rfl (ag0 _ _ _ _ hh _) (.inr hS) ?_;refine iI 11 ?_;refine WL.on rfl rfl ?_;refine i_ func155 (T2 j7 hh) ?_;rintro w4 m8
   have nR:=mG.iR m8;refine WL.nil (WQ.dk (.inr (hS.below m8)) ?_);refine iI 25 ?_;refine WL.on rfl rfl ?_;refine il func153 (r7 (Dq (e:={ e with data:=zV }) rfl hh rp rT ⟨hk,wG,wE,yp,tf,EB⟩) (Dq (e:=⟨e.kind,jz,e.table,e.doc,e.iZ,zV,e.hash,e.gone,0,0⟩) rfl hh rp Zd ⟨hk,wG,wE,yp,mZ,mZ⟩)) ?_;rintro _ w5 ⟨⟨b,rfl,hb⟩,mz⟩;refine⟨_,rfl,?_⟩;refine iO ?_
   (refine js 26 rfl (q:=?_))
   refine iI 27 ?_;refine iA ?_;refine iO ?_;refine im ?_;refine gY ?_;exact g_ (jy.of (nR.iR mz) (hb.trans (ag1 e)) (jM.trans ⟨fun h=>h.2.2.2.1,fun h=>⟨c1,c2,c3,h,sT⟩⟩))
 by_cases k3:e.kind=3
 ·have jM:jS e ↔ (1 <= e.table /\ e.table <= 64) /\ (1 <= e.doc /\ e.doc <= 65536) /\ (1 <= e.iZ /\ e.iZ <= 2147483648) /\ mR { e with table:=0,doc:=0,iZ:=0 }:=by unfold jS;rw[if_neg k1,if_neg k2,if_pos k3]
  by_cases c1:1 <= e.table /\ e.table <= 64
  rotate_left
  ·refine gY ?_
   exact g_ (jy.no (fun h=>c1 (jM.1 h).1) lJ)
  by_cases c2:1 <= e.doc /\ e.doc <= 65536
  rotate_left
  ·refine gY ?_
   exact g_ (jy.no (fun h=>c2 (jM.1 h).2.1) lJ)
  refine gY ?_;refine ia B1.iZ ?_;refine WL.on rfl rfl ?_;refine i_ eC (pL _ _ _ _) ?_;rintro w1 rfl
  by_cases c3:1 <= e.iZ /\ e.iZ <= 2147483648
  rotate_left
  ·refine gY ?_
   exact g_ (jy.no (fun h=>c3 (jM.1 h).2.2.1) lJ)
  refine gY ?_;refine ig (h_.rangeAt B1.blk) B1.len ?_;refine gY ?_;refine ia B1.kind ?_;refine gY ?_;refine ia B1.table ?_;refine gY ?_;refine ia B1.doc ?_;refine gY ?_;refine ia B1.iZ ?_;refine WL.on rfl rfl ?_;refine iE (iU ⟨e.kind,jz,e.table,e.doc,e.iZ,zV,Dig.lB,false,0,0⟩ iy) (by kernel_rfl) ?_;refine WL.on rfl rfl ?_;refine il func153 (r7 (uE.below lJ j8) (Dq (e:=⟨e.kind,jz,e.table,e.doc,e.iZ,zV,Dig.lB,false,0,0⟩) rfl IB OG (by first|exact rT|exact Zd) ⟨hk,by first|exact wG|exact mZ,by first|exact wE|exact mZ,by first|exact yp|exact mZ,by first|exact tf|exact mZ,by first|exact EB|exact mZ⟩)) ?_;rintro _ w5 ⟨⟨b,rfl,hb⟩,mz⟩;refine⟨_,rfl,?_⟩;refine gY ?_;exact g_ (jy.of (lJ.iR mz) (hb.trans (afT e)) (jM.trans ⟨fun h=>h.2.2.2,fun h=>⟨c1,c2,c3,h⟩⟩))
 by_cases k4:e.kind=4
 ·have jM:jS e ↔ (0 <= e.ab /\ e.ab <= 2147483648) /\ (0 <= e.ae /\ e.ae <= 2147483648) /\ mR { e with ab:=0,ae:=0 }:=by unfold jS;rw[if_neg k1,if_neg k2,if_neg k3,if_pos k4]
  refine gY ?_;refine ia B1.ab ?_;refine i_ eC (pL _ _ _ _) ?_;rintro w1 rfl
  by_cases c1:0 <= e.ab /\ e.ab <= 2147483648
  rotate_left
  ·refine gY ?_
   exact g_ (jy.no (fun h=>c1 (jM.1 h).1) lJ)
  refine gY ?_;refine ia B1.ae ?_;refine WL.on rfl rfl ?_;refine i_ eC (pL _ _ _ _) ?_;rintro w1 rfl
  by_cases c2:0 <= e.ae /\ e.ae <= 2147483648
  rotate_left
  ·refine gY ?_
   exact g_ (jy.no (fun h=>c2 (jM.1 h).2.1) lJ)
  refine gY ?_;refine ig (h_.rangeAt B1.blk) B1.len ?_;refine gY ?_;refine ia B1.kind ?_;refine gY ?_;refine ig B1.yV rfl ?_;refine WL.on rfl rfl ?_;refine iE (iU ⟨e.kind,jz,0,0,0,zV,Dig.lB,false,e.ab,e.ae⟩ iy) (by kernel_rfl) ?_;refine WL.on rfl rfl ?_;refine il func153 (r7 (uE.below lJ j8) (Dq (e:=⟨e.kind,jz,0,0,0,zV,Dig.lB,false,e.ab,e.ae⟩) rfl IB OG (by first|exact rT|exact Zd) ⟨hk,by first|exact wG|exact mZ,by first|exact wE|exact mZ,by first|exact yp|exact mZ,by first|exact tf|exact mZ,by first|exact EB|exact mZ⟩)) ?_;rintro _ w5 ⟨⟨b,rfl,hb⟩,mz⟩;refine⟨_,rfl,?_⟩;refine gY ?_;exact g_ (jy.of (lJ.iR mz) (hb.trans (agC e)) (jM.trans ⟨fun h=>h.2.2,fun h=>⟨c1,c2,h⟩⟩))
 by_cases OL:e.kind=5 \/ e.kind=7
 ·have jM:jS e ↔ (1 <= e.table /\ e.table <= 64) /\ 1 <= e.text.size /\ e.text.size <= 40 /\ mR { e with table:=0,text:=jz }:=by unfold jS;rw[if_neg k1,if_neg k2,if_neg k3,if_neg k4,if_pos OL]
  rcases OL with k5|k7
  all_goals
   by_cases c1:1 <= e.table /\ e.table <= 64
   rotate_left
   ·refine gY ?_
    exact g_ (jy.no (fun h=>c1 (jM.1 h).1) lJ)
   by_cases c2:(1:Int) <= (e.text.size:Int) /\ (e.text.size:Int) <= 40
   rotate_left
   ·refine gY ?_
    exact g_ (jy.no (fun h=>c2 (by have:=(jM.1 h).2;omega)) lJ)
   refine gY ?_;refine ig (h_.rangeAt B1.blk) B1.len ?_;refine gY ?_;refine ia B1.kind ?_;refine gY ?_;refine ia B1.table ?_;refine gY ?_;refine ia B1.text ?_;refine WL.on rfl rfl ?_;refine iE (iU ⟨e.kind,e.text,e.table,0,0,zV,Dig.lB,false,0,0⟩ iy) (by kernel_rfl) ?_;refine WL.on rfl rfl ?_;refine il func153 (r7 (uE.below lJ j8) (Dq (e:=⟨e.kind,e.text,e.table,0,0,zV,Dig.lB,false,0,0⟩) rfl IB OG (by first|exact rT|exact Zd) ⟨hk,by first|exact wG|exact mZ,by first|exact wE|exact mZ,by first|exact yp|exact mZ,by first|exact tf|exact mZ,by first|exact EB|exact mZ⟩)) ?_;rintro _ w5 ⟨⟨b,rfl,hb⟩,mz⟩;refine⟨_,rfl,?_⟩;refine gY ?_;exact g_ (jy.of (lJ.iR mz) (hb.trans (afz e)) (jM.trans ⟨fun h=>h.2.2.2,fun h=>⟨c1,gZ,gZ,h⟩⟩))
 by_cases k6:e.kind=6
 ·have jM:jS e ↔ (1 <= e.table /\ e.table <= 64) /\ mR { e with table:=0 }:=by unfold jS;rw[if_neg k1,if_neg k2,if_neg k3,if_neg k4,if_neg OL,if_pos k6]
  by_cases c1:1 <= e.table /\ e.table <= 64
  rotate_left
  ·refine gY ?_
   exact g_ (jy.no (fun h=>c1 (jM.1 h).1) lJ)
  refine gY ?_;refine ig (h_.rangeAt B1.blk) B1.len ?_;refine gY ?_;refine ia B1.kind ?_;refine gY ?_;refine ia B1.table ?_;refine WL.on rfl rfl ?_;refine iE (iU ⟨e.kind,jz,e.table,0,0,zV,Dig.lB,false,0,0⟩ iy) (by kernel_rfl) ?_;refine WL.on rfl rfl ?_;refine il func153 (r7 (uE.below lJ j8) (Dq (e:=⟨e.kind,jz,e.table,0,0,zV,Dig.lB,false,0,0⟩) rfl IB OG (by first|exact rT|exact Zd) ⟨hk,by first|exact wG|exact mZ,by first|exact wE|exact mZ,by first|exact yp|exact mZ,by first|exact tf|exact mZ,by first|exact EB|exact mZ⟩)) ?_;rintro _ w5 ⟨⟨b,rfl,hb⟩,mz⟩;refine⟨_,rfl,?_⟩;refine gY ?_;exact g_ (jy.of (lJ.iR mz) (hb.trans (ahr e)) (jM.trans ⟨fun h=>h.2,fun h=>⟨c1,h⟩⟩))
 have jM:¬jS e:=by unfold jS;rw[if_neg k1,if_neg k2,if_neg k3,if_neg k4,if_neg OL,if_neg k6];exact id
 refine gY ?_;exact g_ (jy.no jM lJ)
theorem mB (u:Nat) (hu:u<18446744073709551616) (w:World):
  Calls prog 137 #[.int .u64 u] w fun e w'=>∃b,e=.returned b /\ Bu w' b (jK u) /\ iB w w' /\ ∀g,b.ownBlock=some g -> w.heap.size <= g:=by
 refine iY fg ntmps137 ?_;have h1:u<2*128 ^ 9:=gZ;have h2:jK u=[]++uvF (9+1) u:=by rw[aH];rfl
 refine gY ?_;refine WC.loop (fun i:Nat × Nat × List Int × Value=>[(0,.int .u64 i.2.1),(3,i.2.2.2)])
  (fun i w'=>i.2.1<2*128 ^ i.1 /\ i.1 <= 9 /\ jK u=i.2.2.1++uvF (i.1+1) i.2.1 /\ i.2.2.1.length <= 9 /\ Bu w' i.2.2.2 i.2.2.1 /\ jv w (.slice none 0 0) w' i.2.2.2) (fun i=>i.1) (9,u,[],.slice none 0 0) iW ⟨h1,af 9,h2,aw 9,Bu.nil w,jv.refl _ _⟩ ?_
 rintro⟨f,c,A,v⟩ wr ⟨hc,hf,hA,hl,hb,hg⟩;simp only at hc hf hA hl hb hg ⊢;have hle:(128:Nat) ^ f <= 128 ^ 9:=fh j9 hf
 by_cases h:c<128
 ·have hw:IntKind.u8.wrap (c:Int)=(c:Int):=by rw[bB];omega
  have oe:uvF (f+1) c=[(c:Int)]:=by rw[uvF,if_pos h]
  refine gY ?_;refine WL.push rfl rfl rfl rfl rfl rfl rfl rfl rfl rfl rfl (fun _=>rfl) rfl hb (by simp only[aj,aF];omega) fun b2 w2 jg lN=>?_;refine gY ?_;have mP:=hg.trans lN;refine g_ ⟨b2,rfl,?_,mP.old (af _) (fun g h=>by cases h),mP.own (af _) (fun g h=>by cases h)⟩;rw[hw] at jg;rw[hA,oe];exact jg
 ·obtain⟨f,rfl⟩:∃f',f=f'+1:=⟨f - 1,by
   cases f with
   | zero=>simp at hc;omega
   | succ f=>rfl⟩
  have rz:uvF (f+1+1) c=((c % 128+128:Nat):Int) :: uvF (f+1) (c / 128):=Sd gZ;have hw:bits .or .u8 (IntKind.u8.wrap (bits .and .u64 (c:Int) 127)) 128=((c % 128+128:Nat):Int):=by
   have:=afc (c % 128) gZ;rw[afU c gZ,show IntKind.u8.wrap ((c % 128:Nat):Int)=((c % 128:Nat):Int) by rw[bB];omega,this];omega
  refine gY ?_;refine WL.push rfl rfl rfl rfl rfl rfl rfl rfl rfl rfl rfl (fun _=>rfl) rfl hb (by simp only[aj,aF];omega) fun b2 w2 jg lN=>?_;rw[hw] at jg;refine gY ?_;refine WQ.again (f,c / 128,A++[((c % 128+128:Nat):Int)],b2) ⟨congrArg (fun z=>some (Value.int .u64 z)) (aix c),rfl,trivial⟩
   ⟨by rw[dg] at hc;show c / 128<2*128 ^ f;omega,by show f <= 9;omega,by show jK u=A++[((c % 128+128:Nat):Int)]++uvF (f+1) (c / 128);rw[hA,rz];simp,?_,jg,hg.trans lN⟩ (by show f<f+1;omega)
  show(A++[((c % 128+128:Nat):Int)]).length <= 9
  have:=congrArg List.length hA;rw[aa,rz,aj] at this;have yE:(jK u).length <= 10:=qk 10 u;have h1:1 <= (uvF (f+1) (c / 128)).length:=by unfold uvF;split<;>simp
  rw[aa];simp only[aj,aF];omega
theorem Mc (v:Int) (h:-9223372036854775808 <= v /\ v <= 9223372036854775807) (w:World): Calls prog 161 #[Iq v] w fun e w'=>e=.returned (.int .u64 (ug v:Nat)) /\ w'=w:=by
 refine iY func161 ntmps161 ?_;refine gY ?_
 by_cases hv:0 <= v
 ·refine WC.qg rfl hv ?_
  have e:IntKind.u64.wrap (2*IntKind.u64.wrap v)=(ug v:Nat):=by unfold ug;rw[if_pos hv,aW,aW];omega
  refine gY ?_;exact g_ ⟨congrArg (fun z=>Ending.returned (Value.int .u64 z)) e,rfl⟩
 ·refine WC.pE rfl hv ?_
  have e:IntKind.u64.wrap (IntKind.u64.wrap (2*IntKind.u64.wrap (IntKind.i64.wrap (0 - (v+1))))+1)=(ug v:Nat):=by unfold ug;rw[if_neg hv];simp only[aW,cV];omega
  refine ku ?_;refine iA ?_;refine WL.xg (Iq (v+1)) rfl rfl rfl rfl (congrArg (Value.int .i64) (bG _ gZ)) ?_;refine iA ?_;refine iA ?_;refine iA ?_;refine iA ?_;refine iA ?_;refine ku ?_;exact g_ ⟨congrArg (fun z=>Ending.returned (Value.int .u64 z)) e,rfl⟩
theorem Kp {s:ByteArray}(hb:Bu w b l) (hm:l.length+10+s.size <= 70368744178000):
  Calls prog 162 #[b,.string s] w fun e w'=>∃b',e=.returned b' /\ Bu w' b' (l++(jK s.size++vA s)) /\ jv w b w' b':=by
 refine iY func162 ntmps162 ?_;have e8:IntKind.u64.wrap (s.size:Int)=((s.size:Nat):Int):=by rw[aW];omega
 have OD:(jK s.size).length <= 10:=qk 10 _;refine gY ?_;refine WL.call rfl rfl rfl rfl rfl fg rfl (by kernel_rfl) (by rw[e8];exact mB s.size gZ w) ?_;rintro _ w2 ⟨b2,rfl,jg,lk,-⟩;refine⟨_,rfl,?_⟩;refine WL.app rfl rfl rfl rfl rfl (hb.below lk) rfl jg.sl gZ fun b3 w3 jF mP=>?_;refine gY ?_;refine WL.QM rfl rfl rfl rfl rfl jF rfl (by rw[aa];omega) fun b4 w4 lD ot=>?_;refine gY ?_;exact g_ ⟨b4,rfl,by rw[<- ao];exact lD,(((jv.refl w b).below lk).trans mP).trans ot⟩
theorem Rl (m:Nat) (ih:∀ {f:Nat}{w0 w:World}{v:V}{cs:List Value}{b:Value}{l:List Int}, kH f w0 v cs -> chk m v=0 -> Bu w b l -> na w0 w b -> l.length+(encV m v).length <= 70368744177664 ->
      Calls prog 151 #[b, .agg cs.toArray] w fun e w'=>∃b', e=.returned b' /\ Bu w' b' (l++encV m v) /\ jv w b w' b') {v:V}(hv:kH f w0 v cs) (hc:chk (m+1) v=0) (hb:Bu w b l) (ha:na w0 w b) (hm:l.length+(encV (m+1) v).length <= 70368744177664):
    Calls prog 151 #[b, .agg cs.toArray] w fun e w'=>∃b', e=.returned b' /\ Bu w' b' (l++encV (m+1) v) /\ jv w b w' b' := by
  obtain⟨hk, f2, f3, f4, f5, fk, ft, f9⟩ := qI (oQ hc); cases f with
  | zero=>exact hv.elim
  | succ f=>
  obtain⟨sn, sk, rfl, wk, wn, ws, -, qJ, tM⟩ := hv; have jU := Bs (m := m) (v := v); rw[jU] at hm; have hn:-9223372036854775808 <= v.n /\ v.n <= 9223372036854775807 := by simp[Lit.wf, IntKind.min, IntKind.max, IntKind.bits, IntKind.signed] at wn; omega
  have IB := WO hn; refine iY (args := [b, .agg (lW v sn sk).toArray]) func151 ntmps151 ?_; refine gY ?_; refine iC fun g w1 hf=>?_; have jx:jl w g w1 25 (lW v sn sk) := hf; clear hf; have mj := hb.below jx.below; have qD := (jv.refl w b).below jx.below; have Hb := ha.grow qD; have hR:∀ {wk vk}, jv w1 b wk vk -> h_ 25 wk g (lW v sn sk) := fun h=>jx.NQ hb h; have fin:∀ {b' w' x}, Bu w' b' (l++v.k :: x) -> jv w1 b w' b' -> (v.k :: x=encV (m+1) v) -> ∃DJ, Ending.returned b'=.returned DJ /\ Bu w' DJ (l++encV (m+1) v) /\ jv w b w' DJ :=
    fun {b' w' x} h1 h2 h3=>⟨b', rfl, by rw[<- h3]; exact h1, qD.trans h2⟩
  have e8:IntKind.u8.wrap v.k=v.k := by rw[bB]; omega
  have pY:l.length+1 <= 70368744177664 := by simp at hm; omega
  have g0 := jv.refl w1 b; refine gY ?_; refine ia ((hR g0).cell 0 iz) ?_; refine gY ?_; refine WL.push rfl rfl rfl rfl rfl rfl rfl rfl rfl rfl rfl (fun _=>rfl) rfl mj (by simp; omega) fun b2 w2 jg g2=>?_; rw[e8] at jg; refine gY ?_; refine ia ((hR g2).cell 0 iz) ?_; have qB:(l++[v.k]).length=l.length+1 := iz; have zn:∀x, l++v.k :: x=(l++[v.k])++x := fun x=>iz; generalize hL:l++[v.k]=L at jg qB zn; have nG:L.length+(encV (m+1) v).length <= 70368744177664+1 := by rw[jU]; simp at hm ⊢; omega
  by_cases k1:v.k=1
  · refine gY ?_
    refine g_ (fin (x := []) (by rw[zn, aS]; exact jg) g2 ?_); rw[jU]; simp[k1]
  by_cases k2:v.k=2
  · have hx := f2 k2
    have e8:IntKind.u8.wrap v.n=v.n := by rw[bB]; omega
    have mK:encV (m+1) v=v.k :: [v.n] := by rw[jU, if_pos k2]
    rw[mK] at nG; simp at nG
    refine gY ?_; refine ia ((hR g2).cell 1 iz) ?_; refine gY ?_; refine WL.push rfl rfl rfl rfl rfl rfl rfl rfl rfl rfl rfl (fun _=>rfl) rfl jg (by simp; omega) fun b3 w5 jF g3=>?_; refine gY ?_; refine g_ (fin (x := [v.n]) ?_ (g2.trans g3) mK.symm); rw[zn, <- e8]; exact jF
  by_cases vy:v.k=3 \/ v.k=4
  · have hu := qk 10 (ug v.n)
    have hu:(jK (ug v.n)).length <= 10 := hu; rcases vy with k3|k4
    · have mK:encV (m+1) v=v.k :: jK (ug v.n) := by rw[jU, if_neg k2, if_pos k3]
      rw[mK] at nG; simp at nG
      refine gY ?_; refine ia ((hR g2).cell 1 iz) ?_; refine gY ?_; refine il func161 (Mc v.n hn w2) ?_; rintro e w2 ⟨rfl, rfl⟩; refine⟨_, rfl, ?_⟩; refine il fg (mB (ug v.n) IB _) ?_; rintro _ w3 ⟨b3, rfl, jF, mM, -⟩; refine⟨_, rfl, ?_⟩; refine WL.app rfl rfl rfl rfl rfl (jg.below mM) rfl jF.sl gZ fun b4 w4 lD ot=>?_; refine gY ?_; exact g_ (fin (by rw[zn]; exact lD) ((g2.below mM).trans ot) mK.symm)
    · have hx := f4 k4
      have e8:IntKind.u8.wrap v.s=v.s := by rw[bB]; omega
      have k3:¬v.k=3 := gZ; have mK:encV (m+1) v=v.k :: (jK (ug v.n)++[v.s]) := by rw[jU, if_neg k2, if_neg k3, if_pos k4]
      rw[mK] at nG; simp at nG
      refine gY ?_; refine ia ((hR g2).cell 1 iz) ?_; refine gY ?_; refine il func161 (Mc v.n hn w2) ?_; rintro e w2 ⟨rfl, rfl⟩; refine⟨_, rfl, ?_⟩; refine il fg (mB (ug v.n) IB _) ?_; rintro _ w3 ⟨b3, rfl, jF, mM, -⟩; refine⟨_, rfl, ?_⟩; refine WL.app rfl rfl rfl rfl rfl (jg.below mM) rfl jF.sl gZ fun b4 w4 lD ot=>?_; have g4 := (g2.below mM).trans ot; refine gY ?_; refine ia ((hR g4).cell 2 iz) ?_; refine gY ?_; refine WL.push rfl rfl rfl rfl rfl rfl rfl rfl rfl rfl rfl (fun _=>rfl) rfl lD (by simp; omega) fun b5 w7 oY g5=>?_; refine gY ?_; refine g_ (fin (x := jK (ug v.n)++[v.s]) ?_ (g4.trans g5) mK.symm); rw[zn, <- ao, <- e8]; exact oY
  have k3:¬v.k=3 := gZ; have k4:¬v.k=4 := gZ
  by_cases k5:v.k=5
  · have hx := f5 k5
    have e8:IntKind.u64.wrap v.n=(v.n.toNat:Int) := by rw[aW]; omega
    have mK:encV (m+1) v=v.k :: jK v.n.toNat := by rw[jU, if_neg k2, if_neg k3, if_neg k4, if_pos k5]
    have hu:(jK v.n.toNat).length <= 10 := qk 10 _; rw[mK] at nG; simp at nG
    refine gY ?_; refine ia ((hR g2).cell 1 iz) ?_; refine gY ?_; refine WL.call rfl rfl rfl rfl rfl fg rfl (by kernel_rfl) (by rw[e8]; exact mB v.n.toNat gZ _) ?_; rintro _ w3 ⟨b3, rfl, jF, mM, -⟩; refine⟨_, rfl, ?_⟩; refine WL.app rfl rfl rfl rfl rfl (jg.below mM) rfl jF.sl gZ fun b4 w4 lD ot=>?_; refine gY ?_; exact g_ (fin (by rw[zn]; exact lD) ((g2.below mM).trans ot) mK.symm)
  by_cases AN:v.k=6 \/ v.k=7
  · have mK:encV (m+1) v=v.k :: (jK v.t.size++vA v.t) := by rw[jU, if_neg k2, if_neg k3, if_neg k4, if_neg k5, if_pos AN]
    have sh := sN v.t; rw[mK] at nG; simp only[aj, aa] at nG; rcases AN with k6|k7
    all_goals
      refine gY ?_; refine ia ((hR g2).cell 3 iz) ?_; refine WL.call rfl rfl rfl rfl rfl func162 rfl (by kernel_rfl) (Kp jg gZ) ?_; rintro _ w3 ⟨b3, rfl, jF, g3⟩; refine⟨_, rfl, ?_⟩; refine gY ?_; exact g_ (fin (by rw[zn]; exact jF) (g2.trans g3) mK.symm)
  have KA:v.k=8 \/ v.k=9 := gZ; obtain⟨sp, cap, rfl, uG, oG, ji⟩ := tM; have mK:encV (m+1) v=v.k :: (jK v.kids.length++(List.range v.kids.length).flatMap (kP (encV m) (decide (v.k=9)) v.names v.kids)) := by rw[jU, if_neg k2, if_neg k3, if_neg k4, if_neg k5, if_neg AN, if_pos KA]
  rw[mK] at nG; simp only[aj, aa] at nG; have CA:∀j, j<v.kids.length -> chk m (v.kids.getD j lH)=0 := fun j hj=>rD hc hj; have round:∀i, i+1 <= v.kids.length -> ((List.range i).flatMap (kP (encV m) (decide (v.k=9)) v.names v.kids)).length+(kP (encV m) (decide (v.k=9)) v.names v.kids i).length <= ((List.range v.kids.length).flatMap (kP (encV m) (decide (v.k=9)) v.names v.kids)).length := fun i hi=>by
    have := tW (kP (encV m) (decide (v.k=9)) v.names v.kids) hi; rw[kG, aa] at this; exact this
  have eK:IntKind.u64.wrap (v.kids.length:Int)=((v.kids.length:Nat):Int) := by rw[aW]; omega
  have huk:(jK v.kids.length).length <= 10 := qk 10 _; have Pv:∀x, l++v.k :: (jK v.kids.length++x)=(L++jK v.kids.length)++x := fun x=>by rw[zn, ao]
  rcases KA with k8|k9
  · rw[show decide (v.k=9)=false from decide_eq_false gZ] at mK nG round
    refine gY ?_; refine ia ((hR g2).cell 5 iz) ?_; refine gY ?_; refine WL.call rfl rfl rfl rfl rfl fg rfl (by kernel_rfl) (by rw[eK]; exact mB v.kids.length gZ _) ?_; rintro _ w3 ⟨b3, rfl, jF, mM, -⟩; refine⟨_, rfl, ?_⟩; refine WL.app rfl rfl rfl rfl rfl (jg.below mM) rfl jF.sl gZ fun b4 w4 lD ot=>?_; have g4 := (g2.below mM).trans ot; have EA:(L++jK v.kids.length).length=L.length+(jK v.kids.length).length := aa; generalize L++jK v.kids.length=M at lD Pv EA; refine gY ?_; refine WC.loop (fun i:Nat × Value=>[(0, i.2), (3, iF g), (5, Iq i.1)])
      (fun i w'=>i.1 <= v.kids.length /\ Bu w' i.2 (M++(List.range i.1).flatMap (kP (encV m) false v.names v.kids)) /\ jv w1 b w' i.2) (fun i=>v.kids.length - i.1) (0, b4)
      iW ⟨aw _, by simpa using lD, g4⟩ ?_
    rintro⟨i, br⟩ wr ⟨hi, jC, lL⟩; simp only at hi jC lL ⊢; refine gY ?_; refine ia ((hR lL).cell 5 iz) ?_
    by_cases je:i<v.kids.length
    · obtain⟨kb, ko, rfl, oN, kA⟩ := ji gZ
      obtain⟨c, mO, pj, mo⟩ := kA i je; have D6 := round i je; refine gY ?_; refine ia ((hR lL).cell 0 iz) ?_; have AM:kP (encV m) false v.names v.kids i=encV m (v.kids.getD i lH) := rfl; rw[AM] at D6; refine gY ?_; refine ia ((hR lL).cell 5 iz) ?_; refine gY ?_; refine iG i (ko+i*6) je ?_; have QH := Hb.grow lL; refine ig (fun j u hu=>(QH.below.cell (p := ⟨kb, ko+i*6+j, none⟩) oN).trans (mo j u hu)) mO ?_; refine il func151 (ih (w0 := w0) pj (CA i je) jC QH (by rw[aa]; omega)) ?_; rintro _ w6 ⟨b6, rfl, qA, Fa⟩; refine⟨_, rfl, ?_⟩; refine gY ?_; refine WQ.again (i+1, b6) iW ⟨je, ?_, lL.trans Fa⟩ (by show v.kids.length - (i+1)<v.kids.length - i; omega)
      show Bu w6 b6 (M++(List.range (i+1)).flatMap _)
      rw[kG, AM]
      simpa[ao] using qA
    · obtain rfl:i=v.kids.length := gZ
      refine gY ?_; exact g_ (fin (by rw[Pv]; exact jC) lL mK.symm)
  · rw[show decide (v.k=9)=true from decide_eq_true k9] at mK nG round
    obtain⟨np, nc, rfl, nl, Iu, xI, nr⟩ := qJ; have hnk := (f9 k9).1; refine gY ?_; refine ia ((hR g2).cell 5 iz) ?_; refine gY ?_; refine WL.call rfl rfl rfl rfl rfl fg rfl (by kernel_rfl) (by rw[eK]; exact mB v.kids.length gZ _) ?_; rintro _ w3 ⟨b3, rfl, jF, mM, -⟩; refine⟨_, rfl, ?_⟩; refine WL.app rfl rfl rfl rfl rfl (jg.below mM) rfl jF.sl gZ fun b4 w4 lD ot=>?_; have g4 := (g2.below mM).trans ot; have EA:(L++jK v.kids.length).length=L.length+(jK v.kids.length).length := aa; generalize L++jK v.kids.length=M at lD Pv EA; refine gY ?_; refine WC.loop (fun i:Nat × Value=>[(0, i.2), (3, iF g), (5, Iq i.1)])
      (fun i w'=>i.1 <= v.kids.length /\ Bu w' i.2 (M++(List.range i.1).flatMap (kP (encV m) true v.names v.kids)) /\ jv w1 b w' i.2) (fun i=>v.kids.length - i.1) (0, b4)
      iW ⟨aw _, by simpa using lD, g4⟩ ?_
    rintro⟨i, br⟩ wr ⟨hi, jC, lL⟩; simp only at hi jC lL ⊢; refine gY ?_; refine ia ((hR lL).cell 5 iz) ?_
    by_cases je:i<v.kids.length
    · obtain⟨kb, ko, rfl, oN, kA⟩ := ji gZ
      obtain⟨c, mO, pj, mo⟩ := kA i je; have D6 := round i je; refine gY ?_; refine ia ((hR lL).cell 0 iz) ?_; obtain⟨nb, no, rfl, tj, FI⟩ := nr gZ; have rC := FI i gZ; have AM:kP (encV m) true v.names v.kids i=(jK (v.names.getD i jz).size++vA (v.names.getD i jz))++encV m (v.kids.getD i lH) := rfl; rw[AM] at D6; have sh := sN (v.names.getD i jz); have OD:(jK (v.names.getD i jz).size).length <= 10 := qk 10 _; have Li:(v.names.getD i jz).size <= 40 := (f9 k9).2 _ (by simp[show i<v.names.length by omega]); simp only[aa] at D6; have ss := Hb.grow lL; refine gY ?_; refine ia ((hR lL).cell 4 iz) ?_; refine gY ?_; refine WL.idx i (no+i) rfl rfl rfl rfl rfl rfl rfl rfl gZ gZ ?_; refine ia ((ss.below.cell (p := ⟨nb, no+i, none⟩) tj).trans rC) ?_; refine WL.call rfl rfl rfl rfl rfl func162 rfl (by kernel_rfl) (Kp jC (by rw[aa]; omega)) ?_; rintro _ w5 ⟨b5, rfl, oY, Bg⟩; refine⟨_, rfl, ?_⟩; have g5 := lL.trans Bg; refine gY ?_; refine ia ((hR g5).cell 5 iz) ?_; refine gY ?_; refine iG i (ko+i*6) je ?_; have QH := Hb.grow g5; refine ig (fun j u hu=>(QH.below.cell (p := ⟨kb, ko+i*6+j, none⟩) oN).trans (mo j u hu)) mO ?_; refine il func151 (ih (w0 := w0) pj (CA i je) oY QH (by rw[aa, aa, aa]; omega)) ?_; rintro _ w6 ⟨b6, rfl, qA, Fa⟩; refine⟨_, rfl, ?_⟩; refine gY ?_; refine WQ.again (i+1, b6) iW ⟨je, ?_, g5.trans Fa⟩ (by show v.kids.length - (i+1)<v.kids.length - i; omega)
      show Bu w6 b6 (M++(List.range (i+1)).flatMap _)
      rw[kG, AM]
      simpa[ao] using qA
    · obtain rfl:i=v.kids.length := gZ
      refine gY ?_; exact g_ (fin (by rw[Pv]; exact jC) lL mK.symm)
theorem GF:∀(m:Nat) {f:Nat}{w0 w:World}{v:V}{cs:List Value}{b:Value}{l:List Int}, kH f w0 v cs -> chk m v=0 -> Bu w b l -> na w0 w b -> l.length+(encV m v).length <= 70368744177664 ->
      Calls prog 151 #[b, .agg cs.toArray] w fun e w'=>∃b', e=.returned b' /\ Bu w' b' (l++encV m v) /\ jv w b w' b'
  | 0, _, _, _, _, _, _, _, _, h, _, _, _=>by cases h
  | m+1, _, _, _, _, _, _, _, hv, hc, hb, ha, hm=>Rl m (GF m) hv hc hb ha hm
def digsF:Nat -> Nat -> List Nat
 | 0,_=>[]
 | f+1,u=>if u=0 then[] else u % 10 :: digsF f (u / 10)
def kS (u:Nat):List Nat:=digsF 20 u
def nzs:List Nat -> List Nat
 | []=>[]
 | a :: r=>if a=0 then nzs r else a :: r
theorem Ze (A:List Nat) (d:Nat): nzs (A++[d])=if nzs A=[] then(if d=0 then[] else[d]) else nzs A++[d]:=by
 induction A with
 | nil=>simp[nzs]
 | cons a A ih=>
  rw[aT,nzs,nzs]
  by_cases h:a=0
  ·rw[if_pos h,if_pos h,ih]
  ·rw[if_neg h,if_neg h,if_neg iz];simp
theorem rI:∀(f u:Nat),(digsF f u).length <= f
 | 0,_=>by simp[digsF]
 | f+1,u=>by
  unfold digsF
  split
  ·simp
  ·simp[rI f (u / 10)]
theorem vn:∀(f u:Nat),∀d∈digsF f u,d<10
 | 0,_,d,h=>by simp[digsF] at h
 | f+1,u,d,h=>by
  unfold digsF at h
  split at h
  ·simp at h
  ·rcases ar.1 h with rfl|h
   ·omega
   ·exact vn f (u / 10) d h
theorem Ja (l:List Nat): ∀d∈nzs l,d∈l:=by
 induction l with
 | nil=>intro d h;exact h
 | cons a l ih=>
  intro d h;unfold nzs at h
  split at h
  ·exact az _ (ih d h)
  ·exact h
theorem xV (l:List Nat): (nzs l).length <= l.length:=by
 induction l with
 | nil=>simp[nzs]
 | cons a l ih=>unfold nzs;split<;>simp<;>omega
def GC (ds:List Nat):List Int:=(nzs ds).reverse.map fun d:Nat=>(d:Int)+1
def xi (ds:List Nat) (s:Int):List Int:=((ds.length:Int) - s+192) % 256 :: GC ds++[0]
def pA (l:List Int):List Int:=l.map fun c=>255 - c
def xe (n s:Int):List Int:=if n=0 then[128] else if n<0 then pA (xi (kS n.natAbs) s) else xi (kS n.natAbs) s
theorem Mr (u:Nat) (s:Int): (xi (kS u) s).length <= 22:=by
 have h1:=xV (kS u);have h2:(kS u).length <= 20:=rI 20 u;simp[xi,GC]
 omega
theorem MT (n s:Int): (xe n s).length <= 22:=by
 unfold xe;have:=Mr n.natAbs s
 split
 ·simp
 ·split
  ·simpa[pA] using this
  ·exact this
theorem Qe (u:Nat): ∀c∈GC (kS u),1 <= c /\ c <= 10:=by
 intro c hc;unfold GC at hc;obtain⟨d,hd,rfl⟩:=bg.1 hc;have:=vn 20 u d (Ja _ d (fc.1 hd));omega
theorem Aj (u:Nat) (s:Int): ∀c∈xi (kS u) s,0 <= c /\ c <= 255:=by
 intro c hc;unfold xi at hc;simp only[aq,ar,List.mem_nil_iff,dG] at hc;rcases hc with(rfl|hc)|rfl
 ·omega
 ·have:=Qe u c hc;omega
 ·omega
def my (k:Int):Int:=if k <= 2 then 16*k else if k <= 4 then 48 else 16*(k - 1)
def yM (v:Int):List Int:=[v / 16777216 % 256,v / 65536 % 256,v / 256 % 256,v % 256]
def EZ (v:Int):List Int:=yM (v / 4294967296)++yM (v % 4294967296)
def textP:List UInt8 -> List Int
 | []=>[]
 | c :: r=>if c=0 then 0 :: 255 :: textP r else(c.toNat:Int) :: textP r
def oX (s:List UInt8):List Int:=textP s++[0,0]
theorem Q8 (l:List UInt8) (c:UInt8): textP (l++[c])=textP l++if c=0 then[0,255] else[(c.toNat:Int)]:=by
 induction l with
 | nil=>rw[aH,textP];split<;>simp_all [textP]
 | cons a l ih=>rw[aT,textP,ih,textP];by_cases h:a=0<;>simp[h]
theorem yz (l:List UInt8): (textP l).length <= 2*l.length:=by
 induction l with
 | nil=>simp[textP]
 | cons a l ih=>rw[textP];split<;>simp<;>omega
def mQ (ky:V -> List Int) (st:Bool) (names:List ByteArray) (kids:List V) (j:Nat):List Int :=
 (if st then 1 :: oX (names.getD j jz).toList else[])++ky (kids.getD j lH)
def keyV:Nat -> V -> List Int
  | 0, _=>[]
  | m+1, v=>my v.k ::
    (if v.k=2 then[v.n] else if v.k=3 \/ v.k=4 then xe v.n v.s else if v.k=5 then EZ v.n else if v.k=6 \/ v.k=7 then oX v.t.toList
     else if v.k=8 \/ v.k=9 then(List.range v.kids.length).flatMap (mQ (keyV m) (decide (v.k=9)) v.names v.kids)++[0] else[])
def me (m:Nat) (l:List V):List Int:=l.flatMap (keyV m)
theorem Na {v:Value}(s:ByteArray) (h:Bu w v l) (hm:l.length+(2*s.size+2) <= 140737488355328):
  Calls prog 101 #[v,.string s] w fun e w'=>∃v',e=.returned v' /\ Bu w' v' (l++oX s.toList) /\ jv w v w' v':=by
 have lU:s.toList.length=s.size:=by rw[aD];rfl
 refine enter (args:=[v,.string s]) func101 rfl ntmps101 rfl ?_;refine gY ?_;refine WL.bytesOf rfl rfl rfl rfl rfl rfl rfl rfl gZ fun g c w1 pS mj qD=>?_;refine gY ?_;refine WC.loop (fun i:Nat × Value=>[(0,i.2),(8,.slice (some ⟨g,0,none⟩) s.size c),(9,Iq s.size),(10,Iq i.1)]) (fun i wr=>i.1 <= s.size /\ Bu wr i.2 (l++textP (s.toList.take i.1)) /\ jv w1 v wr i.2) (fun i=>s.size - i.1) (0,v)
  iW ⟨aw _,by simpa[textP] using h.below mj,jv.refl w1 v⟩ ?_
 rintro⟨k,vv⟩ wr ⟨hk,jC,lL⟩;simp only at hk jC lL ⊢;have OE:=pS.ij lL.1 fun b o n c e hb=>⟨hb,fun e2=>by cases e;have:=h.lt _ e2;omega⟩
 by_cases tk:k<s.size
 ·have mN:(textP (s.toList.take k)).length <= 2*k:=aU (yz _) (by rw[aE];omega)
  have wo:s.toList.take (k+1)=s.toList.take k++[s.toList.getD k 0]:=by
   rw[aJ];simp[lU,tk]
  have Yr:=Q8 (s.toList.take k) (s.toList.getD k 0);rw[<- wo] at Yr;have Hy:=GP s tk;generalize s.toList.getD k 0=c at Yr Hy;refine gY ?_;refine WL.ahA k rfl rfl rfl rfl rfl rfl OE rfl rfl (by rw[qf];exact tk) fun p hp=>?_;rw[Hy] at hp;refine ia hp ?_;refine gY ?_;refine WL.push rfl rfl rfl rfl rfl rfl rfl rfl rfl rfl rfl (fun _=>rfl) rfl jC (by simp;omega) fun v1 w2 jg lN=>?_;refine gY ?_;refine WC.akk rfl (fun hc=>?_) (fun hc=>?_)
  ·have vO:c=0:=cL (by simpa using Int.ofNat.inj hc)
   rw[if_pos vO] at Yr;subst vO;refine gY ?_;refine WL.push rfl rfl rfl rfl rfl rfl rfl rfl rfl rfl rfl (fun _=>rfl) rfl jg (by simp;omega) fun v2 w3 jF mP=>?_;refine gY ?_;refine WQ.again (k+1,v2) iW ⟨tk,?_,(lL.trans lN).trans mP⟩ (by show s.size - (k+1)<s.size - k;omega);rw[Yr]
   simpa using jF
  ·rw[if_neg (fun e=>hc (by rw[e];rfl))] at Yr
   refine gY ?_;refine WQ.again (k+1,v1) iW ⟨tk,?_,lL.trans lN⟩ (by show s.size - (k+1)<s.size - k;omega);rw[Yr,<- ao];exact jg
 ·obtain rfl:k=s.size:=gZ
  have mN:(textP (s.toList.take s.size)).length <= 2*s.size:=aU (yz _) (by rw[aE];omega);refine gY ?_;refine WL.push rfl rfl rfl rfl rfl rfl rfl rfl rfl rfl rfl (fun _=>rfl) rfl jC (by simp;omega) fun v1 w2 jg lN=>?_;refine gY ?_;refine g_ ⟨_,rfl,?_,?_⟩
  ·rw[<- lU,aI] at jg
   unfold oX;rw[<- ao];exact jg
  ·exact((jv.refl w v).below mj).trans (lL.trans lN)
theorem WR {x y:Int}(h:x=y): Ending.returned (.int .u8 x)=.returned (.int .u8 y):=by rw[h]
theorem Ut (k:Int) (w:World) (h1:1 <= k) (h9:k <= 9):
  Calls prog 98 #[Iq k] w fun e w'=>e=.returned (.int .u8 (my k)) /\ w=w':=by
 refine iY func98 ntmps98 ?_;have UU:((2 ^ min 4 IntKind.i64.bits:Nat):Int)=16:=rfl
 by_cases h4:k <= 4
 ·have he:k=1 \/ k=2 \/ k=3 \/ k=4:=gZ
  rcases he with rfl|rfl|rfl|rfl
  all_goals
   refine gY ?_;exact WQ.uT rfl rfl ⟨WR j9,rfl⟩
 ·refine gY ?_
  refine g_ ⟨WR ?_,rfl⟩;rw[UU,bG _ gZ,bB];unfold my;rw[if_neg gZ,if_neg h4];omega
theorem Jg (v:Int) (w:World) (_h0:0 <= v):
  Calls prog 131 #[.int .u32 v] w fun e w'=>∃b,e=.returned b /\ Bu w' b (yM v) /\ iB w w' /\ ∀g,b.ownBlock=some g -> w.heap.size <= g:=by
 refine iY func131 ntmps131 ?_;refine gY ?_;refine WL.lit rfl rfl rfl rfl rfl rfl rfl fun b w' hb h1 h2=>?_;refine gY ?_;refine g_ ⟨b,rfl,?_,h1,h2⟩;simp only[bB] at hb;exact hb
theorem acR (v:Int) (w:World) (h0:0 <= v) (hv:v<18446744073709551616):
  Calls prog 100 #[.int .u64 v] w fun e w'=>∃b,e=.returned b /\ Bu w' b (EZ v) /\ iB w w' /\ ∀g,b.ownBlock=some g -> w.heap.size <= g:=by
 refine iY func100 ntmps100 ?_;have e1:IntKind.u32.wrap (v / ((2 ^ min 32 IntKind.u64.bits:Nat):Int))=v / 4294967296:=by
  rw[show((2 ^ min 32 IntKind.u64.bits:Nat):Int)=4294967296 from rfl,IntKind.wrap_u32];omega
 have e2:=IntKind.wrap_u32 v;refine gY ?_;refine WL.call rfl rfl rfl rfl rfl func131 rfl (by kernel_rfl) (by rw[e1];exact Jg _ w gZ) ?_;rintro e w1 ⟨b1,rfl,mj,k1,g1⟩;refine⟨b1,rfl,?_⟩;refine gY ?_;refine WL.call rfl rfl rfl rfl rfl func131 rfl (by kernel_rfl) (by rw[e2];exact Jg _ w1 gZ) ?_;rintro e w2 ⟨b2,rfl,jg,k2,g2⟩;refine⟨b2,rfl,?_⟩;refine WL.app rfl rfl rfl rfl rfl (mj.below k2) rfl jg.sl (by simp[yM]) fun b w3 hb gr=>?_;refine gY ?_;refine g_ ⟨b,rfl,hb,?_,?_⟩
 ·exact(k1.iR k2).trans (gr.old (aU k1.size k2.size) g1)
 ·exact gr.own (aU k1.size k2.size) g1
theorem abF (x:Int): IntKind.i8.wrap x=(x+128) % 256 - 128:=by simp[IntKind.wrap,IntKind.bits,IntKind.signed];omega
theorem aeY (a:Int) (h0:0 <= a) (h1:a <= 255): bits .xor .u8 (if IntKind.u8.signed=true then -1 else IntKind.u8.max) a=255 - a:=by
 have h:∀x:Fin 256,bits .xor .u8 (if IntKind.u8.signed=true then -1 else IntKind.u8.max) (x.val:Int)=255 - (x.val:Int):=by decide +kernel
 have:=h ⟨a.toNat,gZ⟩
 simpa[Int.toNat_of_nonneg h0] using this
theorem RX (x s:Int) (w:World) (Lr:-9223372036854775808 <= x) (hx1:x <= 9223372036854775807) (hs0:0 <= s) (pS:s <= 18):
  Calls prog 99 #[Iq x,Iq s] w fun e w'=>∃b,e=.returned b /\ Bu w' b (xe x s) /\ iB w w' /\ ∀g,b.ownBlock=some g -> w.heap.size <= g:=by
 refine iY func99 ntmps99 ?_
 by_cases h0:x=0
 ·subst h0
  refine gY ?_;refine WL.lit rfl rfl rfl rfl rfl rfl rfl fun b w' hb h1 h2=>?_;refine gY ?_;exact g_ ⟨b,rfl,hb,h1,h2⟩
 ·have h0x:=h0
  have hu:x.natAbs <= 9223372036854775808:=gZ;obtain⟨u,hue⟩:∃u,x.natAbs=u:=⟨_,rfl⟩;rw[hue] at hu;have hu0:¬u=0:=gZ;have e1:x<0 -> IntKind.u64.wrap (0 - IntKind.u64.wrap x)=(u:Int):=fun h=>by rw[aW,aW];omega
  have e2:¬x<0 -> IntKind.u64.wrap x=(u:Int):=fun h=>by rw[aW];omega
  refine gY ?_;refine WC.sa (fun _:Unit=>[(0,Iq x),(1,Iq s),(5,.int .u64 u)]) (fun _ w'=>w=w') rfl ?_ ?_
  ·by_cases hn:x<0
   ·refine WC.qg rfl hn ?_
    refine gY ?_;exact WQ.meet () ⟨rfl,rfl,congrArg (fun z=>some (Value.int .u64 z)) (e1 hn),trivial⟩ rfl
   ·refine WC.pE rfl hn ?_
    refine gY ?_;exact WQ.meet () ⟨rfl,rfl,congrArg (fun z=>some (Value.int .u64 z)) (e2 hn),trivial⟩ rfl
  clear e1 e2;rintro _ _ rfl;refine gY ?_;refine WC.loop (fun i:Nat × Nat × List Nat × Value=>[(0,Iq x),(5,.int .u64 i.2.1),(6,Iq (i.2.2.1.length - s)),(7,i.2.2.2)])
   (fun i w'=>(kS u=i.2.2.1++digsF i.1 i.2.1 /\ i.1+i.2.2.1.length=20 /\ i.2.1<10 ^ i.1 /\ i.2.1 <= u) /\ Bu w' i.2.2.2 ((nzs i.2.2.1).map fun d:Nat=>(d:Int)+1) /\ iB w w' /\ ∀g,i.2.2.2.ownBlock=some g -> w.heap.size <= g)
   (fun i=>i.2.1) (20,u,[],.slice none 0 0) ⟨rfl,rfl,congrArg (fun z=>some (Value.int .i64 z)) iz,rfl,trivial⟩ ⟨⟨rfl,rfl,by show u<10 ^ 20;omega,af _⟩,Bu.nil w,Below.refl _ _,fun g hg=>by cases hg⟩ ?_
  rintro⟨f,c,A,b⟩ wr ⟨⟨hA,hf,hc,NL⟩,hb,jP,iJ⟩;simp only at hA hf hc NL hb jP iJ ⊢;have iS:=vn 20 u
  by_cases h0:c=0
  ·subst h0
   have hAu:A=kS u:=by rw[hA];cases f<;>simp[digsF]
   have j7:(kS u).length <= 20:=rI 20 u;have Rr:=xV (kS u);subst hAu;clear hA hf hc NL;have e14:IntKind.u8.wrap (IntKind.u8.wrap (IntKind.i8.wrap (((kS u).length:Int) - s))+192)=(((kS u).length:Int) - s+192) % 256:=by
    rw[bB,bB,abF];omega
   refine gY ?_;refine WL.lit rfl rfl rfl rfl rfl rfl rfl fun b0 w1 Es k0 g0=>?_;rw[e14] at Es;have yC:(List.map (fun d:Nat=>(d:Int)+1) (nzs (kS u))).length=(nzs (kS u)).length:=av _;have apM:GC (kS u)=(List.map (fun d:Nat=>(d:Int)+1) (nzs (kS u))).reverse:=by unfold GC;rw[List.map_reverse]
   have hpos:xi (kS u) s=(((kS u).length:Int) - s+192) % 256 :: (List.map (fun d:Nat=>(d:Int)+1) (nzs (kS u))).reverse++[0]:=by unfold xi;rw[apM]
   have hpr:=Aj u s;have mN:=Mr u s;generalize hR:List.map (fun d:Nat=>(d:Int)+1) (nzs (kS u))=R at hb yC hpos;generalize hH:(((kS u).length:Int) - s+192) % 256=H at Es hpos;obtain⟨sp,cc,rfl,-,-⟩:=hb.form;refine gY ?_;refine WC.loop (fun i:Nat × Value=>[(0,Iq x),(7,.slice sp R.length cc),(9,i.2),(10,Iq ((i.1:Int) - 1))])
    (fun i w'=>i.1 <= R.length /\ Bu w' i.2 (H :: (R.drop i.1).reverse) /\ iB wr w' /\ ∀g,i.2.ownBlock=some g -> wr.heap.size <= g)
    (fun i=>i.1) (R.length,b0) iW ⟨af _,by simpa using Es,k0,g0⟩ ?_
   rintro⟨k,vv⟩ wr2 ⟨hk,jg,vB,qV⟩;simp only at hk jg vB qV ⊢
   by_cases K9:k=0
   ·subst K9
    refine gY ?_;refine WL.push rfl rfl rfl rfl rfl rfl rfl rfl rfl rfl rfl (fun _=>rfl) rfl jg (by simp;omega) fun v3 w3 jF mP=>?_;have WS:Bu w3 v3 (xi (kS u) s):=by rw[hpos];simpa using jF
    have xw:=(jP.iR vB).trans (mP.old (aU jP.size vB.size) fun g hg=>aU jP.size (qV g hg));have J1:=mP.own (aU jP.size vB.size) fun g hg=>aU jP.size (qV g hg);clear jF;refine gY ?_
    by_cases hn:x<0
    ·refine WC.qg rfl hn ?_
     generalize hF:xi (kS u) s=F at WS hpr mN;obtain⟨Vx,c3,rfl,-,-⟩:=WS.form;refine gY ?_;refine WC.loop (fun k:Nat=>[(9,.slice Vx F.length c3),(69,.slice Vx F.length c3),(70,Iq F.length),(71,Iq k)])
      (fun k w'=>k <= F.length /\ Bu w' (.slice Vx F.length c3) (pA (F.take k)++F.drop k) /\ iB w w') (fun k=>F.length - k) 0 iW ⟨aw _,by simpa[pA] using WS,xw⟩ ?_
     rintro k wr3 ⟨hk,lD,uA⟩;have vW:(pA (F.take k)++F.drop k).length=F.length:=by simp[pA];omega
     by_cases O5:k<F.length
     ·obtain⟨g,c',hv,hog,DF,zP,oy⟩:=lD.at (j:=k) (by rw[vW];exact O5)
      obtain rfl:Vx=some ⟨g,0,none⟩:=by injection hv
      have jh:F.drop k=nth F k :: F.drop (k+1):=by
       rw[bp O5];simp[nth,O5]
      have so:(pA (F.take k)).length=k:=by simp[pA];omega
      have hnk:nth (pA (F.take k)++F.drop k) k=nth F k:=by
       rw[jh];unfold nth;rw[ag,ay gZ,so];simp
      have IN:=hpr (nth F k) (by unfold nth;rw[ag,ah O5];exact aN O5);have hfp:=aeY (nth F k) IN.1 IN.2;rw[hnk] at DF;have rS:=oy (255 - nth F k);refine gY ?_;refine iG (hq:=gZ) k k O5 ?_;refine ia DF ?_;refine gY ?_;refine iG (hq:=gZ) k k O5 ?_;refine WL.store (v:=.int .u8 (255 - nth F k)) rfl rfl rfl rfl (congrArg (fun z=>some (Value.int .u8 z)) hfp) rfl (by kernel_rfl) DF zP ?_;refine gY ?_;refine WQ.again (k+1) iW ⟨O5,?_,uA.trans (rS.2.old uA.size fun g2 lN=>J1 g2 lN)⟩ (by show F.length - (k+1)<F.length - k;omega);have he:(pA (F.take k)++F.drop k).set k (255 - nth F k)=pA (F.take (k+1))++F.drop (k+1):=by
       rw[jh,cN _ _ gZ,so,gm,dy];have:F.take (k+1)=F.take k++[nth F k]:=by
        rw[aJ];simp[nth,O5]
       rw[this];simp[pA]
      rw[he] at rS;exact rS.1
     ·obtain rfl:k=F.length:=gZ
      refine gY ?_;refine g_ ⟨_,rfl,?_,uA,J1⟩;unfold xe;rw[if_neg h0x,if_pos hn,hue,hF]
      simpa using lD
    ·refine WC.pE rfl hn ?_
     refine gY ?_;refine g_ ⟨_,rfl,?_,xw,J1⟩;unfold xe;rw[if_neg h0x,if_neg hn,hue];exact WS
   ·obtain⟨k,rfl⟩:∃k',k=k'+1:=⟨k - 1,gZ⟩
    refine gY ?_;refine WL.ahA k rfl rfl rfl rfl rfl rfl (hb.sl.ic vB) rfl gZ gZ fun p hp=>?_;refine ia hp ?_;refine WL.push rfl rfl rfl rfl rfl rfl rfl rfl rfl rfl rfl (fun _=>rfl) rfl jg (by simp;omega) fun v3 w3 jF mP=>?_;refine gY ?_;refine WQ.again (k,v3) ⟨rfl,rfl,rfl,congrArg (fun z=>some (Value.int .i64 z)) iz,trivial⟩ ⟨by show k <= R.length;omega,?_,vB.trans (mP.old vB.size qV),mP.own vB.size qV⟩ (by show k<k+1;omega);have jh:R.drop k=nth R k :: R.drop (k+1):=by
     rw[bp gZ];simp[nth,show k<R.length by omega]
    show Bu w3 v3 (H :: (R.drop k).reverse)
    rw[jh,fO];exact jF
  ·obtain⟨f,rfl⟩:∃f',f=f'+1:=⟨f - 1,by cases f with|zero=>simp at hc;omega|succ f=>rfl⟩
   have tO:digsF (f+1) c=c % 10 :: digsF f (c / 10):=by rw[digsF,if_neg h0]
   have hA2:kS u=(A++[c % 10])++digsF f (c / 10):=by rw[hA,tO];simp
   have Ly:=Ze A (c % 10);have Rr:=xV A;have arh:c / 10<10 ^ f:=by rw[dg] at hc;omega
   have hw:IntKind.u8.wrap ((c:Int).tmod 10)=((c % 10:Nat):Int):=by
    rw[bB,Int.tmod_eq_emod_of_nonneg gZ];omega
   have Q2:IntKind.u8.wrap (IntKind.u8.wrap ((c:Int).tmod 10)+1)=((c % 10:Nat):Int)+1:=by rw[hw,bB];omega
   have hq:IntKind.u64.wrap ((c:Int).tdiv 10)=((c / 10:Nat):Int):=by
    rw[aW,dU gZ];omega
   have hlm:(List.map (fun d:Nat=>(d:Int)+1) (nzs A)).length=(nzs A).length:=av _;obtain⟨sp,cc,rfl,-,-⟩:=hb.form;have fin:∀b w',Bu w' b ((nzs (A++[c % 10])).map fun d:Nat=>(d:Int)+1) -> iB w w' -> (∀g,b.ownBlock=some g -> w.heap.size <= g) -> (kS u=(A++[c % 10])++digsF f (c / 10) /\ f+(A++[c % 10]).length=20 /\ c / 10<10 ^ f /\ c / 10 <= u) /\ Bu w' b ((nzs (A++[c % 10])).map fun d:Nat=>(d:Int)+1) /\ iB w w' /\ ∀g,b.ownBlock=some g -> w.heap.size <= g :=
    fun b w' h1 h2 h3=>⟨⟨hA2,by simp;omega,arh,gZ⟩,h1,h2,h3⟩
   have e6:(A.length:Int) - s+1=((A++[c % 10]).length:Int) - s:=by simp;omega
   by_cases hd:c % 10=0
   ·by_cases hz:nzs A=[]
    ·have VD:(nzs A).length=0:=by rw[hz];rfl
     rw[hz,if_pos rfl,if_pos hd] at Ly;refine gY ?_;refine WQ.again (f,c / 10,A++[c % 10],_) ⟨rfl,congrArg (fun z=>some (Value.int .u64 z)) hq,congrArg (fun z=>some (Value.int .i64 z)) e6,rfl,trivial⟩ (fin _ _ ?_ jP iJ) (by show c / 10<c;omega);rw[Ly,<- hz];exact hb
    ·have VD:0<(nzs A).length:=by cases hl:nzs A with|nil=>exact(hz hl).elim|cons a r=>simp
     rw[if_neg hz] at Ly;refine gY ?_;refine WL.push rfl rfl rfl rfl rfl rfl rfl rfl rfl rfl rfl (fun _=>rfl) rfl hb (by simp;omega) fun v3 w3 jF mP=>?_;refine gY ?_;refine WQ.again (f,c / 10,A++[c % 10],v3) ⟨rfl,congrArg (fun z=>some (Value.int .u64 z)) hq,congrArg (fun z=>some (Value.int .i64 z)) e6,rfl,trivial⟩ (fin _ _ ?_ (jP.trans (mP.old jP.size iJ)) (mP.own jP.size iJ)) (by show c / 10<c;omega);rw[Ly,aK];rw[Q2] at jF;exact jF
   ·have aok:nzs (A++[c % 10])=nzs A++[c % 10]:=by
     rw[Ly]
     by_cases hz:nzs A=[]
     ·rw[if_pos hz,if_neg hd,hz];rfl
     ·rw[if_neg hz]
    refine gY ?_;refine WL.push rfl rfl rfl rfl rfl rfl rfl rfl rfl rfl rfl (fun _=>rfl) rfl hb (by simp;omega) fun v3 w3 jF mP=>?_;refine gY ?_;refine WQ.again (f,c / 10,A++[c % 10],v3) ⟨rfl,congrArg (fun z=>some (Value.int .u64 z)) hq,congrArg (fun z=>some (Value.int .i64 z)) e6,rfl,trivial⟩ (fin _ _ ?_ (jP.trans (mP.old jP.size iJ)) (mP.own jP.size iJ)) (by show c / 10<c;omega);rw[aok,aK];rw[Q2] at jF;exact jF
end K
end Go.Proofs.YtlenklobbngopaaGreat
