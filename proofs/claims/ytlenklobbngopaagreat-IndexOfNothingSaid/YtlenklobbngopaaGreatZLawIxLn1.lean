/-
  For every name and every value the law IndexOfNothing answers true, and the arguments read as they did. No condition.
-/
import Derived.Test.YtlenklobbngopaaGreatZIxB11
set_option maxHeartbeats 64000000
set_option maxRecDepth 100000
set_option linter.all false
namespace Go.Proofs.YtlenklobbngopaaGreat
open _root_.Go.Proofs.Tryz
open Go.RowKit Go.Maps
namespace Ix
open K
theorem Oe {w:World}{f:Nat}{v:V}{cs:List Value}(h:kH f w v cs) (hm:o_ f v) (s:ByteArray) (hs:s.size <= 140737488355328):
  Calls prog 3 #[.string s,.agg cs.toArray] w fun e w'=>e=.returned (.bool true) /\ iB w w':=by
 obtain⟨f,rfl⟩:∃g,f=g+1:=by
  cases f with
  | zero=>exact h.elim
  | succ g=>exact⟨g,rfl⟩
 have pY:=h.len;refine iY (args:=[.string s,.agg cs.toArray]) func3 ntmps3 ?_;refine ku ?_;refine iC fun g1 w1 nh=>?_;have v1:h_ IL w1 g1 cs:=nh.blk;have b1:=nh.below;have e1:=nh.eq;have s1:=nh.size;clear nh;refine gY ?_;refine ix (z:=Iq 0) (fun _=>by kernel_rfl) fun pb w3 tS=>?_;have Bp:h_ 3 w3 pb [Iq 0]:=tS.blk;have e3:=tS.eq;have mG:=b1.iR tS.below;have B1:=h_.below v1 tS.below (h_.lt v1);have uK:w.heap.size <= pb:=by have:=b1.size;omega
 have qD:g1≠pb:=gZ;clear tS v1 b1;refine gY ?_;refine iD (v:=Iq 0) (Bp.cell 0 iz) (Bp.free 0) ?_;have RM:h_ 3 (w3.setCell ⟨pb,0,none⟩ (Iq 0)) pb [Iq 0]:=Bp.set 0 (Iq 0);have He:h_ IL (w3.setCell ⟨pb,0,none⟩ (Iq 0)) g1 cs:=B1.other _ _ qD;have nR:iB w (w3.setCell ⟨pb,0,none⟩ (Iq 0)):=ib.below ((ib.ic mG).setCell (fun hk=>by simp only at hk;omega) _);generalize w3.setCell ⟨pb,0,none⟩ (Iq 0)=w4 at RM He nR;clear B1 Bp mG
 by_cases h5:(500:Int)<s.size
 ·refine gY ?_
  exact g_ ⟨rfl,nR⟩
 refine gY ?_;refine ig (h_.rangeAt He) pY ?_;refine WL.on rfl rfl ?_;refine i_ func7 (vU (n:=0) (f+1) h hm nR uK RM gZ) ?_;rintro w5 ⟨-,mz⟩
 have nY:=nR.trans (ib.below (ib.mono mz fun b (hb:b<w.heap.size)=>⟨ak hb nR.size,gZ⟩));have RH:=He.ij mz ⟨He.lt,qD⟩
 by_cases arN:2000<grt 2000 (f+1) v 0
 ·refine gY ?_
  exact g_ ⟨rfl,nY⟩
 have jU:=SS hm arN;refine gY ?_;refine iE (oH X5 (.slice none 0 0)) (by kernel_rfl) ?_;refine i_ func8 Zs ?_;rintro w6 b6
 have vL:=nY.iR b6;have SX:=h_.below RH b6 (h_.lt RH);refine gY ?_;refine ig (h_.rangeAt SX) pY ?_;refine i_ func9 XJ ?_;rintro w7 b7
 have VP:=vL.iR b7;have Tz:=h_.below SX b7 (h_.lt SX);refine gY ?_;refine ig (h_.rangeAt Tz) pY ?_;refine ig (h_.rangeAt Tz) pY ?_;refine i_ func10 Y9 ?_;rintro w8 b8
 have OJ:=VP.iR b8;have B18:=h_.below Tz b8 (h_.lt Tz);refine gY ?_;refine il func11 ZK ?_;rintro _ w9 ⟨sb,mb,S,rfl,hS,b9⟩;refine⟨_,rfl,?_⟩;have hw9:=OJ.iR b9;have B19:=h_.below B18 b9 (h_.lt B18);clear He RH SX Tz B18 RM;have kK:Cat.sM ((1:Int),s):=⟨(show(Lit.int .i64 1).wf=true by decide),by show s.size <= maxLen;unfold maxLen;omega⟩;refine gY ?_;refine ig (h_.rangeAt B19) pY ?_;refine il func9 (GK hS (fun _ _ e=>by cases e) kK (h.below hw9) jU) ?_;rintro _ qZ ⟨hi,-,D8,va,rfl,Oi⟩;refine⟨_,rfl,?_⟩;have aqv:=hw9.iR D8;obtain⟨spa,cpa,rfl,-⟩:=Oi;have kU:(Pm (fun _=>none) 1 s v hi).length=0:=rfl;rw[kU];refine gY ?_;refine il func12 ag5 ?_;rintro _ wx ⟨rfl,ex⟩;subst ex;refine⟨_,rfl,?_⟩;refine gY ?_;refine il func12 (MS (hS.below D8) kK) ?_;rintro _ wx ⟨rfl,ex⟩;subst ex;refine⟨_,rfl,?_⟩;refine gY ?_;refine i_ func13 vD ?_;rintro UG zN
 refine gY ?_;exact g_ ⟨rfl,aqv.iR zN⟩
end Ix
end Go.Proofs.YtlenklobbngopaaGreat
namespace Go.Proofs.YtlenklobbngopaaGreat.indexOfNothing
open _root_.Go.Proofs.Tryz
open Go.ChangeShapes Go.WideShapes Go.ChangeAt Go.RowKit
open Go.ChangeMaps (open_string shut_string)
open Go.Proofs.YtlenklobbngopaaGreat
theorem lifted (os:Os) (started:os.Started) (H:Type) (enc:TypeId × Value -> H):
  ReturnsInHanded {} Tryz.checked os 3 .any (Rows.indexOfNothingSpec.pre6 enc prog Tryz.f3 Rows.indexOfNothingRow.domain false) (Rows.indexOfNothingSpec.post enc prog Tryz.f3 false true false false):=by
 refine eV (C:=Tryz.checked) Tryz.ownKnob started (by kernel_rfl) func3
  (ChangeSpec.witness6 (enc:=enc) (C:=Tryz.checked) false ⟨#[],#[.string ByteArray.empty,.agg #[Iq 0,Iq 0,Iq 0,.string ByteArray.empty,.slice none 0 0,.slice none 0 0]],[]⟩ 8 (by kernel_rfl) (by kernel_rfl) (by kernel_rfl) (by kernel_rfl)) ?_
 intro W base args ds gs before Ik hW apJ j5 _;have xd:∀(j:Nat) t v,Tryz.f3.params[j]? = some t -> args[j]? = some v -> Value.okWide prog W .any base t v:=Ik;have hW':=hW;obtain⟨p,q,hA0,hV,rfl,hfz,zf⟩:=hW;have hA:DataW.TrodAll enc prog W 0 (fun _=>true) true Tryz.f3.params.toList args.toList ds p:=hA0;rw[Tryz.params3] at hA xd;obtain⟨v0,vs0,d0,ds0,p0,q0,ajJ,rfl,rfl,h0,r0⟩:=trodAll_cons hA;obtain⟨v1,vs1,d1,ds1,p1,q1,rfl,rfl,rfl,h1,r1⟩:=trodAll_cons r0;obtain⟨rfl,rfl,rfl⟩:=trodAll_nil r1;obtain rfl:args=#[v0,v1]:=by cases args;simp_all
 obtain⟨rfl,rfl⟩:=trodVars_none hV;have k0:=h0;have lt0:∀x∈p0,x.block<W.heap.size:=by obtain⟨m,hm⟩:=k0;exact DataW.trod_lt m _ _ _ hm
 obtain⟨s0,rfl,eq0,-,hs0⟩:=open_string underlying9 (xd 0 9 v0 rfl rfl) h0;have k1:=h1;have lt1:∀x∈p1,x.block<W.heap.size:=by obtain⟨m,hm⟩:=k1;exact DataW.trod_lt m _ _ _ hm
 obtain⟨f1,x1,c1,rfl,iv1,sm1⟩:=K.Jd (xd 1 25 v1 rfl rfl) h1 (fun n hn=>by have:=bT.1 j5 n (DataW.weights_mem_each (j:=1) rfl rfl n hn);simpa using this);clear hA0 Ik;have z0:s0.size <= 140737488355328:=by
  have:=sized_string j5 (j:=0) rfl (congrArg some eq0);rw[bI] at this;exact aU this j9
 refine(Ix.Oe iv1 sm1 s0 z0).mono fun e W' ⟨he,RP⟩=>?_;subst he;exact⟨_,rfl,_,_,_,[],_,[],hW',trodAll_mk1 (shut_bool underlying4 _),(trodAll_cons_mk (Below.trod Tryz.laid (by kernel_rfl) (of_decide_eq_true (by kernel_rfl)) k0 RP lt0) (trodAll_cons_mk (Below.trod Tryz.laid (by kernel_rfl) (of_decide_eq_true (by kernel_rfl)) k1 RP lt1) trodAll_mk0)),rfl,RP.frame _,fun h=>by cases h⟩
theorem TC: Rows.indexOfNothingRow.holds Tryz.pinned (OpenSpec.ofChange Rows.indexOfNothingSpec) :=
 fY 3 Tryz.f3 rfl rfl rfl rfl rfl rfl rfl ⟨rfl,rfl,rfl,rfl,rfl⟩ rfl rfl rfl rfl rfl (by kernel_rfl) func3 (by kernel_rfl)
  (of_decide_eq_true (by kernel_rfl)) (by unfold Func.isWrapper;first|(rw[if_pos (by decide +kernel)];kernel_rfl)|(rw[if_neg (by decide +kernel)];exact⟨rfl,rfl⟩))
  (fun os started H enc _=>lifted os started H enc)
theorem proved: Rows.IndexOfNothingSaid:=TC
end Go.Proofs.YtlenklobbngopaaGreat.indexOfNothing
