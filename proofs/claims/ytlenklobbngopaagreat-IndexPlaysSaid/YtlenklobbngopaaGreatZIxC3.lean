import Derived.Test.YtlenklobbngopaaGreatZIxC2
set_option maxHeartbeats 64000000
set_option maxRecDepth 100000
set_option linter.all false
namespace Go.Proofs.YtlenklobbngopaaGreat
open _root_.Go.Proofs.Tryz
open Go.RowKit Go.Maps
variable {α:Type}{w w' w0 w1 a:World}{mb c i B b b' f g T u m kn p q rc:Nat}{O O':Nat->Prop}{eF eT Cd:TypeId}{cells:List Value}{tv x:Value}{txt:ByteArray}{tbl:Int}{cs dc:kL}{fr:Nat×Nat}{l:oK}{md:Option (Option Nat)}{oi:Oper}{ps:List (Nat×Value)}{sp:Option Addr}
namespace Cat
theorem laid: laidOutB prog=true:=jG
theorem aiW: (146:TypeId)<prog.types.size:=aR jG
theorem adJ:(match prog.underlying 146 with|some (.array _ _)|some (.struct _)=>true|_=>false)=true:=by rw[underlying146]
theorem keyed: Keyed prog 146:=gK (gp laid (m:=2) I aiW jG adJ)
def vI (x:Int×ByteArray):Prop:=(Lit.int .i64 x.1).wf=true/\x.2.size<=maxLen
theorem keyType: prog.keyType 146=true:=jG
theorem aaH: prog.cellsOf 146=2:=jG
theorem tB: prog.cellsOf 3=1:=jG
theorem strCells: prog.cellsOf 9=1:=jG
theorem rK: prog.types.size+1=(prog.types.size - 1)+1+1:=aR jG
theorem keyOf_pair {P:Program} {k ti ts:TypeId} {f0 f1:Field} (hk:P.underlying k = some (.struct #[f0,f1])) (hi:P.underlying ti = some (.int .i64)) (hs:P.underlying ts = some .string) (t0:f0.type = ti) (o0:f0.offset = 0) (n0:(f0.name != "_") = true) (t1:f1.type = ts) (o1:f1.offset = 1) (n1:(f1.name != "_") = true) (hkt:P.keyType k = true) (hc:P.cellsOf k = 2) (ci:P.cellsOf ti = 1) (cs:P.cellsOf ts = 1) {d:Nat} (hd:P.types.size + 1 = d + 1 + 1) (x:Int × ByteArray) (h1:(Lit.int .i64 x.1).wf = true) (h2:x.2.size <= maxLen): keyOf P k (mk x) = some (.string (keyBytes [.int .i64 x.1,.string x.2.data.toList])):=by
 have e1:(mk x).formed P k=true:=by
  unfold Value.formed mk;simp only[hk,hc]
  rfl
 have e3:P.keyLits (d+1) ti [.int .i64 x.1]=some [.int .i64 x.1]:=by
  unfold Program.keyLits;rw[hi];exact ag ⟨rfl,h1⟩
 have e4:P.keyLits (d+1) ts [.string x.2]=some [.string x.2.data.toList]:=by
  unfold Program.keyLits;rw[hs];exact ag h2
 have e2:P.keyLits (d+1+1) k (mk x).cells.toList=some [.int .i64 x.1,.string x.2.data.toList]:=by
  unfold Program.keyLits;rw[hk];simp only[mk,Value.cells,hc,t0,t1,o0,o1,n0,n1,ci,cs,ak,aL,i_,jl,ff,de,cE,cj,e3,e4,jm,List.all_nil,iv,Array.all_toList.symm,and_self,fI];simp
 unfold keyOf;simp only[hk,hkt,e1,iv,fI,hd,e2,eM]
theorem Ji (x:Int×ByteArray)(h:vI x): ∃kl,keyOf prog 146 (mk x)=some kl :=
 ⟨_,keyOf_pair underlying146 bJ cF rfl rfl lZ rfl rfl lZ keyType aaH tB strCells rK x h.1 h.2⟩
theorem mk_inj (x y:Int×ByteArray)(h:mk x=mk y): x=y:=by
 unfold mk at h;simp at h
 exact eO h.1 h.2
theorem acB (w:World): (zeroValue 4).run prog w=.ok (.bool false) w:=jG
theorem Jc {n:Nat}{L:List Tb}(h:MF prog 146 mk w mb n (xm L))(id:Int)(f:ByteArray)(ok:vI (id,f)):
  (Instr.lookup 142 (.map (some mb)) (.agg #[.int .i64 id,.string f]) false).run prog w=.ok (.bool (has L id f)) w:=by
 obtain⟨kl,hk⟩:=Ji (id,f) ok;have:=h.look keyed d_ (acB w) hk;unfold mk at this;rw[this];unfold xm;cases has L id f<;>rfl
theorem ai5 (dr k:Nat)(h:dr<18446744073709551616): (bits BinOp.and IntKind.u64 ((dr:Int) / 2 ^ k) 1 == 0) = !dr.testBit k:=by
 have h1:((dr:Int) / 2 ^ k)=((dr / 2 ^ k:Nat):Int):=jM;have h2:dr / 2 ^ k<18446744073709551616:=Nat.lt_of_le_of_lt (Nat.div_le_self _ _) h;have h3:=iB (dr / 2 ^ k) 1 h2 I;rw[h1];have h4:((1:Nat):Int)=1:=rfl;rw[h4]at h3;rw[h3,Nat.testBit_eq_decide_div_mod_eq];have h5:dr / 2 ^ k &&& 1=dr / 2 ^ k % 2:=Nat.and_one_is_mod _;rw[h5];rcases Nat.mod_two_eq_zero_or_one (dr / 2 ^ k) with h6|h6<;>simp[h6]
theorem uv {n:Nat}{L:List Tb}(h:m_ w c O n L)(id:Int):
  Calls prog 56 #[.pointer (some ⟨c,0,none⟩),.int .i64 id] w fun e w'=>e=.returned (.bool (there L id))/\w=w':=by
 obtain⟨tv,dr,mb,hc,zk,wB,hO,⟨cells,hT,hI⟩,hB,hM,hG⟩:=h;obtain⟨sp,cap,rfl,xV,qn⟩:=hT.slice;have c0:=hc.cell 0 jM;have c1:=hc.cell 1 jM;have hlen:=hG.len;simp only[al,aA]at c0 c1;have HB:=jU.mk hB
 by_cases h1:id<1
 ·have CE:decide (1<=id)=false:=ar I
  clear hT hI hM hG hO hc hB
  go_enter func56,ntmps56
  go_wp2
  go_ret
  exact⟨by simp[there];omega,rfl⟩
 ·by_cases h2:id<=L.length
  ·obtain⟨k,rfl⟩:∃k:Nat,id=(k+1:Nat):=⟨(id - 1).toNat,I⟩
   have h3:(1:Int)<=(k+1:Nat):=I;clear hT hI hM hG hO hc h1 hB
   go_enter func56,ntmps56
   go_wp2
   go_ret
   refine⟨?_,rfl⟩;have h5:there L ((k+1:Nat):Int) = !dr.testBit k:=by
    rw[HB.out.2 k];have e1:(((k+1:Nat):Int) - 1).toNat=k:=I;unfold there;rw[e1];simp;omega
   rw[h5,<-ai5 dr k HB.out.1]
   rfl
  ·have CE:(1:Int)<=id:=I
   have h2':=ar I;clear hT hI hM hG hO hc hB
   go_enter func56,ntmps56
   go_wp2
   go_ret
   exact⟨by simp[there];omega,rfl⟩
theorem LR {L:List Tb}(hG:Good L)(id:Int)(f:ByteArray)(h:there L id=false): has L id f=false:=by
 unfold there at h;unfold has
 by_cases h1:1<=id
 ·by_cases h2:id<=L.length
  ·simp[h1,h2]at h
   have h3:=(hG.each (id - 1).toNat I).2.2.2 (by simpa using h);rw[h3,Dw];simp
  ·simp[h2]
 ·simp[h1]
theorem ag8 {n:Nat}{L:List Tb}(h:m_ w c O n L)(id:Int)(f:ByteArray)(hf:f.size<=maxLen):
  Calls prog 25 #[.pointer (some ⟨c,0,none⟩),.int .i64 id,.string f] w fun e w'=>e=.returned (.bool (has L id f))/\w=w':=by
 have hh:=h;obtain⟨tv,dr,mb,hc,zk,wB,hO,-,hB,hM,hG⟩:=h;have c2:=hc.cell 2 jM;have hlen:=hG.len;simp only[al,aA]at c2;have HH:=jU.mk hh;cases ht:there L id with
 | false=>
  rw[LR hG id f ht];have HT:=jU.mk ht;clear hc zk wB hO hB hM hG hh ht
  go_enter func25,ntmps25
  go_wp2_with (refine(uv HH.out _).mono ?_;rw[HT.out];rintro e w' ⟨rfl,rfl⟩)
  go_ret
  exact⟨rfl,rfl⟩
 | true=>
  have HT:=jU.mk ht;have hid:1<=id/\id<=64:=by
   unfold there at ht;simp at ht
   omega
  have hl:=Jc hM id f ⟨by simp[Lit.wf,IntKind.min,IntKind.max,IntKind.bits,IntKind.signed];omega,hf⟩;clear hc zk wB hO hB hM hG hh ht hid
  go_enter func25,ntmps25
  go_wp2_with (refine(uv HH.out _).mono ?_;rw[HT.out];rintro e w' ⟨rfl,rfl⟩)
  go_ret
  exact⟨rfl,rfl⟩
theorem nV.j_ {t:Tb}(h:nV eF w O cells i t)(hb:∀b,O b->(∃cur,w.heap[b]? = some (.cells cur eF (0,0)))->w'.heap[b]? = w.heap[b]?): nV eF w' O cells i t :=
 ⟨h.1,h.2.1,h.2.2.1,h.2.2.2.j_ fun g hg=>hb g (h.2.2.2.own hg) (h.2.2.2.tag hg)⟩
theorem uF.jA {L:List Tb}(h:uF eT eF w O tv L){K:Nat->Prop}(hk:Z K w w')(hK:∀b,O b->K b): uF eT eF w' O tv L:=by
 obtain⟨cells,h1,h2⟩:=h;exact⟨cells,h1.jA hk (fun g hg=>hK g (h1.own hg)),fun i hi=>(h2 i hi).j_ fun b hb _=>hk.block b (hK b hb)⟩
theorem m_.jA {n:Nat}{L:List Tb}(h:m_ w c O n L){K:Nat->Prop}(hk:Z K w w')(hK:∀b,O b->K b): m_ w' c O n L:=by
 obtain⟨tv,dr,mb,h1,h2,h3,h4,h5,h6,h7,h8⟩:=h;exact⟨tv,dr,mb,h1.jA hk (hK c h2),h2,h3,fun b hb=>ao (h4 b hb) hk.size,h5.jA hk hK,h6,h7.jA hk (hK mb h3),h8⟩
theorem m_.lt {n:Nat}{L:List Tb}(h:m_ w c O n L): ∀b,O b->b<w.heap.size:=by
 obtain⟨tv,dr,mb,h1,h2,h3,h4,-⟩:=h;exact h4
theorem m_.oP {n:Nat}{L:List Tb}(h:m_ w c O n L): Good L:=by
 obtain⟨tv,dr,mb,h1,h2,h3,h4,h5,h6,h7,h8⟩:=h;exact h8
theorem m_.below {n:Nat}{L:List Tb}(h:m_ w c O n L)(hk:Below B w w')(hB:w.heap.size<=B): m_ w' c O n L :=
 h.jA (Z.jw hk) (fun b hb=>ao (h.lt b hb) hB)
def ZA (w:World)(r:Int×Tb×Int)(e:Ending)(w':World):Prop :=
 ∃sp c,e=.returned (.tuple #[.agg #[.int .i64 r.1,.string r.2.1.name,.bool r.2.1.dropped,.slice sp r.2.1.fs.length c],.int .i64 r.2.2])/\
  jY 100 1 w' (fun b=>w.heap.size<=b) (.slice sp r.2.1.fs.length c) r.2.1.fs.length (r.2.1.fs.map Value.string)/\Below w.heap.size w w'
def kM (L:List Tb)(id:Int):Int×Tb×Int:=if 1<=id/\id<=L.length then(id,L.getD (id - 1).toNat ku,0) else(0,ku,7)
theorem D7: prog.built 98 []=some #[.int .i64 0,.string ByteArray.empty,.bool false,.slice none 0 0]:=jG
theorem oD {n k:Nat}{t:Tb}(h:jY eT 4 w O tv n cells)(hk:k<n)(hI:nV eF w O cells k t):
  ∃g cap,tv=.slice (some ⟨g,0,none⟩) n cap/\n<=cap/\cap<=9223372036854775807/\g<w.heap.size/\O g/\w.cell? ⟨g,k*4,none⟩=some (.int .i64 (k+1:Nat))/\w.cell? ⟨g,k*4+1,none⟩=some (.string t.name)/\w.cell? ⟨g,k*4+2,none⟩=some (.bool t.dropped)/\
   ∃sp c,w.cell? ⟨g,k*4+3,none⟩=some (.slice sp t.fs.length c)/\jY eF 1 w O (.slice sp t.fs.length c) t.fs.length (t.fs.map Value.string):=by
 obtain⟨i0,i1,i2,i3⟩:=hI;have hl:=h.len;rcases h.form with⟨-,rfl,-⟩|⟨g,cap,cur,rfl,hO,j6,hg,h4,h5,h6,h7⟩
 ·omega
 ·have ly:∀j,j<4->w.cell? ⟨g,k*4+j,none⟩=some (cells.getD (k*4+j) undef):=by
   intro j hj;rw[dU h.1 (k*4+j) I];have:k*4+j<cells.length:=I;simp[this]
  obtain⟨sp,c,e3,-,-⟩:=i3.slice;refine⟨g,cap,rfl,h4,by unfold maxLen at h5;exact h5,j6,hO,?_,?_,?_,sp,c,?_,?_⟩
  ·have:=ly 0 I;rw[fO]at this;rw[this,i0]
  ·rw[ly 1 I,i1]
  ·rw[ly 2 I,i2]
  ·rw[ly 3 I,e3]
  ·rw[<-e3];exact i3
theorem yy {n:Nat}{L:List Tb}(h:m_ w c O n L)(id:Int):
  Calls prog 82 #[.pointer (some ⟨c,0,none⟩),.int .i64 id] w (ZA w (kM L id)):=by
 have hz:=ux;have hlen:=h.oP.len;have lG:Below w.heap.size w (w.alloc (.cells #[.int .i64 0,.string ByteArray.empty,.bool false,.slice none 0 0] 98)):=(Below.refl _ w).alloc (aj _) _;have hR:U 98 (w.alloc (.cells #[.int .i64 0,.string ByteArray.empty,.bool false,.slice none 0 0] 98)) w.heap.size [.int .i64 0,.string ByteArray.empty,.bool false,.slice none 0 0]:=U.mk w [.int .i64 0,.string ByteArray.empty,.bool false,.slice none 0 0] _;have h0:=h.below lG (aj _);have HR:=jU.mk hR;have H0:=jU.mk h0;have HB:=jU.mk lG;clear h h0 lG hR
 by_cases h1:id<1
 ·have r1:kM L id=(0,ku,7):=by unfold kM;rw[aa I]
  rw[r1];clear H0 r1
  go_enter func82,ntmps82
  go_wp2_with (first|(refine rB rfl 98 #[] rfl #[.int .i64 0,.string ByteArray.empty,.bool false,.slice none 0 0] D7 ?_)|(refine bV rfl 98 (.tmp 4) (.tmp 21) rfl w.heap.size #[.int .i64 0,.string ByteArray.empty,.bool false,.slice none 0 0] rfl rfl 98 #[.int .i64 0,.string ByteArray.empty,.bool false,.slice none 0 0] HR.out pn rfl (by simp[Value.oneCell']) ?_))
  refine c_ (results_cell_tmp rfl _ _ w.heap.size 98 #[.int .i64 0,.string ByteArray.empty,.bool false,.slice none 0 0] (0,0) _ _ rfl (cI _ _ _ _ _ _ HR.out) eH rfl pn rfl) rfl ⟨none,0,rfl,jY.nil _ _ _ _,below_setRow HB.out (aj _) _⟩
 ·by_cases h2:id<=L.length
  ·obtain⟨k,rfl⟩:∃k:Nat,id=(k+1:Nat):=⟨(id - 1).toNat,I⟩
   have hk:k<L.length:=I;have mW:((k:Int)+1)<=L.length:=I;have h3:(1:Int)<=(k+1:Nat):=I;have r1:kM L (k+1:Nat)=(((k+1:Nat):Int),L.getD k ku,0):=by
    unfold kM;have e1:(((k+1:Nat):Int) - 1).toNat=k:=I;rw[ag I,e1]
   rw[r1];obtain⟨t,ht⟩:∃t,t=L.getD k ku:=⟨_,rfl⟩;obtain⟨tv,dr,mb,hc,-,-,-,⟨cells,hT,hI⟩,-,-,hG⟩:=H0.out;have yN:=hI k hk;rw[<-ht]at yN ⊢;obtain⟨g,cap,rfl,xV,qn,hg,-,x0,x1,x2,sp,cc,x3,jW⟩:=oD hT hk yN;have tP:=(hG.each k hk).2.1;rw[<-ht]at tP;have c0:=hc.cell 0 jM;simp only[al]at c0;have HO:=jU.mk jW;clear hc hT hI yN jW H0 r1 ht h1 hG
   go_enter func82,ntmps82
   go_wp2_with fail
   generalize World.alloc _ _=w1 at HR HO HB ⊢;refine(My _ _ _ _ HO.out.EM I).mono ?_;rintro e w2 ⟨uS,c2,rfl,tS,kK⟩;have HR2:=jU.mk (HR.out.below kK HR.out.lt);have HB2:=jU.mk (HB.out.trans (kK.mono HB.out.size));have HO2:=jU.mk tS;have sF:=HR.out.lt;clear kK tS HR HO HB x0 x1 x2 x3 c0 hg
   go_wp2_with (refine bV rfl 98 (.tmp 4) (.tmp 30) rfl w.heap.size #[.int .i64 (k+1:Nat),.string t.name,.bool t.dropped,.slice uS t.fs.length c2] rfl rfl 98 #[.int .i64 0,.string ByteArray.empty,.bool false,.slice none 0 0] HR2.out pn rfl (by simp[Value.oneCell']) ?_)
   refine c_ (results_cell_tmp rfl _ _ w.heap.size 98 #[.int .i64 (k+1:Nat),.string t.name,.bool t.dropped,.slice uS t.fs.length c2] (0,0) _ _ rfl (cI _ _ _ _ _ _ HR2.out) eH rfl pn rfl) rfl ⟨uS,c2,rfl,?_,below_setRow HB2.out (aj _) _⟩;refine(HO2.out.j_ fun g hg=>?_).mono (fun b (hb:_<=b)=>by omega);have h2:=HO2.out.own hg;exact Go.setRow_other _ _ _ _ I
  ·have r1:kM L id=(0,ku,7):=by unfold kM;rw[aa I]
   rw[r1];obtain⟨tv,dr,mb,hc,-,-,-,⟨cells,hT,hI⟩,-,-,hG⟩:=H0.out;obtain⟨sp,cap,rfl,xV,qn⟩:=hT.slice;have c0:=hc.cell 0 jM;simp only[al]at c0;have h3:(1:Int)<=id:=I;have h4:(L.length:Int)<id:=I;clear hc hT hI H0 r1 hG
   go_enter func82,ntmps82
   go_wp2_with (first|(refine rB rfl 98 #[] rfl #[.int .i64 0,.string ByteArray.empty,.bool false,.slice none 0 0] D7 ?_)|(refine bV rfl 98 (.tmp 4) (.tmp 21) rfl w.heap.size #[.int .i64 0,.string ByteArray.empty,.bool false,.slice none 0 0] rfl rfl 98 #[.int .i64 0,.string ByteArray.empty,.bool false,.slice none 0 0] HR.out pn rfl (by simp[Value.oneCell']) ?_))
   refine c_ (results_cell_tmp rfl _ _ w.heap.size 98 #[.int .i64 0,.string ByteArray.empty,.bool false,.slice none 0 0] (0,0) _ _ rfl (cI _ _ _ _ _ _ HR.out) eH rfl pn rfl) rfl ⟨none,0,rfl,jY.nil _ _ _ _,below_setRow HB.out (aj _) _⟩
def uj (L:List Tb)(s:ByteArray)(k:Nat):Bool:=decide ((L.getD k ku).name=s) && !(L.getD k ku).dropped
def Bs (L:List Tb)(s:ByteArray):Option Nat:=(List.range L.length).find? (uj L s)
def tJ (L:List Tb)(s:ByteArray):Int×Tb×Int:=match Bs L s with|some k=>(((k+1:Nat):Int),L.getD k ku,0)|none=>(0,ku,13)
theorem Qi {L:List Tb}{s:ByteArray}{k:Nat}(hk:k<L.length)(h1:∀j,j<k->uj L s j=false)(h2:uj L s k=true): tJ L s=(((k+1:Nat):Int),L.getD k ku,0):=by
 have:Bs L s=some k:=List.find?_range_eq_some.2 ⟨h2,bX.2 hk,fun j hj=>by simp[h1 j hj]⟩;unfold tJ;rw[this]
theorem PN {L:List Tb}{s:ByteArray}(h1:∀j,j<L.length->uj L s j=false): tJ L s=(0,ku,13):=by
 have:Bs L s=none:=List.find?_range_eq_none.2 fun j hj=>by simp[h1 j hj]
 unfold tJ;rw[this]
theorem abE {n:Nat}{L:List Tb}(h:m_ w c O n L)(s:ByteArray):
  Calls prog 125 #[.pointer (some ⟨c,0,none⟩),.string s] w (ZA w (tJ L s)):=by
 have hz:=ux;have hlen:=h.oP.len;have lG:Below w.heap.size w (w.alloc (.cells #[.int .i64 0,.string ByteArray.empty,.bool false,.slice none 0 0] 98)):=(Below.refl _ w).alloc (aj _) _;have hR:U 98 (w.alloc (.cells #[.int .i64 0,.string ByteArray.empty,.bool false,.slice none 0 0] 98)) w.heap.size [.int .i64 0,.string ByteArray.empty,.bool false,.slice none 0 0]:=U.mk w [.int .i64 0,.string ByteArray.empty,.bool false,.slice none 0 0] _;obtain⟨w1,nH⟩:∃w1,w1=w.alloc (.cells #[.int .i64 0,.string ByteArray.empty,.bool false,.slice none 0 0] 98):=⟨_,rfl⟩;have h0:=h.below lG (aj _);have j6:=h.lt;rw[<-nH]at h0 lG hR;obtain⟨tv,dr,mb,hc,-,-,-,⟨cells,hT,hI⟩,-,-,hG⟩:=h0;obtain⟨sp,cap,rfl,xV,qn⟩:=hT.slice;have c0:=hc.cell 0 jM;simp only[al]at c0;rw[nH]at c0;have HW:=jU.mk nH;have HR:=jU.mk hR;have H0:=jU.mk (h.below lG (aj _));have HT:=jU.mk hT;have HI:=jU.mk hI;have HG:=jU.mk hG;have HB:=jU.mk lG;have HL:=jU.mk j6;have sF:=hR.lt;clear h lG hR hc hT hI hG nH j6
 go_enter func125,ntmps125
 go_wp2_with fail
 go_loopw [15] (fun i wr=>∃k:Nat,k<=L.length/\i=.int .i64 (k:Nat)/\Below w1.heap.size w1 wr/\∀j,j<k->uj L s j=false) (fun i _=>L.length - (intOf i).toNat)
 case atStart=>exact⟨0,I,rfl,by rw[HW.out];exact Below.refl _ _,fun j hj=>by omega⟩
 case round=>
  obtain⟨k,hk,rfl,lx,nI⟩:=hrel;have nW:=H0.out.below lx (aj _);have vl:=HT.out.jA (Z.jw lx) (fun g hg=>HT.out.lt hg);have YH:=fun i hi=>(HI.out i hi).j_ fun b hb _=>lx.block b (H0.out.lt b hb);have xH:=HB.out.trans (lx.mono HB.out.size);have F6:=HR.out.below lx sF;have Hno:=jU.mk nI;clear nI
  by_cases qf:k<L.length
  ·have akU:(k:Int)<L.length:=I
   obtain⟨t,ht⟩:∃t,t=L.getD k ku:=⟨_,rfl⟩;have yN:=YH k qf;rw[<-ht]at yN;obtain⟨g,oa,nG,-,-,hg,-,x0,x1,x2,qQ,cc,x3,jW⟩:=oD vl qf yN;obtain⟨rfl,rfl⟩:sp=some ⟨g,0,none⟩/\cap=oa:=by simpa using nG
   have Hcr:=jU.mk nW;have Fq:=jU.mk jW;have Ht:=jU.mk ht;have Hbw:=jU.mk xH;have Hrr:=jU.mk F6;have Hbr:=jU.mk lx;clear nW vl YH xH F6 yN jW nG ht lx;have hbn:∀cs,Below w1.heap.size w1 (wr.alloc (.cells cs 98)):=fun cs=>Hbr.out.alloc Hbr.out.size _;have Hbn:=jU.mk hbn;have KA:∀cs,m_ (wr.alloc (.cells cs 98)) c O n L:=fun cs=>Hcr.out.below ((Below.refl _ _).alloc (aj _) _) (aj _);have Hca:=jU.mk KA;clear hbn KA
   by_cases hn:t.name=s
   ·have hq:t.name.toList=s.toList:=by rw[hn]
    have Hn:=jU.mk hn;have e1:there L ((k:Int)+1) = !t.dropped:=by
     unfold there;have e2:((k:Int)+1 - 1).toNat=k:=I;rw[e2,<-Ht.out];simp;omega
    have E1:=jU.mk e1;clear hn e1;cases hd:t.dropped with
    | true=>
     have e2:there L ((k:Int)+1)=false:=by rw[E1.out,hd];rfl
     have E2:=jU.mk e2;have adR:jU (∀j,j<k+1->uj L s j=false):=jU.mk fun j hj=>by
      by_cases e:j<k
      ·exact Hno.out j e
      ·have:j=k:=I
       rw[this];unfold uj;rw[<-Ht.out,hd];simp
     clear e2 hd
     go_wp2_with (refine(uv (Hca.out _) _).mono ?_;rw[E2.out];rintro e w' ⟨rfl,rfl⟩)
     go_roundw
     case rel=>exact⟨k+1,I,by go_num,Hbn.out _,adR.out⟩
     case measure=>simp[intOf];omega
    | false=>
     have e2:there L ((k:Int)+1)=true:=by rw[E1.out,hd];rfl
     have E2:=jU.mk e2;have oW:tJ L s=(((k+1:Nat):Int),t,0):=by
      rw[Qi qf Hno.out (by unfold uj;rw[<-Ht.out,hd,Hn.out];simp),<-Ht.out]
     have wo:=jU.mk oW;have tP:=(HG.out.each k qf).2.1;rw[<-Ht.out]at tP;clear e2 hd oW
     go_wp2_with (refine(uv (Hca.out _) _).mono ?_;rw[E2.out];rintro e w' ⟨rfl,rfl⟩)
     have lC:=Hbw.out.alloc Hbw.out.size (.cells #[.int .i64 ((k:Int)+1),.string t.name,.bool t.dropped,.slice qQ t.fs.length cc] 98);have EV:=Hrr.out.alloc (.cells #[.int .i64 ((k:Int)+1),.string t.name,.bool t.dropped,.slice qQ t.fs.length cc] 98);have SX:=Fq.out.alloc (.cells #[.int .i64 ((k:Int)+1),.string t.name,.bool t.dropped,.slice qQ t.fs.length cc] 98);generalize World.alloc wr _=w3 at lC EV SX ⊢;refine(My _ _ _ _ SX.EM I).mono ?_;rintro e w2 ⟨uS,c2,rfl,tS,kK⟩;have HR2:=jU.mk (EV.below kK EV.lt);have HB2:=jU.mk (lC.kj kK);have HO2:=jU.mk tS;have sF:=EV.lt;clear kK tS lC EV SX x0 x1 x2 x3 c0 hg hq
     go_wp2_with (refine bV rfl 98 (.tmp 4) (.tmp 30) rfl w.heap.size #[.int .i64 (k+1:Nat),.string t.name,.bool t.dropped,.slice uS t.fs.length c2] rfl rfl 98 #[.int .i64 0,.string ByteArray.empty,.bool false,.slice none 0 0] HR2.out pn rfl (by simp[Value.oneCell']) ?_)
     apply c_ (results_cell_tmp rfl _ _ w.heap.size 98 #[.int .i64 (k+1:Nat),.string t.name,.bool t.dropped,.slice uS t.fs.length c2] (0,0) _ _ rfl (cI _ _ _ _ _ _ HR2.out) eH rfl pn rfl) rfl;rw[wo.out];refine⟨uS,c2,rfl,?_,below_setRow HB2.out (aj _) _⟩;refine(HO2.out.j_ fun g hg=>?_).mono (fun b (hb:_<=b)=>by omega);have h2:=HO2.out.own hg;exact Go.setRow_other _ _ _ _ I
   ·have hq:=ajV hn
    have adR:jU (∀j,j<k+1->uj L s j=false):=jU.mk fun j hj=>by
     by_cases e:j<k
     ·exact Hno.out j e
     ·have:j=k:=I
      rw[this];unfold uj;rw[<-Ht.out];simp[hn]
    clear hn
    go_wp2_with fail
    go_roundw
    case rel=>exact⟨k+1,I,by go_num,Hbn.out _,adR.out⟩
    case measure=>simp[intOf];omega
  ·have tA:decide ((k:Int)<L.length)=false:=ar I
   have oW:=PN fun j hj=>Hno.out j I;have wo:=jU.mk oW;have Hrr:=jU.mk F6;have Hbw:=jU.mk xH;clear oW F6 xH nW vl YH lx c0
   go_wp2_with (first|(refine rB rfl 98 #[] rfl #[.int .i64 0,.string ByteArray.empty,.bool false,.slice none 0 0] D7 ?_)|(refine bV rfl 98 (.tmp 4) (.tmp 32) rfl w.heap.size #[.int .i64 0,.string ByteArray.empty,.bool false,.slice none 0 0] rfl rfl 98 #[.int .i64 0,.string ByteArray.empty,.bool false,.slice none 0 0] Hrr.out pn rfl (by simp[Value.oneCell']) ?_))
   apply c_ (results_cell_tmp rfl _ _ w.heap.size 98 #[.int .i64 0,.string ByteArray.empty,.bool false,.slice none 0 0] (0,0) _ _ rfl (cI _ _ _ _ _ _ Hrr.out) eH rfl pn rfl) rfl;rw[wo.out];exact⟨none,0,rfl,jY.nil _ _ _ _,below_setRow Hbw.out (aj _) _⟩
structure Hj (cs:Array Value) (kind:Int) (txt:ByteArray) (tbl:Int):Prop where
 lJ:cs.size=46
 hk:cs[0]? = some (.int .i64 kind)
 um:cs[1]? = some (.string txt)
 tR:cs[2]? = some (.int .i64 tbl)
 hsh:txt.size<=maxLen
 hwf:(Lit.int .i64 tbl).wf=true
def mu (L:List Tb)(kind:Int)(txt:ByteArray)(tbl:Int):Int :=
 if kind=5 then(if 64<=L.length then 17 else if tbl≠L.length+1\/xf txt=false then 3 else if(Bs L txt).isSome=true then 8 else 0)
 else if kind=6 then(if there L tbl=true then 0 else 7)
 else if kind=7 then(if there L tbl=false then 7 else if xf txt=false then 3 else if has L tbl txt=true then 8 else if 16<=(L.getD (tbl - 1).toNat ku).fs.length then 17 else 0)
 else 0
def oV (L:List Tb)(kind:Int)(txt:ByteArray)(tbl:Int):List Tb :=
  if mu L kind txt tbl=0 then
    (if kind=5 then L++[⟨txt, false, []⟩]
     else if kind=6 then L.set (tbl - 1).toNat ⟨(L.getD (tbl - 1).toNat ku).name, true, []⟩
     else if kind=7 then L.set (tbl - 1).toNat ⟨(L.getD (tbl - 1).toNat ku).name, (L.getD (tbl - 1).toNat ku).dropped, (L.getD (tbl - 1).toNat ku).fs++[txt]⟩
     else L)
  else L
def yJ (w:World)(c n:Nat)(O:Nat->Prop)(L:List Tb)(kind:Int)(txt:ByteArray)(tbl:Int)(e:Ending)(w':World):Prop :=
 ∃O',e=.returned (.int .i64 (mu L kind txt tbl))/\m_ w' c O' (n+1) (oV L kind txt tbl)/\Z (fun b=>b<w.heap.size/\¬O b) w w'/\∀b,O' b->O b\/w.heap.size<=b
theorem m_.mono {n n':Nat}{L:List Tb}(h:m_ w c O n L)(hn:n<=n'): m_ w c O n' L:=by
 obtain⟨tv,dr,mb,h1,h2,h3,h4,h5,h6,h7,h8⟩:=h;exact⟨tv,dr,mb,h1,h2,h3,h4,h5,h6,h7.mono hn,h8⟩
theorem qH {n:Nat}{L:List Tb}{kind:Int}{x:Int}(hx:mu L kind txt tbl=x)(mE:x≠0)(h:m_ w c O n L)(hb:Below w.heap.size w w'): yJ w c n O L kind txt tbl (.returned (.int .i64 x)) w' :=
 ⟨O,by rw[hx],by unfold oV;rw[aa (by rw[hx];exact mE)];exact(h.below hb (aj _)).mono I,Z.mono (Z.jw hb) (fun k hk=>hk.1),fun b hb=>.inl hb⟩
theorem nU (l r:List α)(i:Nat)(d:α)(h:i<l.length): (l++r).getD i d=l.getD i d:=by simp[aZ h]
theorem ot (l r:List α)(i:Nat)(d:α): (l++r).getD (l.length+i) d=r.getD i d:=by simp[aE]
theorem yA (l:List α)(i:Nat)(d:α)(h:l.length<=i): l.getD i d=d:=by simp[h]
theorem acX (L:List Tb)(txt:ByteArray)(id:Int)(f:ByteArray): has (L++[⟨txt,false,[]⟩]) id f=has L id f:=by
 unfold has
 by_cases h1:1<=id
 ·by_cases h2:id<=L.length
  ·have h3:id<=(L++[⟨txt,false,[]⟩]:List Tb).length:=by simp;omega
   rw[nU _ _ _ _ I];simp[h1,h2];omega
  ·by_cases h4:id=L.length+1
   ·have e:(id - 1).toNat=L.length+0:=I
    rw[e,ot]
    show(_ && _ && mem [] f)=_
    simp[h2,Dw]
   ·rw[yA _ _ _ (by simp;omega)]
    simp[ku,h2,Dw]
 ·simp[h1]
theorem mP {cs rU:Array Value}{t t':TypeId}{fr':Nat×Nat}(h:w.heap[b]? = some (.cells cs t fr))(h':w.heap[b']? = some (.cells rU t' fr'))(mE:t≠t'): b≠b':=by
 intro e;subst e;rw[h]at h';injection h' with h';injection h' with _ h2 _;exact mE h2
theorem MF.mP {κ:Type}{P:Program}{k:TypeId}{mk:κ->Value}{n:Nat}{F:κ->Option Value}(h:MF P k mk w b n F){cs:Array Value}{t:TypeId}(h':w.heap[b']? = some (.cells cs t fr)): b≠b':=by
 obtain⟨D,⟨es,clock,h1,-⟩,-⟩:=h;intro e;subst e;rw[h1]at h';cases h'
theorem aa6 {n dr:Nat}{L:List Tb}{vG:Value}(hc:U 144 w0 c [tv,.int .u64 (dr:Nat),.map (some mb)])(zk:O c)(wB:O mb)(hO:∀b,O b->b<w0.heap.size)(hT:jY 98 4 w0 O tv L.length cells)(hI:∀i,i<L.length->nV 100 w0 O cells i (L.getD i ku))(hB:Nh dr L)(hM:MF prog 146 mk w0 mb n (xm L))(hG:Good L)(hk:Z (fun b=>b<w0.heap.size/\tv.ownBlock≠some b) w0 w1)(hBB:w0.heap.size<=B)(A0:jY 98 4 w1 (fun g=>O g\/g=B) vG (L.length+1) (cells++[.int .i64 (L.length+1:Nat),.string txt,.bool false,.slice none 0 0]))(hlen:L.length<64)(afp:txt.size<=40):
  m_ (w1.setCell ⟨c,0,none⟩ vG) c (fun b=>O b\/vG.ownBlock=some b) (n+1) (L++[⟨txt,false,[]⟩])/\Z (fun b=>b<w0.heap.size/\¬O b) w0 (w1.setCell ⟨c,0,none⟩ vG)/\∀b,(O b\/vG.ownBlock=some b)->O b\/w0.heap.size<=b:=by
 have Dz:tv.ownBlock≠some c:=by
  intro e;obtain⟨cur,mG⟩:=hT.tag e;exact mP hc mG lZ rfl
 have zm:tv.ownBlock≠some mb:=by
  intro e;obtain⟨cur,mG⟩:=hT.tag e;exact MF.mP hM mG rfl
 have ET:=MF.mP hM hc;have vN:=hc.jA hk ⟨hO c zk,Dz⟩;have CS:=hT.len;have ho:∀b,vG.ownBlock=some b->O b\/w0.heap.size<=b:=fun b e=>(A0.own e).imp id (fun e=>by rw[e];exact hBB);have lJ:(w1.setCell ⟨c,0,none⟩ vG).heap.size=w1.heap.size:=by simp[World.setCell]
 have Xs:∀b,b≠c->(w1.setCell ⟨c,0,none⟩ vG).heap[b]? = w1.heap[b]?:=fun b hb=>Below.heap_setCell _ _ _ _ hb;refine⟨⟨vG,dr,mb,vN.set 0 vG,.inl zk,.inl wB,fun b hb=>?_,⟨cells++[.int .i64 (L.length+1:Nat),.string txt,.bool false,.slice none 0 0],?_,fun i hi=>?_⟩,⟨hB.1,fun i=>?_⟩,?_,⟨by simp;omega,fun i hi=>?_⟩⟩,⟨hk.os,hk.tape,hk.output,by rw[lJ];exact hk.size,fun b hb=>?_⟩,fun b hb=>hb.elim .inl (ho b)⟩
 ·rw[lJ]
  rcases hb with hb|hb
  ·exact ao (hO b hb) hk.size
  ·exact A0.lt hb
 ·have hl:(L++[(⟨txt,false,[]⟩:Tb)]).length=L.length+1:=jM
  rw[hl];refine⟨(A0.j_ fun g hg=>Xs g ?_).1,A0.2.1,fun g hg=>.inr hg⟩;intro e;obtain⟨cur,mG⟩:=A0.tag hg;rw[e]at mG;exact mP vN mG lZ rfl
 ·have h62:∀b,O b->(∃cur,w0.heap[b]? = some (.cells cur 100 (0,0)))->(w1.setCell ⟨c,0,none⟩ vG).heap[b]? = w0.heap[b]?:=by
   rintro b hb ⟨cur,mG⟩;have h1:=mP mG hc lZ;have h2:tv.ownBlock≠some b:=by
    intro e;obtain⟨ava,LM⟩:=hT.tag e;exact mP mG LM lZ rfl
   rw[Xs b h1,hk.block b ⟨hO b hb,h2⟩]
  by_cases h:i<L.length
  ·rw[nU L _ i _ h]
   obtain⟨i0,i1,i2,i3⟩:=(hI i h).j_ h62;refine⟨?_,?_,?_,?_⟩
   ·rw[nU _ _ _ _ I];exact i0
   ·rw[nU _ _ _ _ I];exact i1
   ·rw[nU _ _ _ _ I];exact i2
   ·rw[nU _ _ _ _ I];exact i3.mono fun b hb=>.inl hb
  ·have e:i=L.length:=by simp at hi;omega
   subst e;have e1:(L++[(⟨txt,false,[]⟩:Tb)]).getD L.length ku=⟨txt,false,[]⟩:=ot L _ 0 _;rw[e1];have e2:=CS.symm;unfold nV;rw[e2];refine⟨ot cells _ 0 _,ot cells _ 1 _,ot cells _ 2 _,?_⟩;rw[ot cells _ 3 _];exact jY.nil _ _ _ _
 ·rw[hB.2 i]
  rcases eU i L.length with h|h|h
  ·rw[nU _ _ _ _ h]
  ·subst h;rw[yA L _ _ (aj _)];have e:=ot L [(⟨txt,false,[]⟩:Tb)] 0 ku;rw[fO]at e;rw[e];rfl
  ·rw[yA _ _ _ I,yA _ _ _ (by simp;omega)]
 ·have:=((hM.jA hk ⟨hO mb wB,zm⟩).j_ (w':=w1.setCell ⟨c,0,none⟩ vG) (Xs mb ET)).mono (bQ n)
  exact this.congr fun x=>by unfold xm;rw[acX]
 ·by_cases h:i<L.length
  ·rw[nU _ _ _ _ h];exact hG.each i h
  ·have e:i=L.length:=by simp at hi;omega
   subst e;have e1:(L++[(⟨txt,false,[]⟩:Tb)]).getD L.length ku=⟨txt,false,[]⟩:=ot L _ 0 _;rw[e1];exact⟨afp,jM,jM,jM⟩
 ·rw[Xs b (fun e=>hb.2 (e ▸ zk))]
  exact hk.block b ⟨hb.1,fun e=>hb.2 (hT.own e)⟩
theorem NR: na prog 94 98 4 56:=na.mk' (z:=.agg #[.int .i64 0,.string ByteArray.empty,.bool false,.slice none 0 0]) underlying94 jG rfl I
theorem R8 {n:Nat}{L:List Tb}{cs:Array Value}(h:m_ w c O n L)(hE:Hj cs 5 txt tbl):
  Calls prog 88 #[.pointer (some ⟨c,0,none⟩),.agg cs] w (yJ w c n O L 5 txt tbl):=by
 have hz:=ux;have lG:Below w.heap.size w (w.alloc (.cells cs 76)):=(Below.refl _ w).alloc (aj _) _;have h1:=h.below lG (aj _);have HE:=jU.mk hE;have kF:=cz w (.cells cs 76);have e0:(w.alloc (.cells cs 76)).cell? ⟨w.heap.size,0,none⟩=some (.int .i64 5):=by rw[fD _ _ _ _ _ _ kF];exact hE.hk
 have e1:(w.alloc (.cells cs 76)).cell? ⟨w.heap.size,1,none⟩=some (.string txt):=by rw[fD _ _ _ _ _ _ kF];exact hE.um
 have e2:(w.alloc (.cells cs 76)).cell? ⟨w.heap.size,2,none⟩=some (.int .i64 tbl):=by rw[fD _ _ _ _ _ _ kF];exact hE.tR
 have H:=jU.mk h;have HB:=jU.mk lG;have H1:=jU.mk h1;clear h lG h1 hE kF
 go_enter iI,ik
 go_wp2_with fail
 generalize World.alloc _ _=w1 at e0 e1 e2 HB H1 ⊢;have Zo:=cC w1 _ e0;refine(abE H1.out _).mono ?_;rintro e w2 ⟨sp,cc,rfl,jW,kK⟩;have F9:((tJ L txt).2.2=0/\(Bs L txt).isSome=true)\/((tJ L txt).2.2=13/\(Bs L txt).isSome=false):=by
  unfold tJ;cases Bs L txt<;>simp
 generalize tJ L txt=r at *;obtain⟨ri,rt,rc⟩:=r;have Hec:=jU.mk F9;have lC:Below w1.heap.size w1 (w2.alloc (.cells #[.int .i64 ri,.string rt.name,.bool rt.dropped,.slice sp rt.fs.length cc] 98)):=kK.alloc kK.size _;have H3:=jU.mk (H1.out.below lC (aj _));have HB3:=jU.mk (HB.out.trans (lC.mono HB.out.size));have e1':(w2.alloc (.cells #[.int .i64 ri,.string rt.name,.bool rt.dropped,.slice sp rt.fs.length cc] 98)).cell? ⟨w.heap.size,1,none⟩=some (.string txt):=by rw[lC.cell (p:=⟨w.heap.size,1,none⟩) Zo];exact e1
 have e2':(w2.alloc (.cells #[.int .i64 ri,.string rt.name,.bool rt.dropped,.slice sp rt.fs.length cc] 98)).cell? ⟨w.heap.size,2,none⟩=some (.int .i64 tbl):=by rw[lC.cell (p:=⟨w.heap.size,2,none⟩) Zo];exact e2
 have Bj:w.heap.size<w2.heap.size:=ao Zo kK.size;clear F9 kK lC H1 HB e0 e1 e2 Zo jW;obtain⟨tv,dr,mb,hc,zk,wB,Lz,⟨cells,hT,hI⟩,DR,Bt,hG⟩:=H3.out;have HX:=jU.mk (And.intro wB (And.intro Lz (And.intro DR (And.intro Bt hG))));clear wB Lz DR Bt;obtain⟨uS,cap,rfl,xV,qn⟩:=hT.slice;have c0:=hc.cell 0 jM;simp only[al]at c0;have hcw:=H.out.lt c zk;have HT:=jU.mk hT;have HI:=jU.mk hI;have hlen:=hG.len;have Hc:=jU.mk hc;clear hT hI hG hc
 by_cases Rh:64<=L.length
 ·have hx:mu L 5 txt tbl=17:=by unfold mu;rw[ag rfl,ag Rh]
  have Hx:=jU.mk hx;have alZ:(64:Int)<=L.length:=I;clear hx
  go_wp2_with fail
  go_ret
  exact qH Hx.out I H.out HB3.out
 ·have alZ:(L.length:Int)<64:=I
  have uX:IntKind.i64.wrap ((L.length:Int)+1)=(L.length:Int)+1:=bN _ I
  by_cases tR:tbl=L.length+1
  ·subst tR
   have hg:(((L.length:Int)+1) != (L.length:Int)+1)=false:=jM;cases oQ:xf txt with
   | false=>
    have hx:mu L 5 txt (L.length+1)=3:=by unfold mu;rw[ag rfl,aa Rh,ag (.inr oQ)]
    have Hx:=jU.mk hx;have Hcl:jU (∀w,Calls prog 126 #[.string txt] w fun e w'=>e=.returned (.bool false)/\w=w'):=jU.mk fun w=>by rw[<-oQ];exact tg txt w
    clear hx oQ
    go_wp2_with fail
    go_quiet ((go_at_call 126;exact Jn (Hcl.out _)))
    go_wp2_with fail
    go_ret
    exact qH Hx.out I H.out (Co HB3.out _)
   | true=>
    have Hcl:jU (∀w,Calls prog 126 #[.string txt] w fun e w'=>e=.returned (.bool true)/\w=w'):=jU.mk fun w=>by rw[<-oQ];exact tg txt w
    have FU:=jU.mk oQ;clear oQ
    go_wp2_with fail
    go_quiet ((go_at_call 126;exact Jn (Hcl.out _)))
    rcases Hec.out with⟨hr,hi⟩|⟨hr,hi⟩
    ·have hx:mu L 5 txt (L.length+1)=8:=by unfold mu;rw[ag rfl,aa Rh,aa (by simp[FU.out]),ag hi]
     have Hx:=jU.mk hx;subst hr;clear hx hi
     go_wp2_with fail
     go_ret
     exact qH Hx.out I H.out (Co HB3.out _)
    ·skip
     subst hr;have Hi:=jU.mk hi;clear hi
     go_wp2_with fail
     generalize qq:World.drewN _ _=w4;have f0:w4.cell? ⟨c,0,none⟩=some (.slice uS L.length cap):=by rw[<-qq];exact c0
     have f1:w4.cell? ⟨w.heap.size,1,none⟩=some (.string txt):=by rw[<-qq];exact e1'
     have f2:w4.cell? ⟨w.heap.size,2,none⟩=some (.int .i64 ((L.length:Int)+1)):=by rw[<-qq];exact e2'
     have HB4:=jU.mk (show Below w.heap.size w w4 by rw [<- qq];exact Co HB3.out _);have HT4:=jU.mk (show jY 98 4 w4 O (.slice uS L.length cap) L.length cells by rw [<- qq];exact HT.out);have HI4:=jU.mk (show ∀ i,i < L.length -> nV 100 w4 O cells i (L.getD i ku) by rw [<- qq];exact HI.out);have Hc4:=jU.mk (show U 144 w4 c [.slice uS L.length cap,.int .u64 (dr : Nat),.map (some mb)] by rw [<- qq];exact Hc.out);have HX4:=jU.mk (show O mb /\ (∀ b,O b -> b < w4.heap.size) /\ Nh dr L /\ MF prog 146 mk w4 mb n (xm L) /\ Good L by rw [<- qq];exact HX.out);clear HB3 H3 HT HI HX Hc c0 e1' e2' qq Rh alZ xV;have hS : w4.drew.cell? ⟨c,0,none⟩ = some (.slice uS L.length cap) /\ w4.drew.cell? ⟨w.heap.size,1,none⟩ = some (.string txt) /\ w4.drew.cell? ⟨w.heap.size,2,none⟩ = some (.int .i64 ((L.length : Int) + 1)):=⟨f0,f1,f2⟩;have amx : w.heap.size < w4.heap.size:=cC w4 _ f1;have XF : c < w4.heap.size:=cC w4 _ f0;apply qz 11 (fun w' => w'.cell? ⟨c,0,none⟩ = some (.slice uS L.length cap) /\ w'.cell? ⟨w.heap.size,1,none⟩ = some (.string txt) /\ w'.cell? ⟨w.heap.size,2,none⟩ = some (.int .i64 ((L.length : Int) + 1))) jG;apply j8 (i:=0) (.inr hS)  -- move (tmp 0)
     apply j8 (i:=1) (.inr hS)  -- move (tmp 0)
     apply j8 (i:=2) (.inr hS)  -- nilCheck (tmp 51)
     apply j8 (i:=3) (.inr hS)  -- fieldAddr 69 (tmp 52) 0
     refine pL (i:=4) [11] rfl jG jG jG jG rfl (fun _ _ _ h => h) (by rfl) (fun w' NV => by first | (go_simp;done) | (go_simp;with_reducible rfl)) hS ?_  -- load 41 (tmp 53)
     refine oF (i:=5) rfl jG jG jG rfl (fun _ _ _ h => h) (.inr hS) (by rfl) (fun _ => by first | (go_simp;done) | (go_simp;with_reducible rfl)) ?_  -- fieldAddr 37 (tmp 3) 2
     refine pL (i:=6) [9,10,11] rfl jG jG jG jG rfl (fun _ _ _ h => h) (by rfl) (fun w' NV => by first | (go_simp;done) | (go_simp;with_reducible rfl)) hS ?_  -- load 3 (tmp 55)
     refine oF (i:=7) rfl jG jG jG rfl (fun _ _ _ h => h) (.inr hS) (by rfl) (fun _ => by first | (go_simp;done) | (go_simp;with_reducible rfl)) ?_  -- fieldAddr 37 (tmp 3) 1
     refine pL (i:=8) [9,10,11] rfl jG jG jG jG rfl (fun _ _ _ h => h) (by rfl) (fun w' NV => by first | (go_simp;done) | (go_simp;with_reducible rfl)) hS ?_  -- load 9 (tmp 57)
     refine oF (i:=9) rfl jG jG jG rfl (fun _ _ _ h => h) (.inr hS) (by rfl) (fun _ => by first | (go_simp;done) | (go_simp;with_reducible rfl)) ?_  -- build 45 #[(0,tmp 56),(1,tmp 58)]
     refine sy (i:=10) jG rfl ?_;intro K hK  -- Cb Op.buildSlice 41 1 #[(0,Operand.tmp 59)]
     go_simp
     have pO:(w4.alloc (.cells #[.int .i64 ((L.length:Int)+1),.string txt,.bool false,.slice none 0 0] 98)).drew.cell? ⟨c,0,none⟩=some (.slice uS L.length cap)/\(w4.alloc (.cells #[.int .i64 ((L.length:Int)+1),.string txt,.bool false,.slice none 0 0] 98)).drew.cell? ⟨w.heap.size,1,none⟩=some (.string txt)/\(w4.alloc (.cells #[.int .i64 ((L.length:Int)+1),.string txt,.bool false,.slice none 0 0] 98)).drew.cell? ⟨w.heap.size,2,none⟩=some (.int .i64 ((L.length:Int)+1)) :=
      ⟨by rw[<-f0];exact bM (w:=w4) (Below.heap_alloc _ _ _ XF),by rw[<-f1];exact bM (w:=w4) (Below.heap_alloc _ _ _ amx),by rw[<-f2];exact bM (w:=w4) (Below.heap_alloc _ _ _ amx)⟩
     apply hK _ _ (.inr pO);have ho5 : jY 98 4 (w4.alloc (.cells #[.int .i64 ((L.length : Int) + 1),.string txt,.bool false,.slice none 0 0] 98)).drew O (.slice uS L.length cap) L.length cells:=HT4.out.alloc _;have hs5 : ph (w4.alloc (.cells #[.int .i64 ((L.length : Int) + 1),.string txt,.bool false,.slice none 0 0] 98)).drew (fun _ => True) 4 (.slice (some ⟨w4.heap.size,0,none⟩) 1 1) 1 [.int .i64 ((L.length : Int) + 1),.string txt,.bool false,.slice none 0 0]:=ph.fresh w4 (fun _ => True) _ (m:=4) (n:=1) (l:=[.int .i64 ((L.length : Int) + 1),.string txt,.bool false,.slice none 0 0]) rfl (fun u hu => by simp at hu;rcases hu with rfl | rfl | rfl | rfl <;> rfl) trivial (by unfold maxLen;omega);clear hS pO hK K;refine sy (i:=11) jG rfl ?_;intro K hK  -- Cb Op.call { callee:=Callee.builtin Builtin.append,args:=#[Operand.tmp 54,Operand.tmp 60],argTypes:=#[41,41] }
     apply Xv rfl (.tmp 54) (.tmp 60) 94 rfl NR rfl ho5 rfl hs5 (n':=L.length+1) rfl (by unfold maxLen;omega) I;intro Ah c5 w5 Ay yF ly;have Dz:(Value.slice uS L.length cap).ownBlock≠some c:=by
      intro e;obtain⟨cur,mG⟩:=HT4.out.tag e;exact mP Hc4.out mG lZ rfl
     have oM :=
      ((Z.jw (((Below.refl w4.heap.size w4).alloc (aj _) (.cells #[.int .i64 ((L.length:Int)+1),.string txt,.bool false,.slice none 0 0] 98)).drew)).mono (fun b hb=>hb.1)).trans ((qE yF).mono fun b (hb:b<w4.heap.size/\(Value.slice uS L.length cap).ownBlock≠some b)=>⟨by show b<(w4.alloc (.cells #[.int .i64 ((L.length:Int)+1),.string txt,.bool false,.slice none 0 0] 98)).heap.size;simp;omega,hb.2⟩)
     have Wh:=Hc4.out.jA oM ⟨XF,Dz⟩;have g0:=Wh.cell 0 jM;have g1:=Wh.free 0;simp only [al] at g0;have Hk5:=jU.mk oM;have I3:=jU.mk Ay;have aw2:=jU.mk yF;have Hat:=jU.mk ly;apply hK _ _ (.inl rfl);clear hK K ho5 hs5 Dz oM Wh Ay yF ly;apply j8 (i:=12) (.inl rfl)  -- nilCheck (tmp 50)
     apply j8 (i:=13) (.inl rfl)  -- fieldAddr 69 (tmp 62) 0
     refine sy (i:=14) jG rfl ?_;intro K hK  -- Cb Op.store 41 (Operand.tmp 63) (Operand.tmp 61)
     go_simp
     apply hK _ _ (.inl rfl);refine wD jG ?_ _;clear hK K
     go_wp2_with fail
     go_ret
     have adF:txt.size<=40:=by
      have:=FU.out;unfold xf at this;simp at this
      exact this.2
     obtain⟨x1,x2,x3,x4,x5⟩:=HX4.out;obtain⟨y1,y2,y3⟩:=aa6 Hc4.out zk x1 x2 HT4.out HI4.out x3 x4 x5 Hk5.out (B:=(w4.alloc (.cells #[.int .i64 ((L.length:Int)+1),.string txt,.bool false,.slice none 0 0] 98)).heap.size) jM I3.out I adF;have yK:mu L 5 txt ((L.length:Int)+1)=0:=by
      unfold mu;rw[ag rfl,aa I,aa (by simp[FU.out]),aa (by simp[Hi.out])]
     have EJ:oV L 5 txt ((L.length:Int)+1)=L++[⟨txt,false,[]⟩]:=by
      unfold oV;rw[ag yK,ag rfl]
     have qq:w.heap.size<=w4.heap.size:=I;refine⟨_,by rw[yK];rfl,by rw[EJ];exact y1,((Z.jw HB4.out).mono fun b hb=>hb.1).trans (y2.mono fun b (hb:b<w.heap.size/\¬O b)=>⟨I,hb.2⟩),fun b hb=>(y3 b hb).imp id fun h=>by omega⟩
  ·have hx:mu L 5 txt tbl=3:=by unfold mu;rw[ag rfl,aa Rh,ag (.inl tR)]
   have Hx:=jU.mk hx;have hg:=b_.2 tR;have nK:(tbl != (L.length:Int)+1)=true:=by rw[bne_iff_ne];exact tR
   clear hx tR
   go_wp2_with fail
   go_quiet (fail)
   go_wp2_with fail
   go_ret
   exact qH Hx.out I H.out (Co HB3.out _)
end Cat
namespace K
structure pB (w0 w:World) (b:Value):Prop where
 below:jP w0 w
 own:∀g,b.ownBlock=some g->w0.heap.size<=g
theorem pB.grow {b b':Value}(h:pB w0 w b)(g:kX w b w' b'): pB w0 w' b':=⟨h.below.trans (g.old h.below.size h.own),g.own h.below.size h.own⟩
abbrev mR (v:V)(sn sk:Value):kL:=[Iq v.k,Iq v.n,Iq v.s,.string v.t,sn,sk]
theorem mj.one {v:V}(h:mj f w v cs): lY cs:=by
 cases f with
 | zero=>exact h.elim
 | succ f=>
  obtain⟨sn,sk,rfl,-,-,-,-,⟨_,_,rfl,-⟩,⟨_,_,rfl,-⟩⟩:=h;intro u hu;simp at hu
  rcases hu with rfl|rfl|rfl|rfl|rfl|rfl<;>rfl
theorem kJ.Sy {wk:World}{b vk:Value}(h:kJ w g w1 T cs)(hb:Bu w b l)(hg:kX w1 b wk vk): U T wk g cs :=
 h.blk.jA hg.1 ⟨by rw[h.size,h.eq];omega,fun e=>by have:=hb.lt _ e;rw[h.eq]at this;omega⟩
def uvF:Nat->Nat->List Int
 | 0,_=>[]
 | f+1,u=>if u<128 then[(u:Int)] else((u % 128+128:Nat):Int)::uvF f (u / 128)
def lK (u:Nat):List Int:=uvF 10 u
def xt (v:Int):Nat:=if 0<=v then(2*v).toNat else(-2*v - 1).toNat
def yI (s:ByteArray):List Int:=s.toList.map fun c=>(c.toNat:Int)
def mQ (ky:V->List Int)(st:Bool)(names:List ByteArray)(kids:List V)(j:Nat):List Int :=
 (if st then lK (names.getD j kZ).size++yI (names.getD j kZ) else[])++ky (kids.getD j mM)
def encV:Nat->V->List Int
  | 0, _=>[]
  | m+1, v=>v.k::
    (if v.k=2 then[v.n] else if v.k=3 then lK (xt v.n) else if v.k=4 then lK (xt v.n)++[v.s] else if v.k=5 then lK v.n.toNat
     else if v.k=6\/v.k=7 then lK v.t.size++yI v.t
     else if v.k=8\/v.k=9 then lK v.kids.length++(List.range v.kids.length).flatMap (mQ (encV m) (decide (v.k=9)) v.names v.kids) else[])
def Byt (l:List Int):Prop:=∀c∈l,0<=c/\c<=255
theorem Wi (h:128<=u): uvF (f+1) u=((u % 128+128:Nat):Int)::uvF f (u / 128):=by rw[uvF,aa I]
theorem aar {v:Int}(h:-9223372036854775808<=v/\v<=9223372036854775807): xt v<18446744073709551616:=by unfold xt;split<;>omega
theorem u_ (s:ByteArray): (yI s).length=s.size:=by
 unfold yI;rw[aB,aJ];rfl
end K
namespace K
theorem sI {t:ByteArray}(h:t.size=0): t=kZ:=by
 apply ji;apply Array.eq_empty_of_size_eq_zero h
theorem acr {v:V}(h:sP v=0):
  (v.k=1/\v=.mk 1 0 0 kZ [] [])\/(v.k=2/\v=.mk 2 v.n 0 kZ [] []/\0<=v.n/\v.n<=1)\/(v.k=3/\v=.mk 3 v.n 0 kZ [] [])\/(v.k=4/\v=.mk 4 v.n v.s kZ [] []/\1<=v.s/\v.s<=18)\/
  (v.k=5/\v=.mk 5 v.n 0 kZ [] []/\0<=v.n/\v.n<=9007199254740992)\/((v.k=6\/v.k=7)/\v=.mk v.k 0 0 v.t [] []/\v.t.size<=16384)\/
  (v.k=8/\v=.mk 8 0 0 kZ [] v.kids/\v.kids.length<=200)\/(v.k=9/\v=.mk 9 0 0 kZ v.names v.kids/\v.kids.length<=200/\v.names.length=v.kids.length/\∀s∈v.names,s.size<=40):=by
 obtain⟨k,n,s,t,names,kids⟩:=v;unfold sP at h
 by_cases h1:pS (.mk k n s t names kids)=false
 ·rw[ag h1]at h;cases h
 rw[aa h1]at h
 by_cases h2:16384<(V.mk k n s t names kids).t.size\/200<(V.mk k n s t names kids).kids.length
 ·rw[ag h2]at h;cases h
 rw[aa h2]at h
 by_cases h3:(V.mk k n s t names kids).k=9/\n_ (.mk k n s t names kids)=false
 ·rw[ag h3]at h;cases h
 have hf:pS (.mk k n s t names kids)=true:=by simpa using h1
 clear h h1;simp only[V.k,V.t,V.kids]at h2 h3;unfold pS at hf;simp only[V.k,V.n,V.s,V.t,V.names,V.kids]
 by_cases a1:k=1
 ·subst a1;left
  rw[ag (show(V.mk 1 n s t names kids).k=1 from rfl)]at hf;simp only[rW,m7,mN,aF,aX,cB]at hf;simp only[V.n,V.s,V.t,V.names,V.kids]at hf;obtain⟨⟨⟨rfl,rfl⟩,rfl,rfl⟩,ht⟩:=hf;exact⟨rfl,by rw[sI ht]⟩
 rw[aa (show ¬(V.mk k n s t names kids).k=1 from a1)]at hf;right
 by_cases a2:k=2
 ·subst a2;left
  rw[ag (show(V.mk 2 n s t names kids).k=2 from rfl)]at hf;simp only[m7,mN,aF,aX,cB]at hf;simp only[V.n,V.s,V.t,V.names,V.kids]at hf;obtain⟨⟨⟨⟨b1,b2⟩,rfl⟩,rfl,rfl⟩,ht⟩:=hf;exact⟨rfl,by rw[sI ht],b1,b2⟩
 rw[aa (show ¬(V.mk k n s t names kids).k=2 from a2)]at hf;right
 by_cases a3:k=3
 ·subst a3;left
  rw[ag (show(V.mk 3 n s t names kids).k=3 from rfl)]at hf;simp only[m7,mN,aF,aX,cB]at hf;simp only[V.s,V.t,V.names,V.kids]at hf;obtain⟨⟨rfl,rfl,rfl⟩,ht⟩:=hf;exact⟨rfl,by rw[sI ht]⟩
 rw[aa (show ¬(V.mk k n s t names kids).k=3 from a3)]at hf;right
 by_cases a4:k=4
 ·subst a4;left
  rw[ag (show(V.mk 4 n s t names kids).k=4 from rfl)]at hf;simp only[m7,mN,aF,aX,cB]at hf;simp only[V.n,V.s,V.t,V.names,V.kids]at hf;obtain⟨⟨⟨⟨b1,b2⟩,-⟩,rfl,rfl⟩,ht⟩:=hf;exact⟨rfl,by rw[sI ht],b1,b2⟩
 rw[aa (show ¬(V.mk k n s t names kids).k=4 from a4)]at hf;right
 by_cases a5:k=5
 ·subst a5;left
  rw[ag (show(V.mk 5 n s t names kids).k=5 from rfl)]at hf;simp only[m7,mN,aF,aX,cB]at hf;simp only[V.n,V.s,V.t,V.names,V.kids]at hf;obtain⟨⟨⟨⟨b1,b2⟩,rfl⟩,rfl,rfl⟩,ht⟩:=hf;exact⟨rfl,by rw[sI ht],b1,b2⟩
 rw[aa (show ¬(V.mk k n s t names kids).k=5 from a5)]at hf;right
 by_cases a6:k=6\/k=7
 ·left
  rw[ag (show(V.mk k n s t names kids).k=6\/(V.mk k n s t names kids).k=7 from a6)]at hf;simp only[rW,m7,aF,aX,cB]at hf;simp only[V.n,V.s,V.names,V.kids]at hf;obtain⟨⟨rfl,rfl⟩,rfl,rfl⟩:=hf;exact⟨a6,rfl,I⟩
 rw[aa (show ¬((V.mk k n s t names kids).k=6\/(V.mk k n s t names kids).k=7) from a6)]at hf;right
 by_cases a8:k=8
 ·subst a8;left
  rw[ag (show(V.mk 8 n s t names kids).k=8 from rfl)]at hf;simp only[rW,mN,aF,aX,cB]at hf;simp only[V.n,V.s,V.t,V.names]at hf;obtain⟨⟨⟨rfl,rfl⟩,rfl⟩,ht⟩:=hf;exact⟨rfl,by rw[sI ht],I⟩
 rw[aa (show ¬(V.mk k n s t names kids).k=8 from a8)]at hf;right
 by_cases a9:k=9
 ·subst a9
  rw[ag (show(V.mk 9 n s t names kids).k=9 from rfl)]at hf;simp only[rW,mN,aF,aX]at hf;simp only[V.n,V.s,V.t]at hf;obtain⟨⟨rfl,rfl⟩,ht⟩:=hf;have h4:n_ (.mk 9 0 0 t names kids)=true:=by
   cases hb:n_ (.mk 9 0 0 t names kids) with
   | true=>rfl
   | false=>exact(h3 ⟨rfl,hb⟩).elim
  unfold n_ at h4;simp only[aF,bY,aX]at h4;refine⟨rfl,by rw[sI ht],I,h4.2,fun s hs=>?_⟩;have:=h4.1.1 s hs;unfold qk at this;simp at this
  omega
 ·rw[aa (show ¬(V.mk k n s t names kids).k=9 from a9)]at hf;cases hf
def Rng:Nat->V->Prop
 | 0,_=>False
 | f+1,v=>(-9223372036854775808<=v.n/\v.n<=9223372036854775807)/\∀x∈v.kids,Rng f x
theorem V9 {v x:V}(h:chk (m+1) v=0)(hx:x∈v.kids): chk m x=0:=by
 obtain⟨j,hj,rfl⟩:=bH hx;have:=qB h hj
 rwa [ah,ai hj]at this
variable {n:NN}{Q:Exit->Act->World->Prop}{l:Env}{w w':World}{ops:Array Oper}{o:Oper}{rest:List Oper}{d:Nat}
def Gw (s:lD)(cs:kL):Prop:=cs=[.string s]/\s.size<=140737488355328
def lz (O:Nat->Prop):Nat->World->V->kL->Prop
 | 0,_,_,_=>False
 | f+1,w,v,cs=>∃sn sk,cs=[Iq v.k,Iq v.n,Iq v.s,.string v.t,sn,sk]/\
   (Lit.int .i64 v.k).wf=true/\(Lit.int .i64 v.n).wf=true/\(Lit.int .i64 v.s).wf=true/\v.t.size<=140737488355328/\m6 1 kZ Gw O w sn v.names/\m6 6 mM (lz O f w) O w sk v.kids
theorem lz.jA {K:Nat->Prop}(hk:Z K w w')(hK:∀b,O b->b<w.heap.size->K b)(hO:∀b,O b->O' b): ∀ {f:Nat}{v:V}{cs:kL},lz O f w v cs->lz O' f w' v cs
 | 0,_,_,h=>h
 | _+1,_,_,⟨sn,sk,h1,h2,h3,h4,h5,h6,h7⟩=>⟨sn,sk,h1,h2,h3,h4,h5,h6.jA hk hK hO fun _ _ h=>h,h7.jA hk hK hO fun _ _ h=>lz.jA hk hK hO h⟩
theorem lz.mono (hO:∀b,O b->O' b){v:V}(h:lz O f w v cs): lz O' f w v cs:=h.jA (Z.refl (fun _=>True) w) (fun _ _ _=>trivial) hO
theorem m6.there {z:α}{P P':α->kL->Prop}{v:Value}{l:List α}(h:m6 m z P O w v l)(hP:∀x cs,P x cs->P' x cs): m6 m z P' (fun b=>O b/\b<w.heap.size) w v l:=by
 obtain⟨sp,cap,h1,h2,h3,h5,h4⟩:=h;refine⟨sp,cap,h1,h2,h3,h5,fun h0=>?_⟩;obtain⟨b,o,e,j6,UJ,hr⟩:=h4 h0;refine⟨b,o,e,j6,⟨UJ,j6⟩,fun j hj=>?_⟩;obtain⟨cs,hc,hp,ly⟩:=hr j hj;exact⟨cs,hc,hP _ _ hp,ly⟩
theorem lz.there: ∀ {f:Nat}{v:V}{cs:kL},lz O f w v cs->lz (fun b=>O b/\b<w.heap.size) f w v cs
 | 0,_,_,h=>h
 | _+1,_,_,⟨sn,sk,h1,h2,h3,h4,h5,h6,h7⟩=>⟨sn,sk,h1,h2,h3,h4,h5,h6.there fun _ _ h=>h,h7.there fun _ _ h=>lz.there h⟩
theorem m6.strs {v:Value}{l:List lD}(h:m6 1 kZ Gw O w v l): AI w v l:=by
 obtain⟨sp,cap,h1,h2,h3,-,h4⟩:=h;refine⟨sp,cap,h1,h2,h3,fun j hj=>?_,fun h0=>?_⟩
 ·obtain⟨b,o,-,-,-,hr⟩:=h4 I
  obtain⟨cs,-,⟨-,hp⟩,-⟩:=hr j hj;exact hp
 ·obtain⟨b,o,e,hb,-,hr⟩:=h4 h0
  refine⟨b,o,e,hb,fun j hj=>?_⟩;obtain⟨cs,-,⟨rfl,-⟩,ly⟩:=hr j hj;have:=ly 0 _ rfl;rw[cJ]at this;exact this
theorem lz.sN: ∀ {f:Nat}{v:V}{cs:kL},lz O f w v cs->mj f w v cs
 | 0,_,_,h=>h
 | _+1,_,_,⟨sn,sk,h1,h2,h3,h4,h5,h6,h7⟩=>⟨sn,sk,h1,h2,h3,h4,h5,h6.strs,by
   obtain⟨sp,cap,k1,k2,k3,-,k4⟩:=h7;refine⟨sp,cap,k1,k2,k3,fun h0=>?_⟩;obtain⟨b,o,e,hb,-,hr⟩:=k4 h0;refine⟨b,o,e,hb,fun j hj=>?_⟩;obtain⟨cs,hc,hp,ly⟩:=hr j hj;exact⟨cs,hc,lz.sN hp,ly⟩⟩
theorem lz.len {v:V}(h:lz O f w v cs): cs.length=6:=h.sN.len
theorem lz.one {v:V}(h:lz O f w v cs): lY cs:=mj.one h.sN
end K
namespace K
theorem sQ:∀(f u:Nat),(uvF f u).length<=f
 | 0,_=>by simp[uvF]
 | f+1,u=>by
  unfold uvF
  split
  ·simp
  ·simp[sQ f (u / 128)]
theorem agd: ∀x:Nat,x<256->bits .or .u8 (x:Int) 128=((x % 128+128:Nat):Int):=by decide +kernel
theorem aiC (u:Nat)(h:u<18446744073709551616): bits .and .u64 (u:Int) 127=((u % 128:Nat):Int):=by
 have h:=iB u 127 h I;have e:u &&& 127=u % 128:=f_ u 7;rw[e]at h;exact h
theorem akM (u:Nat): (u:Int) / ((2 ^ min 7 IntKind.u64.bits:Nat):Int)=((u / 128:Nat):Int):=by
 rw[show((2 ^ min 7 IntKind.u64.bits:Nat):Int)=128 from rfl];omega
theorem Hw (u:Nat)(hu:u<18446744073709551616)(w:World):
  Calls prog 147 #[.int .u64 u] w fun e w'=>∃b,e=.returned b/\Bu w' b (lK u)/\jP w w'/\∀g,b.ownBlock=some g->w.heap.size<=g:=by
 apply kq func147 ntmps147;have h1:u<2*128 ^ 9:=I;have h2:lK u=[]++uvF (9+1) u:=by rw[aT];rfl
 apply G _;refine WC.loop (fun i:Nat×Nat×oK×Value=>[(0,.int .u64 i.2.1),(3,i.2.2.2)])
  (fun i w'=>i.2.1<2*128 ^ i.1/\i.1<=9/\lK u=i.2.2.1++uvF (i.1+1) i.2.1/\i.2.2.1.length<=9/\Bu w' i.2.2.2 i.2.2.1/\kX w (kP) w' i.2.2.2) (fun i=>i.1) (9,u,[],kP) kz ⟨h1,aj 9,h2,ay 9,Bu.nil w,kX.refl _ _⟩ ?_
 rintro⟨f,c,A,v⟩ wr ⟨hc,hf,hA,hl,hb,hg⟩;simp only at hc hf hA hl hb hg ⊢;have hle:(128:Nat) ^ f<=128 ^ 9:=du lZ hf
 by_cases h:c<128
 ·have hw:IntKind.u8.wrap (c:Int)=(c:Int):=by rw[bL];omega
  have pY:uvF (f+1) c=[(c:Int)]:=by rw[uvF,ag h]
  apply G _;refine WL.push rfl rfl rfl rfl rfl rfl rfl rfl rfl rfl rfl (fun _=>rfl) rfl hb (by simp only[ak,aL];omega) fun b2 w2 kK nK=>?_;apply G _;have oS:=hg.trans nK;refine J ⟨b2,rfl,?_,oS.old (aj _) (fun g h=>by cases h),oS.own (aj _) (fun g h=>by cases h)⟩;rw[hw]at kK;rw[hA,pY];exact kK
 ·obtain⟨f,rfl⟩:∃f',f=f'+1:=⟨f - 1,by
   cases f with
   | zero=>simp at hc;omega
   | succ f=>rfl⟩
  have ua:uvF (f+1+1) c=((c % 128+128:Nat):Int)::uvF (f+1) (c / 128):=Wi I;have hw:bits .or .u8 (IntKind.u8.wrap (c:Int)) 128=((c % 128+128:Nat):Int):=by
   have:=agd (c % 256) I;rw[bL,show(c:Int) % 256=((c % 256:Nat):Int) by omega,this];omega
  apply G _;refine WL.push rfl rfl rfl rfl rfl rfl rfl rfl rfl rfl rfl (fun _=>rfl) rfl hb (by simp only[ak,aL];omega) fun b2 w2 kK nK=>?_;rw[hw]at kK;apply G _;refine WQ.again (f,c / 128,A++[((c % 128+128:Nat):Int)],b2) ⟨congrArg (fun z=>some (Value.int .u64 z)) (akM c),rfl,trivial⟩
   ⟨by rw[dx]at hc;show c / 128<2*128 ^ f;omega,by show f<=9;omega,by show lK u=A++[((c % 128+128:Nat):Int)]++uvF (f+1) (c / 128);rw[hA,ua];simp,?_,kK,hg.trans nK⟩ (by show f<f+1;omega)
  show(A++[((c % 128+128:Nat):Int)]).length<=9
  have:=congrArg List.length hA;rw[af,ua,ak]at this;have Cy:(lK u).length<=10:=sQ 10 u;have h1:1<=(uvF (f+1) (c / 128)).length:=by unfold uvF;split<;>simp
  rw[af];simp only[ak,aL];omega
theorem ach (x:Nat)(h:x<18446744073709551616): x ^^^ 18446744073709551615=18446744073709551615 - x:=by
 have e:=congrArg BitVec.toNat (BitVec.xor_allOnes (x:=BitVec.ofNat 64 x));rw[BitVec.toNat_xor,BitVec.toNat_not,BitVec.toNat_ofNat,BitVec.toNat_allOnes,Nat.mod_eq_of_lt I]at e
 simpa using e
theorem aeD (v:Int)(h:-9223372036854775808<=v/\v<=9223372036854775807):
  bits .xor .u64 (IntKind.u64.wrap (IntKind.i64.wrap (v*((2 ^ min 1 IntKind.i64.bits:Nat):Int)))) (IntKind.u64.wrap (v / ((2 ^ min 63 IntKind.i64.bits:Nat):Int)))=xt v:=by
 rw[show((2 ^ min 1 IntKind.i64.bits:Nat):Int)=2 from rfl,show((2 ^ min 63 IntKind.i64.bits:Nat):Int)=9223372036854775808 from rfl];unfold xt
 by_cases hv:0<=v
 ·rw[ag hv,show v / 9223372036854775808=0 by omega,show IntKind.u64.wrap 0=((0:Nat):Int) by rw[aS];omega,
   show IntKind.u64.wrap (IntKind.i64.wrap (v*2))=(((2*v).toNat:Nat):Int) by rw[aS,dG];omega,bits_xor_u64_nat _ _ I I,Nat.xor_zero]
 ·rw[aa hv,show v / 9223372036854775808 = -1 by omega,show IntKind.u64.wrap (-1)=((18446744073709551615:Nat):Int) by rw[aS];omega,
   show IntKind.u64.wrap (IntKind.i64.wrap (v*2))=(((2*v+18446744073709551616).toNat:Nat):Int) by rw[aS,dG];omega,bits_xor_u64_nat _ _ I I,ach _ I]
  omega
theorem Wy (v:Int)(h:-9223372036854775808<=v/\v<=9223372036854775807)(w:World): Calls prog 159 #[Iq v] w fun e w'=>e=.returned (.int .u64 (xt v:Nat))/\w'=w:=by
 apply kq func159 ntmps159;have hz:=aeD v h;generalize (xt v:Nat)=z at hz ⊢;apply mA _;apply(jN);apply mA _;apply(jN);apply(jN);apply(jN);apply(jN);apply(jN);apply(jN);apply(jN);apply(jN);apply mA _;exact J ⟨congrArg (fun z=>Ending.returned (Value.int .u64 z)) hz,rfl⟩
theorem wT {bb:Nat}{v:Value}(hu:u<18446744073709551616)(hb:Bx bb w v l)(hl:l.length<=70368744177664):
  Calls prog 158 #[.int .u64 u,jV bb] w fun e w'=>e=.returned (.tuple #[])/\∃v',Bx bb w' v' (l++lK u)/\qd bb w v w' v':=by
 apply kq iJ ntmps158;apply G _;refine WC.drawn 4 (fun wx=>U 158 wx bb [v]) fun w2 tA=>?_;have kK:=hb.below (tA.below _);have hS:=kK.blk;have tp:=(qd.refl bb w v).below (tA.below _);have SK:(lK u).length<=10:=sQ 10 u;apply jz 0 [3,4] (fun wx hx=>hx.cell 0 jM) hS;apply jC [1] hS _;apply jS 2;apply jx func147 (Hw u hu w2);rintro e w3 ⟨b3,rfl,lC,k3,g3⟩;refine⟨_,rfl,?_⟩;have vX:=kK.below k3;refine WL.nil (WQ.dk (.inr vX.blk) ?_);apply jS 3;refine kW vX.bu lC.sl fun b4 w4 nk qF=>?_;obtain⟨rh,y_,Kw⟩:=vX.put nk qF;apply lI rh;apply jS 4;apply jT (hv:=nk.DV) (rh.cell 0 jM) (rh.free 0);apply(jZ);apply(jD);exact WQ.GN rfl ⟨rfl,b4,y_,(tp.below k3).trans Kw⟩
section
variable {n:Nat}{l:Env}{w:World}{fn:Func}{R:Ending->World->Prop}
end
variable {B rb:Nat}{w:World}{l:oK}{e:Int}
end K
namespace K
theorem Z.setRow {K:Nat->Prop}(h:Z K a w)(hg:¬K g)(cs:Array Value): Z K a (w.setRow g cs) :=
 ⟨h.os,h.tape,h.output,by simpa using h.size,fun k hk=>(setRow_other w g k cs (fun e=>hg (e ▸ hk))).trans (h.block k hk)⟩
theorem wf_i64 {x:Int}(h:-9223372036854775808<=x/\x<=9223372036854775807): (Lit.int .i64 x).wf=true:=by
 simp[Lit.wf,IntKind.min,IntKind.max,IntKind.bits,IntKind.signed];omega
theorem BZ {k n s:Int}{t:lD}(hk:0<=k/\k<=255)(hn:-9223372036854775808<=n/\n<=9223372036854775807)(hs:0<=s/\s<=255)(ht:t.size<=140737488355328):
  lz O (f+1) w (.mk k n s t [] []) [Iq k,Iq n,Iq s,.string t,kP,kP] :=
 ⟨_,_,rfl,wf_i64 (by show -9223372036854775808<=k/\k<=_;omega),wf_i64 hn,wf_i64 (by show -9223372036854775808<=s/\s<=_;omega),ht,m6.nil _ _ _ _ _,m6.nil _ _ _ _ _⟩
section
variable {rb vb f:Nat}{k:Int}{w0 w w':World}{ns:List lD}{ks:List V}{sn sk TH sk':Value}{q:Nat->Prop}
end
theorem RD: na prog 23 25 6 88:=na.mk' (z:=.agg #[Iq 0,Iq 0,Iq 0,.string ByteArray.empty,kP,kP]) fj jG rfl I
theorem ZB: na prog 22 9 1 16:=na.mk' (z:=.string ByteArray.empty) eG jG rfl I
section
variable {n:Nat}{l:Env}{w:World}{fn:Func}{R:Ending->World->Prop}
theorem WQ.xG (hr:fn.results=#[.cell p Cd,.tmp q])(hl:look l p=some (jV g))(hq:look l q=some x)(ht:cellsN (tyOf ty Cd)=some m)(hm:cs.length=m)(hb:U T w g cs)(h:R (.returned (.tuple #[.agg cs.toArray,x])) w): WQ ⟨kn,[],md⟩ (bodyPost prog fn R) .ret l w :=
 ⟨fun a ha=>⟨ha.defers,_,by
  obtain⟨_,hu,Ii,lJ⟩:=ug oz ht;have hp:=ha.getD hl;have hx:=ha.getD hq;simp only[cq]at hp hx;have:=fA (P:=prog) w g 0 Cd cs _ (U.rangeAt hb) hu Ii (by rw[lJ,hm]);simp[results,hr,hp,hx,asAddr,this],h⟩⟩
end
section
variable {n:NN}{Q:Exit->Act->World->Prop}{l:Env}{w:World}{ops:Array Oper}{d:Nat}{S:World->Prop}{m fuel:Nat}{jI:Array Bool}
theorem WD.build {t:Nat}{parts:List (Nat×Operand)}(cells:kL)(i:Nat)(hi:ops[i]? = some oi)(hs:vS ops jI i m=true)(hd:oi.dst=some d)(hn:Nat.blt d n.n=true)(hQ:Passes Q)(hw:wants ops l oi=some true)(ho:oi.op=.build t parts.toArray)(hp:evlParts l parts=some ps)(hf:prog.built t ps=some cells.toArray)(hS:jI.getD m false=true\/S w)(h:WD n ops Q S m fuel (jI.setIfInBounds i true) ((d,.agg cells.toArray)::l) w): WD n ops Q S m (fuel+1) jI l w :=
 WD.first i hi hs hd hn hQ (fun a ha=>.inl ⟨pj ha hw,fun w _=>by
  unfold execOp;rw[ho];have:=run_build (P:=prog) w t (parts.toArray.map fun(i,x)=>(i,a.eval x)) cells.toArray (by
   rw[show(parts.toArray.map fun(x:Nat×Operand)=>(x.1,a.eval x.2)).toList=ps by rw[fm];exact tY ha hp];exact hf)
  simp only[bK,this,bG]
  rfl⟩) hS h
end
def zV:V:=.mk 0 0 0 kZ [] []
def jK:kL:=[Iq 0,Iq 0,Iq 0,.string ByteArray.empty,kP,kP]
theorem oe (O:Nat->Prop)(f:Nat)(w:World): lz O (f+1) w zV jK:=BZ (k:=0) (n:=0) (s:=0) (t:=kZ) I I I lZ
section
variable {α β:Type}{l l1 l2:oK}{e e1 e2:Int}
end
end K
namespace Vl
theorem tg (s:ByteArray)(w:World): Calls prog 160 #[.string s] w fun e w'=>e=.returned (.bool (qk s))/\w=w':=by
 by_cases h1:1<=s.size
 ·have CE:(1:Int)<=s.size:=I
  go_enter func160,ntmps160
  go_wp2
  go_ret
  exact⟨by simp[qk,h1];omega,rfl⟩
 ·have CE:decide ((1:Int)<=s.size)=false:=ar I
  go_enter func160,ntmps160
  go_wp2
  go_ret
  exact⟨by simp[qk,h1],rfl⟩
theorem N6:∀(a p:List UInt8),(Op.bytesLess a p || a == p) = !Op.bytesLess p a
 | [],[]=>rfl
 | [],_::_=>by simp[Op.bytesLess]
 | _::_,[]=>by simp[Op.bytesLess]
 | x::a,y::p=>by
  have ih:=N6 a p;unfold Op.bytesLess;rcases eU x.toNat y.toNat with h|h|h
  ·have h1:=bO.2 h
   have h2:¬y<x:=fun e=>by have:=bO.1 e;omega
   have h3:¬y=x:=fun e=>by subst e;omega
   simp[h1,h2,h3]
  ·obtain rfl:x=y:=df h
   simpa using ih
  ·have h1:=bO.2 h
   have h2:¬x<y:=fun e=>by have:=bO.1 e;omega
   have h3:¬x=y:=fun e=>by subst e;omega
   simp[h1,h2,h3]
theorem A6 {b b':Bool}(h:b=b'): Ending.returned (.bool b)=Ending.returned (.bool b'):=by rw[h]
abbrev mR (v:V)(sn sk:Value):List Value:=[.int .i64 v.k,.int .i64 v.n,.int .i64 v.s,.string v.t,sn,sk]
def Iw (l:List ByteArray)(i:Nat):Bool:=qk (l.getD i kZ) && (decide (i=0) || Op.bytesLess (l.getD (i - 1) kZ).toList (l.getD i kZ).toList)
theorem DH (v:V): n_ v=true ↔ (∀i,i<v.names.length->Iw v.names i=true)/\v.names.length=v.kids.length:=by
 unfold n_;rw[aF,aF,NX,bY,gR,and_congr_left_iff];intro _
 constructor
 ·rintro⟨h1,h2⟩ i hi
  unfold Iw;rw[aF,fz,gR];refine⟨h1 _ (by simp[hi]),?_⟩;cases i with
  | zero=>exact .inl rfl
  | succ i=>exact .inr (h2 i hi)
 ·intro h
  constructor
  ·intro x hx
   obtain⟨j,hj,rfl⟩:=bH hx;have:=h j hj;unfold Iw at this;rw[aF]at this
   simpa[hj] using this.1
  ·intro i hi
   have:=h (i+1) hi;unfold Iw at this;rw[aF,fz,gR]at this;exact this.2.resolve_left I
def kO (k n s:Int)(B P E N0:Bool):Bool :=
 if k=1 then B && P && E
 else if k=2 then decide (n / 2=0) && decide (s=0) && P && E
 else if k=3 then decide (s=0) && P && E
 else if k=4 then decide (1<=s) && decide (s<=18) && decide (¬n.tmod 10=0) && P && E
 else if k=5 then decide (0<=n) && decide (n<=9007199254740992) && decide (s=0) && P && E
 else if k=6\/k=7 then B && P
 else if k=8 then B && N0 && E
 else if k=9 then B && E
 else false
theorem IG (v:V): pS v=kO v.k v.n v.s (rW v) (m7 v) (mN v) (decide (v.names.length=0)):=by
 have h:(decide (0<=v.n) && decide (v.n<=1))=decide (v.n / 2=0):=by
  by_cases h:v.n / 2=0
  ·simp[h];omega
  ·rw[ar h,iQ,fE,fE];omega
 unfold pS kO;rw[h]
theorem mj.open {v:V}{cs:List Value}(h:mj f w v cs):
  ∃np nc kp kc,cs=[.int .i64 v.k,.int .i64 v.n,.int .i64 v.s,.string v.t,.slice np v.names.length nc,.slice kp v.kids.length kc]/\
   (-9223372036854775808<=v.n/\v.n<=9223372036854775807)/\v.t.size<=140737488355328/\v.names.length<=nc/\nc<=9223372036854775807/\v.kids.length<=kc/\kc<=9223372036854775807:=by
 cases f with
 | zero=>exact h.elim
 | succ f=>
  obtain⟨sn,sk,rfl,-,hn,-,ht,⟨np,nc,rfl,nl,LQ,-⟩,⟨kp,kc,rfl,kl,kc2,-⟩⟩:=h;refine⟨np,nc,kp,kc,rfl,?_,ht,nl,LQ,kl,kc2⟩;simp[Lit.wf,IntKind.min,IntKind.max,IntKind.bits,IntKind.signed]at hn
  omega
end Vl
open K
namespace Vl
theorem adm (v:V): (v.t.toList == (ByteArray.mk #[]).toList)=mN v:=by
 have h0:(ByteArray.mk #[]).toList=[]:=by decide +kernel
 have hl:v.t.toList.length=v.t.size:=by rw[aJ];rfl
 rw[h0];unfold mN;cases h:v.t.toList with
 | nil=>rw[h]at hl;simp at hl;simp[<-hl]
 | cons a r=>rw[h]at hl;simp at hl;simp[<-hl]
theorem aeo (s:lD)(w:World): Calls prog 160 #[.string s] w fun e w'=>e=.returned (.bool (qk s))/\w=w':=by
 apply kq func160 ntmps160
 by_cases h1:(1:Int)<=s.size
 ·apply G _
  exact WQ.so rfl rfl ⟨A6 (by unfold qk;rw[aw (I:1<=s.size),iw];exact cN.2 I),rfl⟩
 ·apply G _
  exact WQ.so rfl rfl ⟨A6 (by unfold qk;rw[ar I];rfl),rfl⟩
abbrev vT:Nat:=25
theorem afd {v:V}(hv:mj (f+1) w v cs): Calls prog 149 #[.agg cs.toArray] w fun e w'=>e=.returned (.bool (n_ v))/\jP w w':=by
 obtain⟨sn,sk,rfl,-,-,-,-,⟨np,nc,rfl,nl,LQ,Ag,nr⟩,⟨sp,cap,rfl,-⟩⟩:=hv;apply kq (args:=[.agg (mR v (.slice np v.names.length nc) (.slice sp v.kids.length cap)).toArray]) func149 ntmps149;apply G _;refine jO fun g w1 hf=>?_;have hR:U vT w1 g (mR v (.slice np v.names.length nc) (.slice sp v.kids.length cap)):=hf.blk;have b1:=hf.below;clear hf;have c4:w1.cell? (Aq g 4)=some (.slice np v.names.length nc):=hR.cell 4 jM;have c5:w1.cell? (Aq g 5)=some (.slice sp v.kids.length cap):=hR.cell 5 jM;have Hy:=DH v;apply jF _;apply WC.loop (fun i:Nat=>[(1,jV g),(6,.slice np v.names.length nc),(7,Iq v.names.length),(8,Iq i)]) (fun i w'=>w1=w'/\i<=v.names.length/\∀j,j<i->Iw v.names j=true) (fun i=>v.names.length - i) 0 kz ⟨rfl,ay _,fun j hj=>absurd hj I⟩;rintro i _ ⟨rfl,hi,lO⟩
 by_cases pN:i<v.names.length
 ·obtain⟨nb,no,rfl,tX,I_⟩:=nr I
  have sM:=(b1.cell (p:=Aq nb (no+i)) tX).trans (I_ i pN);have H6:=(b1.cell (p:=Aq nb (no+(i - 1))) tX).trans (I_ (i - 1) I);have hnz:=Ag i pN;clear I_ nr Ag;have mq:Iw v.names i=(qk (v.names.getD i kZ) && (decide (i=0) || Op.bytesLess (v.names.getD (i - 1) kZ).toList (v.names.getD i kZ).toList)):=rfl;have AW:=N6 (v.names.getD i kZ).toList (v.names.getD (i - 1) kZ).toList;have bad:Iw v.names i=false->n_ v=false:=fun h=>by
   cases hf:n_ v with
   | false=>rfl
   | true=>have:=(Hy.1 hf).1 i pN;rw[h]at this;cases this
  have again:Iw v.names i=true->∀j,j<i+1->Iw v.names j=true:=fun h j hj=>(cn.1 hj).elim (lO j) fun e=>by rw[e];exact h
  generalize v.names.getD i kZ=nm at sM hnz mq AW;generalize v.names.getD (i - 1) kZ=pm at H6 mq AW;apply G _;apply jQ (hq:=I) i (no+i) pN;apply jF _;apply kH func160 (aeo nm _);rintro _ rfl
  cases hN:qk nm with
  | false=>
   apply G _;exact J ⟨A6 (bad (by rw[mq,hN];rfl)).symm,b1⟩
  | true=>
   by_cases h0:i=0
   ·apply G _
    exact WQ.again (i+1) kz ⟨rfl,pN,again (by rw[mq,hN,h0];rfl)⟩ (by show v.names.length - (i+1)<v.names.length - i;omega)
   ·have hw:IntKind.i64.wrap ((i:Int) - 1)=((i - 1:Nat):Int):=by rw[bN _ I];omega
    apply jF _;apply WL.idx (i - 1) (no+(i - 1)) rfl rfl rfl rfl rfl rfl rfl I I I;apply jF _;cases j6:Op.bytesLess pm.toList nm.toList with
    | true=>
     rw[j6]at AW mq;apply WC.as 29 (.bool false) rfl (congrArg Value.bool AW);apply G _;exact WQ.again (i+1) kz ⟨rfl,pN,again (by rw[mq,hN];simp)⟩ (by show v.names.length - (i+1)<v.names.length - i;omega)
    | false=>
     rw[j6]at AW mq;apply WC.as 29 (.bool true) rfl (congrArg Value.bool AW);apply G _;exact J ⟨A6 (bad (by rw[mq,hN,ar h0];rfl)).symm,b1⟩
 ·obtain rfl:i=v.names.length:=I
  clear nr Ag;apply jF _;refine J ⟨A6 ?_,b1⟩;cases hf:n_ v with
  | true=>exact aw (by have:=(Hy.1 hf).2;omega)
  | false=>exact ar fun e=>by rw[Hy.2 ⟨lO,I⟩]at hf;cases hf
theorem CT {v:V}(h:mj f w v cs): lY cs:=by
 obtain⟨np,nc,kp,kc,rfl,-⟩:=mj.open h;intro u hu;simp only[ax,a_,eJ]at hu;rcases hu with rfl|rfl|rfl|rfl|rfl|rfl<;>rfl
theorem aio {v:V}(Ko:mj (f+1) w v cs): Calls prog 130 #[.agg cs.toArray] w fun e w'=>e=.returned (Iq (sP v))/\jP w w':=by
 obtain⟨sn,sk,rfl,-,TI,-,Y9,⟨np,nc,rfl,nl,LQ,-,-⟩,⟨sp,cap,rfl,vg,qn,-⟩⟩:=id Ko;have hn:-9223372036854775808<=v.n/\v.n<=9223372036854775807:=by simp[Lit.wf,IntKind.min,IntKind.max,IntKind.bits,IntKind.signed]at TI;omega
 clear TI;apply kq (args:=[.agg (mR v (.slice np v.names.length nc) (.slice sp v.kids.length cap)).toArray]) func130 ntmps130;apply G _;refine jO fun g w1 hf=>?_;have hR:U vT w1 g (mR v (.slice np v.names.length nc) (.slice sp v.kids.length cap)):=hf.blk;have b1:=hf.below;have Sc:=mj.below b1 Ko;clear hf Ko;have c0:w1.cell? (Aq g 0)=some (Iq v.k):=hR.cell 0 jM;have c1:w1.cell? (Aq g 1)=some (Iq v.n):=hR.cell 1 jM;have c2:w1.cell? (Aq g 2)=some (Iq v.s):=hR.cell 2 jM;have c3:w1.cell? (Aq g 3)=some (.string v.t):=hR.cell 3 jM;have c4:w1.cell? (Aq g 4)=some (.slice np v.names.length nc):=hR.cell 4 jM;have c5:w1.cell? (Aq g 5)=some (.slice sp v.kids.length cap):=hR.cell 5 jM;have k_:=IG v;have hE:=adm v;have hsh:v.n / ((2 ^ min 1 IntKind.i64.bits:Nat):Int)=v.n / 2:=by rw[show((2 ^ min 1 IntKind.i64.bits:Nat):Int)=2 from rfl]
 apply ur _;refine WL.tn (fun _:Unit=>[(1,jV g),(3,.bool (rW v))]) (fun _ w'=>w1=w') rfl ?_ ?_
 ·by_cases n0:v.n=0
  ·apply WL.as 9 (.bool true) rfl (congrArg Value.bool (aw n0))
   apply jF _;exact WQ.meet () ⟨rfl,congrArg (fun b=>some (Value.bool b)) (by unfold rW;simp[n0]),trivial⟩ rfl
  ·apply WL.as 9 (.bool false) rfl (congrArg Value.bool (ar n0))
   apply jF _;exact WQ.meet () ⟨rfl,congrArg (fun b=>some (Value.bool b)) (by unfold rW;simp[n0]),trivial⟩ rfl
 rintro⟨⟩ _ rfl;apply ur _;refine WL.tn (fun _:Unit=>[(1,jV g),(3,.bool (rW v)),(4,.bool (m7 v))]) (fun _ w'=>w1=w') rfl ?_ ?_
 ·by_cases n0:v.names.length=0
  ·have n1:(v.names.length:Int)=0:=I
   apply WL.as 18 (.bool true) rfl (congrArg Value.bool (aw n1));apply jF _;exact WQ.meet () ⟨rfl,rfl,congrArg (fun b=>some (Value.bool b)) (by unfold m7;simp[n0]),trivial⟩ rfl
  ·have n1:¬(v.names.length:Int)=0:=I
   apply WL.as 18 (.bool false) rfl (congrArg Value.bool (ar n1));apply jF _;exact WQ.meet () ⟨rfl,rfl,congrArg (fun b=>some (Value.bool b)) (by unfold m7;simp[n0]),trivial⟩ rfl
 rintro⟨⟩ _ rfl;apply ur _;refine WC.tn (fun _:Unit=>[(1,jV g),(5,.bool (pS v))]) (fun _ w'=>w1=w') rfl ?_ ?_
 ·clear Sc
  by_cases q:v.k=1
  ·skip
   cases hB:rW v with
   | false=>
    rw[hB]at k_;apply jF _;exact WQ.meet () ⟨rfl,congrArg (fun b=>some (Value.bool b)) (by rw[k_];simp[kO, *]),trivial⟩ rfl
   | true=>
    rw[hB]at k_;cases hP:m7 v with
    | false=>
     rw[hP]at k_;apply jF _;exact WQ.meet () ⟨rfl,congrArg (fun b=>some (Value.bool b)) (by rw[k_];simp[kO, *]),trivial⟩ rfl
    | true=>
     rw[hP]at k_;apply jF _;exact WQ.meet () ⟨rfl,congrArg (fun b=>some (Value.bool b)) (hE.trans (by rw[k_];simp[kO, *])),trivial⟩ rfl
  by_cases q:v.k=2
  ·apply jF _
   apply WL.as 43 (.bool (decide (v.n / 2=0))) rfl (congrArg (fun z=>Value.bool (decide (z=0))) hsh)
   by_cases a0:v.n / 2=0
   ·skip
    by_cases a1:v.s=0
    ·skip
     cases hP:m7 v with
     | false=>
      rw[hP]at k_;apply jF _;exact WQ.meet () ⟨rfl,congrArg (fun b=>some (Value.bool b)) (by rw[k_];simp[kO, *]),trivial⟩ rfl
     | true=>
      rw[hP]at k_;apply jF _;exact WQ.meet () ⟨rfl,congrArg (fun b=>some (Value.bool b)) (hE.trans (by rw[k_];simp[kO, *])),trivial⟩ rfl
    ·skip
     apply jF _;exact WQ.meet () ⟨rfl,congrArg (fun b=>some (Value.bool b)) (by rw[k_];simp[kO, *]),trivial⟩ rfl
   ·skip
    apply jF _;exact WQ.meet () ⟨rfl,congrArg (fun b=>some (Value.bool b)) (by rw[k_];simp[kO, *]),trivial⟩ rfl
  by_cases q:v.k=3
  ·skip
   by_cases a0:v.s=0
   ·skip
    cases hP:m7 v with
    | false=>
     rw[hP]at k_;apply jF _;exact WQ.meet () ⟨rfl,congrArg (fun b=>some (Value.bool b)) (by rw[k_];simp[kO, *]),trivial⟩ rfl
    | true=>
     rw[hP]at k_;apply jF _;exact WQ.meet () ⟨rfl,congrArg (fun b=>some (Value.bool b)) (hE.trans (by rw[k_];simp[kO, *])),trivial⟩ rfl
   ·skip
    apply jF _;exact WQ.meet () ⟨rfl,congrArg (fun b=>some (Value.bool b)) (by rw[k_];simp[kO, *]),trivial⟩ rfl
  by_cases q:v.k=4
  ·skip
   by_cases a0:1<=v.s
   ·skip
    by_cases a1:v.s<=18
    ·skip
     by_cases a2:¬v.n.tmod 10=0
     ·skip
      cases hP:m7 v with
      | false=>
       rw[hP]at k_;apply jF _;exact WQ.meet () ⟨rfl,congrArg (fun b=>some (Value.bool b)) (by rw[k_];simp[kO, *]),trivial⟩ rfl
      | true=>
       rw[hP]at k_;apply jF _;exact WQ.meet () ⟨rfl,congrArg (fun b=>some (Value.bool b)) (hE.trans (by rw[k_];simp[kO, *])),trivial⟩ rfl
     ·skip
      apply jF _;exact WQ.meet () ⟨rfl,congrArg (fun b=>some (Value.bool b)) (by rw[k_];simp[kO, *]),trivial⟩ rfl
    ·skip
     apply jF _;exact WQ.meet () ⟨rfl,congrArg (fun b=>some (Value.bool b)) (by rw[k_];simp[kO, *]),trivial⟩ rfl
   ·skip
    apply jF _;exact WQ.meet () ⟨rfl,congrArg (fun b=>some (Value.bool b)) (by rw[k_];simp[kO, *]),trivial⟩ rfl
  by_cases q:v.k=5
  ·skip
   by_cases a0:0<=v.n
   ·skip
    by_cases a1:v.n<=9007199254740992
    ·skip
     by_cases a2:v.s=0
     ·skip
      cases hP:m7 v with
      | false=>
       rw[hP]at k_;apply jF _;exact WQ.meet () ⟨rfl,congrArg (fun b=>some (Value.bool b)) (by rw[k_];simp[kO, *]),trivial⟩ rfl
      | true=>
       rw[hP]at k_;apply jF _;exact WQ.meet () ⟨rfl,congrArg (fun b=>some (Value.bool b)) (hE.trans (by rw[k_];simp[kO, *])),trivial⟩ rfl
     ·skip
      apply jF _;exact WQ.meet () ⟨rfl,congrArg (fun b=>some (Value.bool b)) (by rw[k_];simp[kO, *]),trivial⟩ rfl
    ·skip
     apply jF _;exact WQ.meet () ⟨rfl,congrArg (fun b=>some (Value.bool b)) (by rw[k_];simp[kO, *]),trivial⟩ rfl
   ·skip
    apply jF _;exact WQ.meet () ⟨rfl,congrArg (fun b=>some (Value.bool b)) (by rw[k_];simp[kO, *]),trivial⟩ rfl
  by_cases q:v.k=6
  ·skip
   cases hB:rW v with
   | false=>
    rw[hB]at k_;apply jF _;exact WQ.meet () ⟨rfl,congrArg (fun b=>some (Value.bool b)) (by rw[k_];simp[kO, *]),trivial⟩ rfl
   | true=>
    rw[hB]at k_;apply jF _;exact WQ.meet () ⟨rfl,congrArg (fun b=>some (Value.bool b)) (by rw[k_];simp[kO, *]),trivial⟩ rfl
  by_cases q:v.k=7
  ·skip
   cases hB:rW v with
   | false=>
    rw[hB]at k_;apply jF _;exact WQ.meet () ⟨rfl,congrArg (fun b=>some (Value.bool b)) (by rw[k_];simp[kO, *]),trivial⟩ rfl
   | true=>
    rw[hB]at k_;apply jF _;exact WQ.meet () ⟨rfl,congrArg (fun b=>some (Value.bool b)) (by rw[k_];simp[kO, *]),trivial⟩ rfl
  by_cases q:v.k=8
  ·skip
   cases hB:rW v with
   | false=>
    rw[hB]at k_;apply jF _;exact WQ.meet () ⟨rfl,congrArg (fun b=>some (Value.bool b)) (by rw[k_];simp[kO, *]),trivial⟩ rfl
   | true=>
    rw[hB]at k_
    by_cases a0:v.names.length=0
    ·skip
     apply jF _;exact WQ.meet () ⟨rfl,congrArg (fun b=>some (Value.bool b)) (hE.trans (by rw[k_];simp[kO, *])),trivial⟩ rfl
    ·skip
     apply jF _;exact WQ.meet () ⟨rfl,congrArg (fun b=>some (Value.bool b)) (by rw[k_];simp[kO, *]),trivial⟩ rfl
  by_cases q:v.k=9
  ·skip
   cases hB:rW v with
   | false=>
    rw[hB]at k_;apply jF _;exact WQ.meet () ⟨rfl,congrArg (fun b=>some (Value.bool b)) (by rw[k_];simp[kO, *]),trivial⟩ rfl
   | true=>
    rw[hB]at k_;apply jF _;exact WQ.meet () ⟨rfl,congrArg (fun b=>some (Value.bool b)) (hE.trans (by rw[k_];simp[kO, *])),trivial⟩ rfl
  apply jF _;exact WQ.meet () ⟨rfl,congrArg (fun b=>some (Value.bool b)) (by rw[k_];unfold kO;rw[aa (I:¬v.k=1),aa (I:¬v.k=2),aa (I:¬v.k=3),aa (I:¬v.k=4),aa (I:¬v.k=5),aa (show ¬(v.k=6\/v.k=7) by omega),aa (I:¬v.k=8),aa (I:¬v.k=9)]),trivial⟩ rfl
 rintro⟨⟩ _ rfl;clear k_ hE hsh;have ret:∀ {x:Int},sP v=x->Ending.returned (Iq x)=.returned (Iq (sP v)):=fun h=>by rw[h]
 cases hF:pS v with
 | false=>
  apply jF _;exact J ⟨ret (by unfold sP;rw[ag hF]),b1⟩
 | true=>
  by_cases a1:16384<v.t.size
  ·apply jF _
   exact J ⟨ret (by unfold sP;rw[aa (by rw[hF];exact Bool.noConfusion),ag (.inl a1)]),b1⟩
  by_cases a2:200<v.kids.length
  ·apply jF _
   exact J ⟨ret (by unfold sP;rw[aa (by rw[hF];exact Bool.noConfusion),ag (.inr a2)]),b1⟩
  by_cases q:v.k=9
  ·apply jF _
   apply jy (U.rangeAt hR) rfl;apply G _;apply kH func149 (afd Sc);rintro w2 b2
   have uV:=b1.kj b2;cases hf:n_ v with
   | false=>
    apply G _;exact J ⟨ret (by unfold sP;rw[aa (by rw[hF];exact Bool.noConfusion),aa I,ag ⟨q,hf⟩]),uV⟩
   | true=>
    apply G _;exact J ⟨ret (by unfold sP;rw[aa (by rw[hF];exact Bool.noConfusion),aa I,aa (fun h=>by rw[hf]at h;exact Bool.noConfusion h.2)]),uV⟩
  ·apply jF _
   exact J ⟨ret (by unfold sP;rw[aa (by rw[hF];exact Bool.noConfusion),aa I,aa (fun h=>q h.1)]),b1⟩
theorem Zz:∀ {f:Nat}{w:World}{v:V}{cs:kL}(m:Nat) (d:Int),mj f w v cs->m<=16->d=17 - (m:Int)->
  Calls prog 97 #[.agg cs.toArray,Iq d] w fun e w'=>e=.returned (Iq (chk m v))/\jP w w'
 | 0,_,_,_,_,_,h,_,_=>h.elim
 | f+1,w,v,cs,m,d,hv,hm,hd=>by
  have ih:=@Zz f;have hlen:=hv.len;obtain⟨sn,sk,hcs,-,-,-,-,-,⟨sp,cap,rfl,vg,qn,kF⟩⟩:=id hv;apply kq (args:=[.agg cs.toArray,Iq d]) func97 ntmps97;apply mA _;refine jO fun g w1 hf=>?_;have hR:U vT w1 g cs:=hf.blk;have b1:=hf.below;clear hf;cases m with
  | zero=>
   have vP:16<d:=I;clear kF;apply G _;exact J ⟨rfl,b1⟩
  | succ m=>
   have vP:d<=16:=I;have MD:0<=d:=I;have c5:w1.cell? (Aq g 5)=some (.slice sp v.kids.length cap):=by have:=hR.cell 5 (by rw[hlen];omega);rw[this,hcs];rfl
   apply G _;apply jy (U.rangeAt hR) hlen;apply kH func130 (aio (mj.below b1 hv));rintro w2 b2
   have xo:=b1.kj b2;have c5:=(b2.cell (p:=Aq g 5) hR.lt).trans c5
   by_cases h0:sP v=0
   ·have Vv:chk (m+1) v=firstBad (v.kids.map (chk m)):=by
     conv=>lhs;unfold chk
     rw[ag h0]
    apply jF _;apply WC.loop (fun i:Nat=>[(1,Iq d),(17,.slice sp v.kids.length cap),(18,Iq v.kids.length),(19,Iq i)]) (fun i w'=>i<=v.kids.length/\jP w w'/\∀j,j<i->chk m (v.kids.getD j mM)=0) (fun i=>v.kids.length - i) 0 kz ⟨ay _,xo,fun j hj=>absurd hj I⟩;rintro i wr ⟨hi,br,lO⟩
    by_cases kt:i<v.kids.length
    ·obtain⟨kb,ko,rfl,qp,lP⟩:=kF I
     obtain⟨c,oh,qw,nW⟩:=lP i kt;clear kF lP;have t_:wr.rangeAt kb (ko+i*6) c:=fun j u hu=>by rw[br.cell (p:=Aq kb (ko+i*6+j)) qp];exact nW j u hu
     apply G _;apply jQ i (ko+i*6) kt;apply jy t_ oh;refine jJ (z:=.agg (mR ⟨0,0,0,ByteArray.empty,[],[]⟩ (kP) (kP)).toArray) (fun _=>jG) fun g8 w6 f6=>?_;apply jE (hm:=oh) f6.blk (CT qw);have t7:=f6.blk.setRow c;have b7:jP w (w6.setRow g8 c.toArray):=below_setRow (br.kj f6.below) (by have:=f6.eq;have:=br.size;omega) _;generalize w6.setRow g8 c.toArray=w7 at t7 b7 ⊢;clear f6;apply G _;apply jy (U.rangeAt t7) oh;apply G _;apply jx func97 (ih m (d+1) (qw.below b7) I I);rintro e w4 ⟨rfl,b4⟩;refine⟨_,rfl,?_⟩;have EH:=b7.kj b4
     by_cases h1:chk m (v.kids.getD i mM)=0
     ·apply G _
      exact WQ.again (i+1) kz ⟨kt,EH,fun j hj=>(cn.1 hj).elim (lO j) (fun e=>by rw[e];exact h1)⟩ (by show v.kids.length - (i+1)<v.kids.length - i;omega)
     ·have vB:chk (m+1) v=chk m (v.kids.getD i mM):=by
       rw[Vv,rC (i:=i) (by rw[aB];exact kt) (fun j hj=>by rw[r_ m v.kids j I];exact lO j hj) (by rw[r_ m v.kids i kt];exact h1),r_ m v.kids i kt]
      apply G _;exact J ⟨by rw[vB],EH⟩
    ·obtain rfl:i=v.kids.length:=I
     clear kF;apply G _;refine J ⟨?_,br⟩;rw[Vv,uc fun j hj=>by rw[aB]at hj;rw[r_ m v.kids j hj];exact lO j hj]
   ·clear kF
    have Cm:chk (m+1) v=sP v:=by unfold chk;rw[aa h0]
    apply G _;exact J ⟨by rw[Cm],xo⟩
theorem MI {v:V}(h:mj f w v cs):
  Calls prog 65 #[.agg cs.toArray] w fun e w'=>e=.returned (Iq (chk 16 v))/\jP w w':=by
 apply kq (args:=[.agg cs.toArray]) func65 ntmps65;apply G _;refine jO fun g w1 hf=>?_;have hR:U vT w1 g cs:=hf.blk;have b1:=hf.below;apply G _;apply jy (U.rangeAt hR) h.len;apply jx func97 (Zz 16 1 (h.below b1) I I);rintro e w2 ⟨rfl,b2⟩;refine⟨_,rfl,?_⟩;apply G _;exact J ⟨rfl,b1.kj b2⟩
end Vl
namespace K
section
variable {w0 wx wy:World}{vb rb xb:Nat}{l3:oK}{x:V}{cs:kL}{e e':Int}
end
theorem Ei {v:V}: encV (m+1) v=v.k::
    (if v.k=2 then[v.n] else if v.k=3 then lK (xt v.n) else if v.k=4 then lK (xt v.n)++[v.s] else if v.k=5 then lK v.n.toNat
     else if v.k=6\/v.k=7 then lK v.t.size++yI v.t
     else if v.k=8\/v.k=9 then lK v.kids.length++(List.range v.kids.length).flatMap (mQ (encV m) (decide (v.k=9)) v.names v.kids) else[]) := rfl
theorem acm (m:Nat) (ih:∀ {f:Nat}{w0 w:World}{v:V}{cs:kL}{b:Value}{l:oK}, mj f w0 v cs->chk m v=0->Bu w b l->pB w0 w b->l.length+(encV m v).length<=70368744177664->
      Calls prog 148 #[b, .agg cs.toArray] w fun e w'=>∃b', e=.returned b'/\Bu w' b' (l++encV m v)/\kX w b w' b') {v:V}{b:Value}(hv:mj f w0 v cs) (hc:chk (m+1) v=0) (hb:Bu w b l) (ha:pB w0 w b) (hm:l.length+(encV (m+1) v).length<=70368744177664):
    Calls prog 148 #[b, .agg cs.toArray] w fun e w'=>∃b', e=.returned b'/\Bu w' b' (l++encV (m+1) v)/\kX w b w' b' := by
  obtain⟨hk, f2, f3, f4, f5, fk, ft, f9⟩ := rz (qe hc); cases f with
  | zero=>exact hv.elim
  | succ f=>
  obtain⟨sn, sk, rfl, wk, wn, ws, -, rV, uC⟩ := hv; have mh := Ei (m := m) (v := v); rw[mh]at hm; have hn:-9223372036854775808<=v.n/\v.n<=9223372036854775807 := by simp[Lit.wf, IntKind.min, IntKind.max, IntKind.bits, IntKind.signed]at wn; omega
  have Lf := aar hn; apply enter (args := [b, .agg (mR v sn sk).toArray]) func148 rfl ntmps148 rfl; apply G _; refine WL.box rfl rfl rfl rfl rfl fun bb w1 hf=>?_; have vB:kJ w bb w1 158 [b] := by obtain⟨sp, c, rfl, -, -⟩ := hb.form; exact hf
  clear hf; have Mv := vB.eq; refine WL.box rfl rfl rfl rfl rfl fun g w2 hf=>?_; have XP:kJ w1 g w2 25 (mR v sn sk) := hf; clear hf; have Kw:g=bb+1 := by rw[XP.eq, vB.size, Mv]
  have xH := hb.lt; have y_:Bx bb w2 b l := ⟨(vB.blk.below XP.below vB.blk.lt), (hb.below vB.below).below XP.below, fun e=>by have := xH _ e; omega⟩; have rh := XP.blk; have Rt:b.ownBlock≠some g := fun e=>by have := xH _ e; omega
  have Uk := vB.below.trans (XP.below.mono vB.below.size); have azM:w2.heap.size=w.heap.size+2 := by rw[XP.size, vB.size]
  clear vB XP
  -- what stands while the own row grows
  have hR:∀ {wk vk}, qd bb w2 b wk vk->U 25 wk g (mR v sn sk) := fun h=>(Bx.jA h rh Rt I).1; have hA:∀ {wk vk}, qd bb w2 b wk vk->pB w0 wk vk := fun {wk vk} h=>by
    refine⟨?_, fun x hx=>(h.2 x hx).elim (fun h2=>ha.own x h2) (fun h2=>by have := ha.below.size; omega)⟩; have h1 := ha.below.trans (Uk.mono ha.below.size); refine h1.trans ((h.1.mono fun x (hx:x<w0.heap.size)=>⟨ao hx h1.size, fun e=>by have := ha.own x e; omega, by have := ha.below.size; omega⟩).below)
  have hG:∀ {wk vk}, qd bb w2 b wk vk->kX w b wk vk := fun {wk vk} h=>by
    refine⟨?_, fun x hx=>(h.2 x hx).imp id (fun h2=>by omega)⟩; have h1:Z (fun x=>x<w.heap.size/\b.ownBlock≠some x) w w2 := (Z.jw Uk).mono fun _ h=>h.1; exact h1.trans (h.1.mono fun x hx=>⟨I, hx.2, I⟩)
  have g0:qd bb w2 b w2 b := qd.refl _ _ _; have fin:∀ {b' w' x}, Bu w' b' (l++v.k::x)->qd bb w2 b w' b'->(v.k::x=encV (m+1) v)->∃F_, Ending.returned b'=.returned F_/\Bu w' F_ (l++encV (m+1) v)/\kX w b w' F_ :=
    fun {b' w' x} h1 h2 h3=>⟨b', rfl, by rw[<-h3]; exact h1, hG h2⟩
  have e8:IntKind.u8.wrap v.k=v.k := by rw[bL]; omega
  have uE:l.length+1<=70368744177664 := by simp at hm; omega
  apply G _; apply WL.fn (caps := [.tmp 2]) rfl rfl rfl rfl rfl; apply G _; apply WL.load rfl rfl rfl rfl rfl rfl (y_.blk.cell 0 jM); apply G _; apply WL.load rfl rfl rfl rfl rfl rfl ((hR g0).cell 0 jM); apply G _; refine WL.push rfl rfl rfl rfl rfl rfl rfl rfl rfl rfl rfl (fun _=>rfl) rfl y_.bu (by simp; omega) fun b2 w3 kK nK=>?_; obtain⟨NP, vX, g3⟩ := y_.put kK nK; apply WL.store rfl rfl rfl rfl rfl kK.DV jG (NP.cell 0 jM) (NP.free 0); generalize w3.setCell (Aq bb 0) b2=w4 at vX g3; clear NP nK kK; rw[e8]at vX; apply G _; apply WL.load rfl rfl rfl rfl rfl rfl ((hR g3).cell 0 jM); have sL:(l++[v.k]).length=l.length+1 := jM; have BP:∀x, l++v.k::x=(l++[v.k])++x := fun x=>jM; generalize hL:l++[v.k]=L at vX sL BP; have om:L.length+(encV (m+1) v).length<=70368744177664+1 := by rw[mh]; simp at hm ⊢; omega
  by_cases k1:v.k=1
  · apply G _
    apply WL.load rfl rfl rfl rfl rfl rfl (vX.blk.cell 0 jM); apply G _; refine WQ.so rfl rfl (fin (x := []) (by rw[BP, aP]; exact vX.bu) g3 ?_); rw[mh]; simp[k1]
  by_cases k2:v.k=2
  · have hx := f2 k2
    have e8:IntKind.u8.wrap v.n=v.n := by rw[bL]; omega
    have nO:encV (m+1) v=v.k::[v.n] := by rw[mh, ag k2]
    rw[nO]at om; simp at om
    apply G _; apply WL.load rfl rfl rfl rfl rfl rfl (vX.blk.cell 0 jM); apply G _; apply WL.load rfl rfl rfl rfl rfl rfl ((hR g3).cell 1 jM); apply G _; refine WL.push rfl rfl rfl rfl rfl rfl rfl rfl rfl rfl rfl (fun _=>rfl) rfl vX.bu (by simp; omega) fun b3 w5 lC oS=>?_; obtain⟨xN, td, g4⟩ := vX.put lC oS; apply WL.store rfl rfl rfl rfl rfl lC.DV jG (xN.cell 0 jM) (xN.free 0); generalize w5.setCell (Aq bb 0) b3=w6 at td g4; apply G _; apply WL.load rfl rfl rfl rfl rfl rfl (td.blk.cell 0 jM); apply G _; refine WQ.so rfl rfl (fin (x := [v.n]) ?_ (g3.trans g4) nO.symm); rw[BP, <-e8]; exact td.bu
  by_cases k3:v.k=3
  · have nO:encV (m+1) v=v.k::lK (xt v.n) := by rw[mh, aa k2, ag k3]
    rw[nO]at om; simp at om
    apply G _; apply WL.load rfl rfl rfl rfl rfl rfl ((hR g3).cell 1 jM); apply G _; apply WL.call rfl rfl rfl rfl rfl func159 rfl jG (Wy v.n hn w4); rintro e _ ⟨rfl, rfl⟩; refine⟨_, rfl, ?_⟩; refine WL.Ai (args := [.tmp 30]) rfl rfl rfl rfl rfl rfl iJ rfl jG (wT Lf vX I) ?_; rintro e w6 ⟨rfl, b4, td, g4⟩; refine⟨_, rfl, ?_⟩; apply G _; apply WL.load rfl rfl rfl rfl rfl rfl (td.blk.cell 0 jM); apply G _; exact WQ.so rfl rfl (fin (by rw[BP]; exact td.bu) (g3.trans g4) nO.symm)
  by_cases k4:v.k=4
  · have hx := f4 k4
    have e8:IntKind.u8.wrap v.s=v.s := by rw[bL]; omega
    have nO:encV (m+1) v=v.k::(lK (xt v.n)++[v.s]) := by rw[mh, aa k2, aa k3, ag k4]
    rw[nO]at om; simp at om
    apply G _; apply WL.load rfl rfl rfl rfl rfl rfl ((hR g3).cell 1 jM); apply G _; apply WL.call rfl rfl rfl rfl rfl func159 rfl jG (Wy v.n hn w4); rintro e _ ⟨rfl, rfl⟩; refine⟨_, rfl, ?_⟩; refine WL.Ai (args := [.tmp 37]) rfl rfl rfl rfl rfl rfl iJ rfl jG (wT Lf vX I) ?_; rintro e w6 ⟨rfl, b4, td, g4⟩; refine⟨_, rfl, ?_⟩; have MH := g3.trans g4; apply G _; apply WL.load rfl rfl rfl rfl rfl rfl (td.blk.cell 0 jM); apply G _; apply WL.load rfl rfl rfl rfl rfl rfl ((hR MH).cell 2 jM); apply G _; refine WL.push rfl rfl rfl rfl rfl rfl rfl rfl rfl rfl rfl (fun _=>rfl) rfl td.bu (by simp; omega) fun b5 w7 qv DO=>?_; obtain⟨FR, MV, g5⟩ := td.put qv DO; apply WL.store rfl rfl rfl rfl rfl qv.DV jG (FR.cell 0 jM) (FR.free 0); generalize w7.setCell (Aq bb 0) b5=w8 at MV g5; apply G _; apply WL.load rfl rfl rfl rfl rfl rfl (MV.blk.cell 0 jM); apply G _; refine WQ.so rfl rfl (fin (x := lK (xt v.n)++[v.s]) ?_ (MH.trans g5) nO.symm); rw[BP, <-av, <-e8]; exact MV.bu
  by_cases k5:v.k=5
  · have hx := f5 k5
    have e8:IntKind.u64.wrap v.n=(v.n.toNat:Int) := by rw[aS]; omega
    have nO:encV (m+1) v=v.k::lK v.n.toNat := by rw[mh, aa k2, aa k3, aa k4, ag k5]
    rw[nO]at om; simp at om
    apply G _; apply WL.load rfl rfl rfl rfl rfl rfl ((hR g3).cell 1 jM); apply G _; apply WL.Ai (args := [.tmp 50]) rfl rfl rfl rfl rfl rfl iJ rfl jG (by rw[e8]; exact wT I vX I); rintro e w6 ⟨rfl, b4, td, g4⟩; refine⟨_, rfl, ?_⟩; apply G _; apply WL.load rfl rfl rfl rfl rfl rfl (td.blk.cell 0 jM); apply G _; exact WQ.so rfl rfl (fin (by rw[BP]; exact td.bu) (g3.trans g4) nO.symm)
  by_cases DJ:v.k=6\/v.k=7
  · have e8:IntKind.u64.wrap (v.t.size:Int)=((v.t.size:Nat):Int) := by rw[aS]; omega
    have nO:encV (m+1) v=v.k::(lK v.t.size++yI v.t) := by rw[mh, aa k2, aa k3, aa k4, aa k5, ag DJ]
    have uR := u_ v.t; rw[nO]at om; simp only[ak, af]at om; rcases DJ with k6|k7
    all_goals
      apply G _; apply WL.load rfl rfl rfl rfl rfl rfl ((hR g3).cell 3 jM); apply G _; apply WL.Ai (args := [.tmp 59]) rfl rfl rfl rfl rfl rfl iJ rfl jG (by rw[e8]; exact wT I vX I); rintro e w6 ⟨rfl, b4, td, g4⟩; refine⟨_, rfl, ?_⟩; have MH := g3.trans g4; apply G _; apply WL.load rfl rfl rfl rfl rfl rfl (td.blk.cell 0 jM); apply G _; apply WL.load rfl rfl rfl rfl rfl rfl ((hR MH).cell 3 jM); refine WL.TP rfl rfl rfl rfl rfl td.bu rfl (by rw[af]; omega) fun b5 w7 qv DO=>?_; obtain⟨FR, MV, g5⟩ := td.put qv DO; apply WL.store rfl rfl rfl rfl rfl qv.DV jG (FR.cell 0 jM) (FR.free 0); generalize w7.setCell (Aq bb 0) b5=w8 at MV g5; apply G _; apply WL.load rfl rfl rfl rfl rfl rfl (MV.blk.cell 0 jM); apply G _; refine WQ.so rfl rfl (fin (x := lK v.t.size++yI v.t) ?_ (MH.trans g5) nO.symm); rw[BP, <-av]; exact MV.bu
  have Od:v.k=8\/v.k=9 := I; obtain⟨sp, cap, rfl, vg, qn, kF⟩ := uC; have nO:encV (m+1) v=v.k::(lK v.kids.length++(List.range v.kids.length).flatMap (mQ (encV m) (decide (v.k=9)) v.names v.kids)) := by rw[mh, aa k2, aa k3, aa k4, aa k5, aa DJ, ag Od]
  rw[nO]at om; simp only[ak, af]at om; have Fw:∀j, j<v.kids.length->chk m (v.kids.getD j mM)=0 := fun j hj=>qB hc hj; have round:∀i, i+1<=v.kids.length->((List.range i).flatMap (mQ (encV m) (decide (v.k=9)) v.names v.kids)).length+(mQ (encV m) (decide (v.k=9)) v.names v.kids i).length<=((List.range v.kids.length).flatMap (mQ (encV m) (decide (v.k=9)) v.names v.kids)).length := fun i hi=>by
    have := wX (mQ (encV m) (decide (v.k=9)) v.names v.kids) hi; rw[mF, af]at this; exact this
  have eK:IntKind.u64.wrap (v.kids.length:Int)=((v.kids.length:Nat):Int) := by rw[aS]; omega
  have huk:(lK v.kids.length).length<=10 := sQ 10 _; have R3:∀x, l++v.k::(lK v.kids.length++x)=(L++lK v.kids.length)++x := fun x=>by rw[BP, av]
  rcases Od with k8|k9
  · rw[show decide (v.k=9)=false from ar I]at nO om round
    apply G _; apply WL.load rfl rfl rfl rfl rfl rfl ((hR g3).cell 5 jM); apply G _; apply WL.Ai (args := [.tmp 72]) rfl rfl rfl rfl rfl rfl iJ rfl jG (by rw[eK]; exact wT I vX I); rintro e w6 ⟨rfl, b4, td, g4⟩; refine⟨_, rfl, ?_⟩; have MH := g3.trans g4; have HZ:(L++lK v.kids.length).length=L.length+(lK v.kids.length).length := af; generalize L++lK v.kids.length=M at td R3 HZ; apply G _; apply WL.load rfl rfl rfl rfl rfl rfl ((hR MH).cell 5 jM); apply G _; refine WC.loop (fun i:Nat×Value=>[(2, jV bb), (3, jV g), (5, .func (.func 158) #[] #[jV bb]), (75, .slice sp v.kids.length cap), (76, Iq v.kids.length), (77, Iq i.1)])
      (fun i w'=>i.1<=v.kids.length/\Bx bb w' i.2 (M++(List.range i.1).flatMap (mQ (encV m) false v.names v.kids))/\qd bb w2 b w' i.2) (fun i=>v.kids.length - i.1) (0, b4)
      kz ⟨ay _, by simpa using td, MH⟩ ?_
    rintro⟨i, br⟩ wr ⟨hi, lx, nB⟩; simp only at hi lx nB ⊢
    by_cases kt:i<v.kids.length
    · obtain⟨kb, ko, rfl, qp, lP⟩ := kF I
      obtain⟨c, oh, qw, nW⟩ := lP i kt; have uT := hA nB; have t_:wr.rangeAt kb (ko+i*6) c := fun j u hu=>by rw[uT.below.cell (p := Aq kb (ko+i*6+j)) qp]; exact nW j u hu
      have DM := round i kt; apply G _; apply WL.idx i (ko+i*6) rfl rfl rfl rfl rfl rfl rfl rfl kt rfl; apply WL.qX rfl rfl rfl rfl rfl rfl t_ oh; refine WL.alloc (z := .agg #[Iq 0, Iq 0, Iq 0, .string ByteArray.empty, kP, kP]) rfl rfl rfl rfl (fun _=>jG) fun g2 w7 mK=>?_; apply G _; apply WL.o7 rfl rfl rfl rfl rfl rfl mK.blk oh rfl (mj.one qw); have lC:Below wr.heap.size wr (w7.setRow g2 c.toArray) := below_setRow mK.below (by rw[mK.eq]; exact aj _) _; have FP:U 25 (w7.setRow g2 c.toArray) g2 c := mK.blk.setRow c; have auS := mK.eq; generalize w7.setRow g2 c.toArray=w8 at lC FP; have Wq:Bx bb w8 br _ := lx.below lC; have p7 := nB.below lC; have amb:br.ownBlock≠some g2 := fun e=>by have := lx.bu.lt _ e; omega
      have adq:g2≠bb := by have := lx.blk.lt; omega
      apply G _; apply WL.load rfl rfl rfl rfl rfl rfl ((hR p7).cell 0 jM); have DU:mQ (encV m) false v.names v.kids i=encV m (v.kids.getD i mM) := rfl; rw[DU]at DM; apply G _; apply WL.load rfl rfl rfl rfl rfl rfl (Wq.blk.cell 0 jM); apply WL.qX rfl rfl rfl rfl rfl rfl (U.rangeAt FP) oh; apply WL.call rfl rfl rfl rfl rfl func148 rfl jG (ih (w0 := w0) qw (Fw i kt) Wq.bu (hA p7) (by rw[af]; omega)); rintro e GD ⟨uB, rfl, Nl, agr⟩; refine⟨_, rfl, ?_⟩; obtain⟨HK, Ob, UF⟩ := Wq.put Nl agr; apply WL.store rfl rfl rfl rfl rfl Nl.DV jG (HK.cell 0 jM) (HK.free 0); generalize GD.setCell (Aq bb 0) uB=w14 at Ob UF; apply G _; refine WQ.again (i+1, uB) kz ⟨kt, ?_, p7.trans UF⟩ (by show v.kids.length - (i+1)<v.kids.length - i; omega)
      show Bx bb w14 uB (M++(List.range (i+1)).flatMap _)
      rw[mF, DU, <-av]; exact Ob
    · obtain rfl:i=v.kids.length := I
      apply G _; apply WL.load rfl rfl rfl rfl rfl rfl (lx.blk.cell 0 jM); apply G _; exact WQ.so rfl rfl (fin (by rw[R3]; exact lx.bu) nB nO.symm)
  · rw[show decide (v.k=9)=true from aw k9]at nO om round
    obtain⟨np, nc, rfl, nl, LQ, Ag, nr⟩ := rV; have hnk := (f9 k9).1; apply G _; apply WL.load rfl rfl rfl rfl rfl rfl ((hR g3).cell 5 jM); apply G _; apply WL.Ai (args := [.tmp 72]) rfl rfl rfl rfl rfl rfl iJ rfl jG (by rw[eK]; exact wT I vX I); rintro e w6 ⟨rfl, b4, td, g4⟩; refine⟨_, rfl, ?_⟩; have MH := g3.trans g4; have HZ:(L++lK v.kids.length).length=L.length+(lK v.kids.length).length := af; generalize L++lK v.kids.length=M at td R3 HZ; apply G _; apply WL.load rfl rfl rfl rfl rfl rfl ((hR MH).cell 5 jM); apply G _; refine WC.loop (fun i:Nat×Value=>[(2, jV bb), (3, jV g), (5, .func (.func 158) #[] #[jV bb]), (75, .slice sp v.kids.length cap), (76, Iq v.kids.length), (77, Iq i.1)])
      (fun i w'=>i.1<=v.kids.length/\Bx bb w' i.2 (M++(List.range i.1).flatMap (mQ (encV m) true v.names v.kids))/\qd bb w2 b w' i.2) (fun i=>v.kids.length - i.1) (0, b4)
      kz ⟨ay _, by simpa using td, MH⟩ ?_
    rintro⟨i, br⟩ wr ⟨hi, lx, nB⟩; simp only at hi lx nB ⊢
    by_cases kt:i<v.kids.length
    · obtain⟨kb, ko, rfl, qp, lP⟩ := kF I
      obtain⟨c, oh, qw, nW⟩ := lP i kt; have uT := hA nB; have t_:wr.rangeAt kb (ko+i*6) c := fun j u hu=>by rw[uT.below.cell (p := Aq kb (ko+i*6+j)) qp]; exact nW j u hu
      have DM := round i kt; apply G _; apply WL.idx i (ko+i*6) rfl rfl rfl rfl rfl rfl rfl rfl kt rfl; apply WL.qX rfl rfl rfl rfl rfl rfl t_ oh; refine WL.alloc (z := .agg #[Iq 0, Iq 0, Iq 0, .string ByteArray.empty, kP, kP]) rfl rfl rfl rfl (fun _=>jG) fun g2 w7 mK=>?_; apply G _; apply WL.o7 rfl rfl rfl rfl rfl rfl mK.blk oh rfl (mj.one qw); have lC:Below wr.heap.size wr (w7.setRow g2 c.toArray) := below_setRow mK.below (by rw[mK.eq]; exact aj _) _; have FP:U 25 (w7.setRow g2 c.toArray) g2 c := mK.blk.setRow c; have auS := mK.eq; generalize w7.setRow g2 c.toArray=w8 at lC FP; have Wq:Bx bb w8 br _ := lx.below lC; have p7 := nB.below lC; have amb:br.ownBlock≠some g2 := fun e=>by have := lx.bu.lt _ e; omega
      have adq:g2≠bb := by have := lx.blk.lt; omega
      apply G _; apply WL.load rfl rfl rfl rfl rfl rfl ((hR p7).cell 0 jM); obtain⟨nb, no, rfl, tX, I_⟩ := nr I; have sM := I_ i I; have Ou:(v.names.getD i kZ).size<=40 := (f9 k9).2 _ (by simp[show i<v.names.length by omega]); have DU:mQ (encV m) true v.names v.kids i=(lK (v.names.getD i kZ).size++yI (v.names.getD i kZ))++encV m (v.kids.getD i mM) := rfl; rw[DU]at DM; have uR := u_ (v.names.getD i kZ); simp only[af]at DM; have eN:IntKind.u64.wrap ((v.names.getD i kZ).size:Int)=(((v.names.getD i kZ).size:Nat):Int) := by rw[aS]; omega
      have hA8 := hA p7; apply G _; apply WL.load rfl rfl rfl rfl rfl rfl ((hR p7).cell 4 jM); apply G _; apply WL.idx i (no+i) rfl rfl rfl rfl rfl rfl rfl rfl I I; apply WL.load rfl rfl rfl rfl rfl rfl ((hA8.below.cell (p := Aq nb (no+i)) tX).trans sM); apply G _; apply WL.Ai (args := [.tmp 92]) rfl rfl rfl rfl rfl rfl iJ rfl jG (by rw[eN]; exact wT I Wq (by rw[af]; omega)); rintro e w9 ⟨rfl, b9, ads, g9⟩; refine⟨_, rfl, ?_⟩; have Vk := p7.trans g9; obtain⟨afu, DN⟩ := Bx.jA g9 FP amb adq; have hA9 := hA Vk; apply G _; refine WC.drawn 7 (fun wx=>jP w0 wx/\U 158 wx bb [b9]/\U 25 wx g (mR v (nj nb no v.names.length nc) (nj kb ko v.kids.length cap))) fun tF Qj=>?_; have hS:jP w0 tF/\U 158 tF bb [b9]/\U 25 tF g (mR v (nj nb no v.names.length nc) (nj kb ko v.kids.length cap)) :=
        ⟨hA9.below.trans (Qj.below _), ads.blk.below (Qj.below _) ads.blk.lt, (hR Vk).below (Qj.below _) (hR Vk).lt⟩
      have agf:Bx bb tF b9 _ := ads.below (Qj.below _); have agV := Vk.below (Qj.below _); have aiu := afu.below (Qj.below _) afu.lt; apply L3 0 [6, 7] rfl rfl rfl rfl rfl rfl rfl (fun wx hx=>hx.2.1.cell 0 jM) hS; apply jC [1] hS _; apply L3 2 [4, 5, 6, 7] rfl rfl rfl rfl rfl rfl rfl (fun wx hx=>hx.2.2.cell 4 jM) hS; apply jC [3] hS _; apply ss 4 i (no+i) rfl rfl rfl rfl rfl rfl rfl rfl rfl I I (.inr hS); apply L3 5 [6, 7] rfl rfl rfl rfl rfl rfl rfl (fun wx hx=>(hx.1.cell (p := Aq nb (no+i)) tX).trans sM) hS; apply jS 6; refine WL.TP rfl rfl rfl rfl rfl agf.bu rfl (by rw[af, af]; omega) fun Yt QZ Qm amt=>?_; obtain⟨QU, RS, afV⟩ := agf.put Qm amt; have ahr:qd bb tF b9 QZ Yt := amt.box; refine WL.nil (WQ.dk (.inr ⟨(hA (agV.trans ahr)).below, QU, hR (agV.trans ahr)⟩) ?_); apply jS 7; apply WL.store rfl rfl rfl rfl rfl Qm.DV jG (QU.cell 0 jM) (QU.free 0); apply(jZ); apply WD.done jG; obtain⟨ZZ, azZ⟩ := Bx.jA afV aiu DN adq; have WT := agV.trans afV; generalize QZ.setCell (Aq bb 0) Yt=Yq at RS afV ZZ WT; apply G _; apply WL.load rfl rfl rfl rfl rfl rfl (RS.blk.cell 0 jM); apply WL.qX rfl rfl rfl rfl rfl rfl (U.rangeAt ZZ) oh; apply WL.call rfl rfl rfl rfl rfl func148 rfl jG (ih (w0 := w0) qw (Fw i kt) RS.bu (hA WT) (by rw[af, af, af, s_]; omega)); rintro e GD ⟨uB, rfl, Nl, agr⟩; refine⟨_, rfl, ?_⟩; obtain⟨HK, Ob, UF⟩ := RS.put Nl agr; apply WL.store rfl rfl rfl rfl rfl Nl.DV jG (HK.cell 0 jM) (HK.free 0); generalize GD.setCell (Aq bb 0) uB=w14 at Ob UF; apply G _; refine WQ.again (i+1, uB) kz ⟨kt, ?_, WT.trans UF⟩ (by show v.kids.length - (i+1)<v.kids.length - i; omega)
      show Bx bb w14 uB (M++(List.range (i+1)).flatMap _)
      rw[mF, DU]
      simpa[av, qA, yI] using Ob
    · obtain rfl:i=v.kids.length := I
      apply G _; apply WL.load rfl rfl rfl rfl rfl rfl (lx.blk.cell 0 jM); apply G _; exact WQ.so rfl rfl (fin (by rw[R3]; exact lx.bu) nB nO.symm)
theorem Qs:∀(m:Nat) {f:Nat}{w0 w:World}{v:V}{cs:kL}{b:Value}{l:oK}, mj f w0 v cs->chk m v=0->Bu w b l->pB w0 w b->l.length+(encV m v).length<=70368744177664->
      Calls prog 148 #[b, .agg cs.toArray] w fun e w'=>∃b', e=.returned b'/\Bu w' b' (l++encV m v)/\kX w b w' b'
  | 0, _, _, _, _, _, _, _, _, h, _, _, _=>by cases h
  | m+1, _, _, _, _, _, _, _, hv, hc, hb, ha, hm=>acm m (Qs m) hv hc hb ha hm
def grtK (B:Nat)(g:V->Nat->Nat):List V->Nat->Nat
 | [],n=>n
 | k::r,n=>if n<=B then grtK B g r (g k n) else n
def grt (B:Nat):Nat->V->Nat->Nat
 | 0,_,n=>n
 | f+1,v,n=>grtK B (grt B f) v.kids (n+1+v.t.size / 20+v.names.length)
def qS:Nat->V->Prop
 | 0,_=>False
 | f+1,v=>v.names.length<=140737488355328/\v.kids.length<=140737488355328/\∀x∈v.kids,qS f x
theorem Ll {g:V->Nat->Nat}{n:Nat}(l:List V)(h:B<n): grtK B g l n=n:=by
 cases l with
 | nil=>rfl
 | cons k r=>unfold grtK;rw[aa I]
theorem Fk {a b:List α}(h:a.take i=b.take i)(ha:i<a.length)(hb:i<b.length)(he:a[i]=b[i]): a.take (i+1)=b.take (i+1):=by
 rw[aK,aK,h,ai ha,ai hb,he]
theorem V.ext' {a b:V}(h1:a.k=b.k)(h2:a.n=b.n)(h3:a.s=b.s)(h4:a.t=b.t)(h5:a.names=b.names)(h6:a.kids=b.kids): a=b:=by
 cases a;cases b
 simp only[V.k,V.n,V.s,V.t,V.names,V.kids]at h1 h2 h3 h4 h5 h6;subst h1;subst h2;subst h3;subst h4;subst h5;subst h6
 rfl
theorem I1 {a b:lD}(h:¬a=b): ¬a.toList=b.toList:=fun e=>h (by
 rw[aJ,aJ]at e;exact ji (Array.toList_inj.1 e))
theorem Mw:∀(f:Nat) {f2:Nat}{w:World}{v1 v2:V}{c1 c2:kL},mj f w v1 c1->mj f2 w v2 c2->
  Calls prog 165 #[.agg c1.toArray,.agg c2.toArray] w fun e w'=>(∃b,e=.returned (.bool b)/\(b=true ↔ v1=v2))/\jP w w'
 | 0,_,_,_,_,_,_,h,_=>h.elim
 | _+1,0,_,_,_,_,_,_,h=>h.elim
 | f+1,f2+1,w,v1,v2,c1,c2,h1,h2=>by
  obtain⟨sn1,sk1,rfl,-,-,-,-,yu,DZ⟩:=h1;obtain⟨sn2,sk2,rfl,-,-,-,-,uA,mW⟩:=h2;obtain⟨np1,nc1,rfl,nl1,nm1,-,nr1⟩:=yu;obtain⟨np2,LQ,rfl,nl2,nm2,-,nr2⟩:=uA;obtain⟨kp1,kc1,rfl,kl1,km1,kr1⟩:=DZ;obtain⟨kp2,kc2,rfl,kl2,km2,kr2⟩:=mW;apply kq (args:=[.agg (mR v1 (.slice np1 v1.names.length nc1) (.slice kp1 v1.kids.length kc1)).toArray,.agg (mR v2 (.slice np2 v2.names.length LQ) (.slice kp2 v2.kids.length kc2)).toArray]) func165 ntmps165;apply G _;refine jO fun g1 w1 ou=>?_;have oJ:kJ w g1 w1 25 (mR v1 (.slice np1 v1.names.length nc1) (.slice kp1 v1.kids.length kc1)):=ou;clear ou;refine jO fun g2 w2 mK=>?_;have mI:kJ w1 g2 w2 25 (mR v2 (.slice np2 v2.names.length LQ) (.slice kp2 v2.kids.length kc2)):=mK;clear mK;have kK:=oJ.below.trans (mI.below.mono oJ.below.size);have B1:=oJ.blk.below mI.below oJ.blk.lt;have B2:=mI.blk;clear oJ mI;have no:∀ {wx:World},jP w wx->¬v1=v2->(∃b,Ending.returned (Value.bool false)=.returned (.bool b)/\(b=true ↔ v1=v2))/\jP w wx:=fun h1 h2=>⟨⟨false,rfl,by simp[h2]⟩,h1⟩;apply G _;apply Y (B1.cell 0 jM);apply G _;apply Y (B2.cell 0 jM)
  by_cases e1:v1.k=v2.k
  rotate_left
  ·apply G _
   exact J (no kK fun e=>e1 (by rw[e]))
  apply G _;apply Y (B1.cell 1 jM);apply G _;apply Y (B2.cell 1 jM)
  by_cases e2:v1.n=v2.n
  rotate_left
  ·apply G _
   exact J (no kK fun e=>e2 (by rw[e]))
  apply G _;apply Y (B1.cell 2 jM);apply G _;apply Y (B2.cell 2 jM)
  by_cases e3:v1.s=v2.s
  rotate_left
  ·apply G _
   exact J (no kK fun e=>e3 (by rw[e]))
  apply G _;apply Y (B1.cell 3 jM);apply G _;apply Y (B2.cell 3 jM)
  by_cases e4:v1.t=v2.t
  rotate_left
  ·apply(jX)
   apply WL.zI (.bool true) rfl rfl rfl rfl (by simp[I1 e4]);apply G _;exact J (no kK fun e=>e4 (by rw[e]))
  apply(jX);apply WL.zI (.bool false) rfl rfl rfl rfl (by simp[e4]);apply G _;apply Y (B1.cell 4 jM);apply G _;apply Y (B2.cell 4 jM)
  by_cases e5:v1.names.length=v2.names.length
  rotate_left
  ·apply G _
   exact J (no kK fun e=>e5 (by rw[e]))
  apply G _;apply Y (B1.cell 5 jM);apply G _;apply Y (B2.cell 5 jM)
  by_cases e6:v1.kids.length=v2.kids.length
  rotate_left
  ·apply G _
   exact J (no kK fun e=>e6 (by rw[e]))
  have yD:=kK.size;apply ur _;refine WC.tn (fun _:Unit=>[(2,jV g1),(3,jV g2)]) (fun _ wx=>v1.names=v2.names/\jP w2 wx) rfl ?_ ?_
  ·apply G _
   apply WC.loop (fun i:Nat=>[(2,jV g1),(3,jV g2),(5,Iq i)]) (fun i wx=>i<=v1.names.length/\v1.names.take i=v2.names.take i/\jP w2 wx) (fun i=>v1.names.length - i) 0 kz ⟨ay _,jM,Below.refl _ _⟩;rintro i wr ⟨hi,ht,lx⟩;have R1:=B1.below lx B1.lt;have R2:=B2.below lx B2.lt;apply G _;apply Y (R1.cell 4 jM)
   by_cases kt:i<v1.names.length
   ·obtain⟨b1,o1,rfl,LK,vN⟩:=nr1 I
    obtain⟨b2,o2,rfl,zP,rE⟩:=nr2 I;have vN:=vN i kt;have rE:=rE i I;have xH:=kK.trans (lx.mono yD);apply G _;refine WC.drawn 10 (fun wx=>wx.heap=wr.heap) fun w3 hd=>?_;have hS:=hd.heap;have lC:=lx.trans (hd.below _);apply jC [0] hS _;apply jz 1 [3,4,10] (fun wx hx=>(lH hx _).trans (R1.cell 4 jM)) hS;apply jC [2] hS _;apply kY (hq:=I) 3 i (o1+i) kt (.inr hS);apply jz 4 [10] (fun wx hx=>(lH hx _).trans ((xH.cell (p:=Aq b1 (o1+i)) LK).trans vN)) hS;apply jC [5] hS _;apply jz 6 [8,9,10] (fun wx hx=>(lH hx _).trans (R2.cell 4 jM)) hS;apply jC [7] hS _;apply ss 8 i (o2+i) rfl rfl rfl rfl rfl rfl rfl rfl rfl I I (.inr hS);apply jz 9 [10] (fun wx hx=>(lH hx _).trans ((xH.cell (p:=Aq b2 (o2+i)) zP).trans rE)) hS;apply jS 10;apply(jN);apply(jZ);apply(jD);apply G _;have vL:v1.names.getD i kZ=v1.names[i]:=by simp[kt]
    have nK:v2.names.getD i kZ=v2.names[i]:=by simp[show i<v2.names.length by omega]
    refine WC.Mq rfl (fun mE=>?_) fun heq=>?_
    ·apply G _
     refine J (no (kK.trans (lC.mono yD)) fun e=>?_);have h:=congrArg (fun v=>v.names.getD i kZ) e;rw[h]at mE;simp at mE
    ·apply G _
     refine WQ.again (i+1) kz ⟨kt,Fk ht kt I ?_,lC⟩ (by show v1.names.length - (i+1)<v1.names.length - i;omega);rw[<-vL,<-nK];refine gX fun mE=>?_;exact I1 mE (by simpa using heq)
   ·obtain rfl:i=v1.names.length:=I
    apply G _;exact WQ.meet () kz ⟨by rw[aN,e5,aN]at ht;exact ht,lx⟩
  rintro _ w5 ⟨e7,qv⟩;apply G _;apply WC.loop (fun i:Nat=>[(2,jV g1),(3,jV g2),(6,Iq i)]) (fun i wx=>i<=v1.kids.length/\v1.kids.take i=v2.kids.take i/\jP w2 wx) (fun i=>v1.kids.length - i) 0 kz ⟨ay _,jM,qv⟩;rintro i wr ⟨hi,ht,lx⟩;have R1:=B1.below lx B1.lt;have R2:=B2.below lx B2.lt;apply G _;apply Y (R1.cell 5 jM)
  by_cases kt:i<v1.kids.length
  ·obtain⟨b1,o1,rfl,LK,vN⟩:=kr1 I
   obtain⟨b2,o2,rfl,zP,rE⟩:=kr2 I;obtain⟨cs1,uE,Sc,J5⟩:=vN i kt;obtain⟨cs2,sL,wP,ha2⟩:=rE i I;have xH:=kK.trans (lx.mono yD);have auW:∀ {wx:World},wx.heap=wr.heap->wx.rangeAt b1 (o1+i*6) cs1:=fun hx j u hu=>(lH hx _).trans ((xH.cell (p:=Aq b1 (o1+i*6+j)) LK).trans (J5 j u hu));have avy:∀ {wx:World},wx.heap=wr.heap->wx.rangeAt b2 (o2+i*6) cs2:=fun hx j u hu=>(lH hx _).trans ((xH.cell (p:=Aq b2 (o2+i*6+j)) zP).trans (ha2 j u hu));apply G _;refine WC.drawn 10 (fun wx=>wx.heap=wr.heap) fun w3 hd=>?_;have hS:=hd.heap;have lC:=lx.trans (hd.below _);apply jC [0] hS _;apply jz 1 [3,4,10,11] (fun wx hx=>(lH hx _).trans (R1.cell 5 jM)) hS;apply jC [2] hS _;apply kY 3 i (o1+i*6) kt (.inr hS);apply kG 4 [10,11] (fun wx hx=>auW hx) uE hS;apply jC [5] hS _;apply jz 6 [8,9,10,11] (fun wx hx=>(lH hx _).trans (R2.cell 5 jM)) hS;apply jC [7] hS _;apply ss 8 i (o2+i*6) rfl rfl rfl rfl rfl rfl rfl rfl rfl I rfl (.inr hS);apply kG 9 [10,11] (fun wx hx=>avy hx) sL hS;apply jS 10;have amA:=kK.trans (lC.mono yD);apply jx func165 (Mw f (Sc.below amA) (wP.below amA));rintro _ w4 ⟨⟨b,rfl,hb⟩,nk⟩;refine⟨_,rfl,?_⟩;have SO:=lC.kj nk;apply(jZ);apply jS 11;apply(jN);apply(jZ);apply(jD);apply G _;have vL:v1.kids.getD i mM=v1.kids[i]:=by simp[kt]
   have nK:v2.kids.getD i mM=v2.kids[i]:=by simp[show i<v2.kids.length by omega]
   refine WC.Mq rfl (fun mE=>?_) fun heq=>?_
   ·apply G _
    refine J (no (kK.trans (SO.mono yD)) fun e=>?_);have:=hb.2 (by rw[e]);simp[this]at mE
   ·apply G _
    refine WQ.again (i+1) kz ⟨kt,Fk ht kt I ?_,SO⟩ (by show v1.kids.length - (i+1)<v1.kids.length - i;omega);rw[<-vL,<-nK];exact hb.1 (by simpa using heq)
  ·obtain rfl:i=v1.kids.length:=I
   apply G _;refine J ⟨⟨true,rfl,⟨fun _=>?_,fun _=>rfl⟩⟩,kK.trans (lx.mono yD)⟩;rw[aN,e6,aN]at ht;exact V.ext' e1 e2 e3 e4 e7 ht
def mJ (v:V):oK×Int:=if chk 16 v≠0 then([],chk 16 v) else if 65536<(encV 16 v).length then([],5) else(encV 16 v,0)
def Uz (w:World)(v:V)(e:Ending)(w':World):Prop:=∃b,e=.returned (.tuple #[b,Iq (mJ v).2])/\Bu w' b (mJ v).1/\jP w w'/\∀g,b.ownBlock=some g->w.heap.size<=g
theorem JZ {v:V}(h:mj f w v cs)(hlen:chk 16 v=0->(encV 16 v).length<=70368744177664):
  Calls prog 123 #[.agg cs.toArray] w (Uz w v):=by
 have hcs:=h.len;apply kq (args:=[.agg cs.toArray]) func123 ntmps123;apply G _;refine jO fun g w1 hf=>?_;have lj:kJ w g w1 25 cs:=hf;clear hf;have CN:=lj.size;have h1:=h.below lj.below;apply G _;apply jy (U.rangeAt lj.blk) hcs;apply kH func65 (Vl.MI h1);rintro w2 kK
 have nQ:=lj.below.trans (kK.mono I)
 by_cases hc:chk 16 v=0
 ·apply G _
  apply jy (U.rangeAt (lj.blk.below kK lj.blk.lt)) hcs;apply jx func148 (Qs 16 (h1.below kK) hc (Bu.nil w2) ⟨Below.refl _ _,fun g hg=>by cases hg⟩ (by have:=hlen hc;simp only[aL];omega));rintro _ w3 ⟨b,rfl,hb,hg⟩;refine⟨_,rfl,?_⟩;rw[aT]at hb;obtain⟨sp,cap,rfl,uE,sL⟩:=hb.form;have pE:=nQ.trans (hg.old (B:=w.heap.size) (nQ.size) fun g h=>by cases h)
  by_cases ua:65536<(encV 16 v).length
  ·have hr:mJ v=([],5):=by unfold mJ;rw[aa (by simpa using hc),ag ua]
   apply G _;exact WQ.oU rfl rfl rfl ⟨_,by rw[hr],by rw[hr];exact Bu.nil _,pE,fun g hg=>by cases hg⟩
  ·have hr:mJ v=(encV 16 v,0):=by unfold mJ;rw[aa (by simpa using hc),aa ua]
   apply G _;exact WQ.oU rfl rfl rfl ⟨_,by rw[hr],by rw[hr];exact hb,pE,fun g h=>(hg.2 g h).elim (fun h2=>by cases h2) fun h2=>by have:=nQ.size;omega⟩
 ·have hr:mJ v=([],chk 16 v):=by unfold mJ;rw[ag hc]
  apply G _;exact WQ.oU rfl rfl rfl ⟨_,by rw[hr],by rw[hr];exact Bu.nil _,nQ,fun g hg=>by cases hg⟩
theorem lF (u:Nat): (lK u).length<=10:=sQ 10 u
theorem Uj (ky:V->oK)(st:Bool)(names:List lD)(kids:List V)(hn:st=true->names.length=kids.length/\∀s∈names,s.size<=40):
  ((List.range kids.length).flatMap (mQ ky st names kids)).length<=50*names.length+(kids.flatMap ky).length:=by
 have key:∀i,i<=kids.length->((List.range i).flatMap (mQ ky st names kids)).length<=(if st then 50*i else 0)+((kids.take i).flatMap ky).length:=by
  intro i
  induction i with
  | zero=>intro _;simp
  | succ i ih=>
   intro hi;have h1:=ih I;have ht:kids.take (i+1)=kids.take i++[kids.getD i mM]:=by
    rw[aK];simp[show i<kids.length by omega]
   rw[mF,af,ht,an,af];have h2:(mQ ky st names kids i).length<=(if st then 50 else 0)+([kids.getD i mM].flatMap ky).length:=by
    unfold mQ;rw[af];cases st with
    | false=>simp
    | true=>
     have hs:(names.getD i kZ).size<=40:=(hn rfl).2 _ (by have:=(hn rfl).1;simp[show i<names.length by omega]);have hu:=lF (names.getD i kZ).size;have hb:=u_ (names.getD i kZ);generalize names.getD i kZ=nm at hs hu hb ⊢;generalize kids.getD i mM=kd;simp
     omega
   generalize ((List.range i).flatMap (mQ ky st names kids)).length=a1 at h1 ⊢;generalize (mQ ky st names kids i).length=a2 at h2 ⊢;generalize ((kids.take i).flatMap ky).length=a3 at h1 ⊢;generalize ([kids.getD i mM].flatMap ky).length=a4 at h2 ⊢;cases st with
   | false=>rw[aa jM]at h1 h2 ⊢;omega
   | true=>rw[ag rfl]at h1 h2 ⊢;omega
 have:=key kids.length (aj _);rw[aN]at this;cases st with
 | false=>rw[aa jM]at this;omega
 | true=>have h:=(hn rfl).1;rw[ag rfl]at this;omega
theorem QG {B f m:Nat}(ih:∀(v:V) (n:Nat),qS f v->chk m v=0->grt B f v n<=B->n<=grt B f v n/\(encV m v).length+80*n<=80*grt B f v n):
  ∀(l:List V) (n:Nat),(∀x∈l,qS f x/\chk m x=0)->grtK B (grt B f) l n<=B->n<=grtK B (grt B f) l n/\(l.flatMap (encV m)).length+80*n<=80*grtK B (grt B f) l n
 | [],n,_,_=>by simp[grtK]
 | k::r,n,h,hB=>by
  unfold grtK at hB ⊢
  by_cases hn:n<=B
  ·rw[ag hn]at hB ⊢
   have hk:=h k cL;have hle:grt B f k n<=B:=by
    rcases aW B (grt B f k n) with h1|h1
    ·rw[Ll r h1]at hB;omega
    ·exact h1
   have h1:=ih k n hk.1 hk.2 hle;have h2:=QG ih r (grt B f k n) (fun x hx=>h x (aD _ hx)) hB;rw[aq,af];omega
  ·rw[aa hn]at hB;omega
theorem NL {B:Nat}:∀(f m:Nat) (v:V) (n:Nat),qS f v->chk m v=0->grt B f v n<=B->n<=grt B f v n/\(encV m v).length+80*n<=80*grt B f v n
 | 0,_,_,_,h,_,_=>h.elim
 | _+1,0,_,_,_,h,_=>by cases h
 | f+1,m+1,v,n,hs,hc,hB=>by
  obtain⟨-,-,hsk⟩:=hs;have hk:∀x∈v.kids,qS f x/\chk m x=0:=fun x hx=>⟨hsk _ hx,V9 hc hx⟩;unfold grt at hB ⊢;have h1:=QG (NL f m) v.kids _ hk hB;obtain⟨-,-,-,-,-,-,-,f9⟩:=rz (qe hc);refine⟨I,?_⟩;have X5:(encV (m+1) v).length<=40+20*(v.t.size / 20)+50*v.names.length+(v.kids.flatMap (encV m)).length:=by
   rw[Ei,ak];have hu1:=lF (xt v.n);have hu2:=lF v.n.toNat;have hu3:=lF v.t.size;have hu4:=lF v.kids.length;have hb:=u_ v.t;have hp:=Uj (encV m) (decide (v.k=9)) v.names v.kids fun h=>f9 (aR h)
   split
   ·simp;omega
   split
   ·omega
   split
   ·simp;omega
   split
   ·omega
   split
   ·rw[af];omega
   split
   ·rw[af];omega
   ·simp;omega
  omega
theorem mj.rng: ∀ {f:Nat}{v:V}{cs:kL},mj f w v cs->Rng f v
 | 0,_,_,h=>h
 | f+1,v,_,h=>by
  obtain⟨sn,sk,-,-,wn,-,-,-,hk⟩:=h;refine⟨by simp[Lit.wf,IntKind.min,IntKind.max,IntKind.bits,IntKind.signed]at wn;omega,fun x hx=>?_⟩;obtain⟨j,hj,rfl⟩:=bH hx;obtain⟨sp,cap,-,-,-,hr⟩:=hk;obtain⟨b,o,-,-,hc⟩:=hr I;obtain⟨cs,-,hp,-⟩:=hc j hj;have:=mj.rng hp
  simpa[hj] using this
theorem yY {v:V}(h:(mJ v).2=0): chk 16 v=0/\(encV 16 v).length<=65536/\(mJ v).1=encV 16 v:=by
 unfold mJ at h ⊢
 by_cases hc:chk 16 v=0
 ·rw[aa (by simpa using hc)]at h ⊢
  by_cases hb:65536<(encV 16 v).length
  ·rw[ag hb]at h;cases h
  ·rw[aa hb];exact⟨hc,I,rfl⟩
 ·rw[ag hc]at h;exact absurd h hc
theorem bits_mask (x:Int)(m:Nat)(hm:m<4611686018427387904): ∃r:Nat,r<=m/\bits .and .i64 x (m:Int)=(r:Int):=by
 refine⟨(BitVec.ofInt 64 x).toNat &&& m,Nat.and_le_right,?_⟩;have h2:(BitVec.ofInt 64 (m:Int)).toNat=m:=by
  rw[BitVec.ofInt_natCast,BitVec.toNat_ofNat];exact Nat.mod_eq_of_lt I
 have h3:(BitVec.ofInt 64 x).toNat &&& m<=m:=Nat.and_le_right
 show IntKind.i64.wrap ((BitVec.ofInt 64 x &&& BitVec.ofInt 64 (m:Int)).toNat:Int)=_
 rw[BitVec.toNat_and,h2];exact bN _ I
end K
namespace Dig
def A_ (x n:Int):Int:=bits .or .u32 (x / 2 ^ n.toNat) (x*2 ^ (32 - n).toNat % 4294967296)
def word (a b c d:Int):Int :=
 bits .or .u32 (bits .or .u32 (bits .or .u32 (a % 4294967296*16777216 % 4294967296) (b % 4294967296*65536 % 4294967296)) (c % 4294967296*256 % 4294967296)) (d % 4294967296)
theorem IK (x n:Int)(w:World)(hn:0<=n)(uA:n<=32):
  Calls prog 170 #[.int .u32 x,.int .u64 n] w fun e w'=>e=.returned (.int .u32 (A_ x n))/\w=w':=by
 go_enter func170,ntmps170
 go_wp2
 go_ret
 exact⟨rfl,rfl⟩
theorem acz (b o len cap:Nat)(x0 x1 x2 x3:Int)(w:World)(hl:4<=len)(h0:w.cell? ⟨b, o, none⟩=some (.int .u8 x0))(h1:w.cell? ⟨b, o+1, none⟩=some (.int .u8 x1))(h2:w.cell? ⟨b, o+2, none⟩=some (.int .u8 x2))(h3:w.cell? ⟨b, o+3, none⟩=some (.int .u8 x3)):
    Calls prog 169 #[.slice (some ⟨b, o, none⟩) len cap] w fun e w'=>e=.returned (.int .u32 (word x0 x1 x2 x3))/\Ro w w' := by
  have a0:(0:Int)<len := I; have a1:(1:Int)<len := I; have a2:(2:Int)<len := I; have a3:(3:Int)<len := I
  go_enter func169, ntmps169
  go_wp2
  go_quiet (fail)
  go_wp2
  go_ret
  exact⟨rfl, Ro.mk _ _⟩
def aaq (pZ:List Int)(j:Nat):Int:=word (nth pZ j) (nth pZ (j+1)) (nth pZ (j+2)) (nth pZ (j+3))
def load (pZ:List Int):Nat->List Int
 | 0=>List.replicate 64 0
 | n+1=>(load pZ n).set n (aaq pZ (4*n))
theorem vw (pZ:List Int)(n:Nat): (load pZ n).length=64:=by
 induction n with
 | zero=>rfl
 | succ n ih=>rw[load,aI,ih]
def ase (x:Int):Int:=bits .xor .u32 (bits .xor .u32 (A_ x 7) (A_ x 18)) (x / 8)
def aqA (x:Int):Int:=bits .xor .u32 (bits .xor .u32 (A_ x 17) (A_ x 19)) (x / 1024)
def sched (l:List Int):Nat->List Int
 | 0=>l
 | n+1=>(sched l n).set (16+n) ((nth (sched l n) n+ase (nth (sched l n) (n+1))+nth (sched l n) (n+9)+aqA (nth (sched l n) (n+14))) % 4294967296)
theorem Ax (l:List Int)(n:Nat): (sched l n).length=l.length:=by
 induction n with
 | zero=>rfl
 | succ n ih=>rw[sched,aI,ih]
theorem eight (l:List Int)(h:l.length=8): l=[nth l 0,nth l 1,nth l 2,nth l 3,nth l 4,nth l 5,nth l 6,nth l 7]:=by
 match l,h with
 | [a,b,c,d,e,f,g,i],_=>rfl
theorem mk8 (w:World)(l:List Int)(h:l.length=8):
  lq .u32 257 (w.alloc (.cells #[.int .u32 (nth l 0),.int .u32 (nth l 1),.int .u32 (nth l 2),.int .u32 (nth l 3),.int .u32 (nth l 4),.int .u32 (nth l 5),.int .u32 (nth l 6),.int .u32 (nth l 7)] 257)) w.heap.size l:=by
 have:=U.mk w (l.map (Value.int .u32)) 257
 match l,h with
 | [a,b,c,d,e,f,g,i],_=>exact this
def rt (kk W v:List Int)(i:Nat):Int :=
 nth v 7+bits .xor .u32 (bits .xor .u32 (A_ (nth v 4) 6) (A_ (nth v 4) 11)) (A_ (nth v 4) 25) +
  bits .xor .u32 (bits .and .u32 (nth v 4) (nth v 5)) (bits .and .u32 (bits .xor .u32 IntKind.u32.max (nth v 4)) (nth v 6))+nth kk i+nth W i
def ru (v:List Int):Int :=
 bits .xor .u32 (bits .xor .u32 (A_ (nth v 0) 2) (A_ (nth v 0) 13)) (A_ (nth v 0) 22) +
  bits .xor .u32 (bits .xor .u32 (bits .and .u32 (nth v 0) (nth v 1)) (bits .and .u32 (nth v 0) (nth v 2))) (bits .and .u32 (nth v 1) (nth v 2))
def rnd (kk W v:List Int)(i:Nat):List Int :=
 [(rt kk W v i+ru v) % 4294967296,nth v 0,nth v 1,nth v 2,(nth v 3+rt kk W v i) % 4294967296,nth v 4,nth v 5,nth v 6]
def rounds (kk W v:List Int):Nat->List Int
 | 0=>v
 | n+1=>rnd kk W (rounds kk W v n) n
theorem vt (kk W v:List Int)(n:Nat)(h:v.length=8): (rounds kk W v n).length=8:=by
 cases n with
 | zero=>exact h
 | succ n=>rfl
theorem ali {k:IntKind}{T:TypeId}{l:List Int}(h:lq k T w b l)(hl:l.length=8)(x0 x1 x2 x3 x4 x5 x6 x7:Int):
  lq k T ((((((((w.setCell ⟨b,0,none⟩ (.int k x0)).setCell ⟨b,1,none⟩ (.int k x1)).setCell ⟨b,2,none⟩ (.int k x2)).setCell ⟨b,3,none⟩ (.int k x3)).setCell ⟨b,4,none⟩ (.int k x4)).setCell ⟨b,5,none⟩ (.int k x5)).setCell ⟨b,6,none⟩ (.int k x6)).setCell ⟨b,7,none⟩ (.int k x7)) b [x0,x1,x2,x3,x4,x5,x6,x7]:=by
 have:=(((((((h.set 0 x0).set 1 x1).set 2 x2).set 3 x3).set 4 x4).set 5 x5).set 6 x6).set 7 x7
 match l,hl with
 | [a,b,c,d,e,f,g,i],_=>exact this
theorem ag_ {K:Nat->Prop}(h:Z K w w')(hK:¬K b)(x0 x1 x2 x3 x4 x5 x6 x7:Value):
  Z K w ((((((((w'.setCell ⟨b,0,none⟩ x0).setCell ⟨b,1,none⟩ x1).setCell ⟨b,2,none⟩ x2).setCell ⟨b,3,none⟩ x3).setCell ⟨b,4,none⟩ x4).setCell ⟨b,5,none⟩ x5).setCell ⟨b,6,none⟩ x6).setCell ⟨b,7,none⟩ x7) :=
 (((((((h.setCell hK x0).setCell hK x1).setCell hK x2).setCell hK x3).setCell hK x4).setCell hK x5).setCell hK x6).setCell hK x7
def vy (st v:List Int):Nat->List Int
 | 0=>st
 | n+1=>(vy st v n).set n ((nth (vy st v n) n+nth v n) % 4294967296)
theorem xJ (st v:List Int)(n:Nat): (vy st v n).length=st.length:=by
 induction n with
 | zero=>rfl
 | succ n ih=>rw[vy,aI,ih]
def compress (kk pZ st:List Int):List Int:=vy st (rounds kk (sched (load pZ 16) 48) st 64) 8
theorem Et (bs bb ob n cap bk:Nat)(st pZ kk:List Int)(T T':TypeId)(w:World)(hn:64<=n)(uA:n<=9223372036854775807)(xV:n<=cap)(Mv:bb<w.heap.size)(p5:lq .u32 T w bs st)(tZ:Row .u8 w bb ob pZ)(zr:lq .u32 T' w bk kk)(uE:st.length=8)(sL:64<=pZ.length)(om:kk.length=64):
  Calls prog 167 #[.pointer (some ⟨bs,0,none⟩),.slice (some ⟨bb,ob,none⟩) n cap,.pointer (some ⟨bk,0,none⟩)] w
   fun e w'=>e=.returned (.tuple #[])/\lq .u32 T w' bs (compress kk pZ st)/\Z (fun k=>k<w.heap.size/\k≠bs) w w':=by
 have FZ:=p5.lt;have Bd:=zr.lt
 go_enter func167,ntmps167
 go_wp2
 have hW:lq .u32 252 (w.alloc (.cells ((List.replicate 64 (0:Int)).map (Value.int .u32)).toArray 252)) w.heap.size (load pZ 0):=U.mk w _ _;have hB:Below w.heap.size w (w.alloc (.cells ((List.replicate 64 (0:Int)).map (Value.int .u32)).toArray 252)):=(Below.refl _ _).alloc (aj _) _;simp only[List.replicate,List.map]at hW hB;generalize w.alloc _=w1 at hW hB ⊢
 go_loopw [20] (fun c wr=>∃i:Nat,i<=16/\c=.int .i64 i/\lq .u32 252 wr w.heap.size (load pZ i)/\Below w.heap.size w wr)
  (fun c _=>16 - (intOf c).toNat)
 case atStart=>exact⟨0,I,rfl,hW,hB⟩
 case round=>
  obtain⟨i,hi,rfl,qR,EU⟩:=hrel;have Su:=vw pZ i
  by_cases QL:i<16
  ·have aaf:=tZ.below EU Mv
   have c0:=qR.cell i I;have f0:=qR.free i
   go_wp2_with (go_at_call 169;refine(acz bb (ob+4*i) _ _ _ _ _ _ _ I (aaf.at (4*i) I) (aaf.BA (4*i+1) _ I I) (aaf.BA (4*i+2) _ I I) (aaf.BA (4*i+3) _ I I)).mono ?_;rintro e w' ⟨rfl,nq,rfl⟩)
   go_roundw
   case rel=>exact⟨i+1,I,by go_num,(qR.drewN nq).set _ _,(EU.trans (Z.below ((Z.refl _ _).drewN nq))).setCell (aj _) _⟩
   case measure=>simp[intOf];omega
  ·have W8:i=16:=I
   have hWf:lq .u32 252 wr w.heap.size (load pZ 16):=by rw[<-W8];exact qR
   clear W8 qR
   go_wp2
   go_loopw [8] (fun c wr=>∃i:Nat,i<=48/\c=.int .i64 (16+(i:Int))/\lq .u32 252 wr w.heap.size (sched (load pZ 16) i)/\Below w.heap.size w wr)
    (fun c _=>64 - (intOf c).toNat)
   case atStart=>exact⟨0,I,rfl,hWf,EU⟩
   case round=>
    clear hWf EU Su;obtain⟨i,xx,rfl,qR,EU⟩:=hrel;have Su:=(Ax (load pZ 16) i).trans (vw pZ 16)
    by_cases h48:i<48
    ·have c0:=qR.cell (16+i) I
     have c1:=qR.Il (16+i - 15) (i+1) I I;have c2:=qR.Il (16+i - 2) (i+14) I I;have c3:=qR.cell i I;have c4:=qR.Il (16+i - 7) (i+9) I I;have f0:=qR.free (16+i)
     go_wp2_with fail
     go_quiet (fail)
     go_wp2_with (go_at_call 170;refine(IK _ _ _ I I).mono ?_;rintro e w' ⟨rfl,rfl⟩)
     go_region
     go_wp2
     go_roundw
     case rel=>
      exact⟨i+1,I,by go_num,(qR.drewN _).set _ _,((Z.jw EU).drewN _).below.setCell (aj _) _⟩
     case measure=>simp[intOf];omega
    ·have e48:i=48:=I
     have hWf:lq .u32 252 wr w.heap.size (sched (load pZ 16) 48):=by rw[<-e48];exact qR
     clear e48 qR Su;have wu:=p5.below EU FZ;have WG:=zr.below EU Bd;have d0:=wu.cell 0 I;have d1:=wu.cell 1 I;have d2:=wu.cell 2 I;have d3:=wu.cell 3 I;have d4:=wu.cell 4 I;have d5:=wu.cell 5 I;have d6:=wu.cell 6 I;have d7:=wu.cell 7 I
     go_wp2
     have hV:=mk8 wr st uE;have hBz:=hWf.lt;have hB2:Below w.heap.size w _:=EU.alloc (Nat.le_of_lt hBz) (.cells #[.int .u32 (nth st 0),.int .u32 (nth st 1),.int .u32 (nth st 2),.int .u32 (nth st 3),.int .u32 (nth st 4),.int .u32 (nth st 5),.int .u32 (nth st 6),.int .u32 (nth st 7)] 257);have S8:=hWf.alloc (.cells #[.int .u32 (nth st 0),.int .u32 (nth st 1),.int .u32 (nth st 2),.int .u32 (nth st 3),.int .u32 (nth st 4),.int .u32 (nth st 5),.int .u32 (nth st 6),.int .u32 (nth st 7)] 257);generalize wr.alloc _=w2 at hV hB2 S8 ⊢;clear d0 d1 d2 d3 d4 d5 d6 d7 hWf EU wu WG;generalize wr.heap.size=Bv at hV hBz ⊢;have hlW:=(Ax (load pZ 16) 48).trans (vw pZ 16);obtain⟨W,Yd⟩:∃W,W=sched (load pZ 16) 48:=⟨_,rfl⟩;rw[<-Yd]at S8 hlW;have HW:=fB Yd;clear Yd
     go_loopw [77] (fun c wr=>∃i:Nat,i<=64/\c=.int .i64 i/\lq .u32 252 wr w.heap.size W/\lq .u32 257 wr Bv (rounds kk W st i)/\Below w.heap.size w wr)
      (fun c _=>64 - (intOf c).toNat)
     case atStart=>exact⟨0,I,rfl,S8,hV,hB2⟩
     case round=>
      clear S8 hV hB2;obtain⟨r,hr,rfl,qR,tK,EU⟩:=hrel;have qD:=vt kk W st r uE;obtain⟨v,J6⟩:∃v,v=rounds kk W st r:=⟨_,rfl⟩;rw[<-J6]at tK qD;have Hv:=fB J6;clear J6
      by_cases aqB:r<64
      ·have WG:=zr.below EU Bd
       have d0:=tK.cell 0 I;have d1:=tK.cell 1 I;have d2:=tK.cell 2 I;have d3:=tK.cell 3 I;have d4:=tK.cell 4 I;have d5:=tK.cell 5 I;have d6:=tK.cell 6 I;have d7:=tK.cell 7 I;have f0:=tK.free;have k0:=WG.cell r I;have w0:=qR.cell r I
       go_wp2_with fail
       go_quiet (fail)
       go_wp2_with fail
       go_quiet ((go_at_call 170;exact ue (IK _ _ _ I I)))
       go_wp2_with fail
       go_quiet ((go_at_call 170;exact ue (IK _ _ _ I I)))
       go_wp2
       go_roundw
       case rel=>
        refine⟨r+1,I,by go_num,qR.jA (ag_ ((Z.refl (fun k=>k<Bv) wr).drewN _) (Nat.lt_irrefl _) _ _ _ _ _ _ _ _) hBz,?_,?_⟩
        ·rw[rounds,<-Hv.out]
         exact ali (tK.drewN _) qD _ _ _ _ _ _ _ _
        ·exact(ag_ ((Z.jw EU).drewN _) (Nat.not_lt.2 (Nat.le_of_lt hBz)) _ _ _ _ _ _ _ _).below
       case measure=>simp[intOf];omega
      ·have e64:r=64:=I
       have TL:lq .u32 257 wr Bv (rounds kk W st 64):=by rw[<-e64,<-Hv.out];exact tK
       have wu:=p5.below EU FZ;have EN:=vt kk W st 64 uE;have oW:compress kk pZ st=vy st (rounds kk W st 64) 8:=by rw[HW.out];rfl
       have wo:=fB oW;clear oW e64 tK qR qD Hv HW hlW;obtain⟨z,hz⟩:∃z,z=rounds kk W st 64:=⟨_,rfl⟩;rw[<-hz]at TL EN;have Hz:=fB hz;clear hz;have ak3:Z (fun k=>k<w.heap.size/\k≠bs) w wr:=(Z.jw EU).mono fun _ h=>h.1
       go_wp2
       go_loopw [161] (fun c wr=>∃i:Nat,i<=8/\c=.int .i64 i/\lq .u32 257 wr Bv z/\lq .u32 T wr bs (vy st z i)/\Z (fun k=>k<w.heap.size/\k≠bs) w wr)
        (fun c _=>8 - (intOf c).toNat)
       case atStart=>exact⟨0,I,rfl,TL,wu,ak3⟩
       case round=>
        clear TL wu ak3 EU;obtain⟨q,hq,rfl,tK,nh,mY⟩:=hrel;have Oq:=(xJ st z q).trans uE
        by_cases h8:q<8
        ·have s0:=nh.cell q I
         have v0:=tK.cell q I;have f0:=nh.free q
         go_wp2_with fail
         go_region
         go_wp2
         go_roundw
         case rel=>
          refine⟨q+1,I,by go_num,?_,?_,?_⟩
          ·exact tK.other _ _ (by show Bv≠bs;omega)
          ·exact nh.set _ _
          ·exact(mY.setCell (fun h=>h.2 rfl) _).drewN 1
         case measure=>simp[intOf];omega
        ·have e8:q=8:=I
         have KE:lq .u32 T wr bs (compress kk pZ st):=by rw[wo.out,<-Hz.out,<-e8];exact nh
         clear e8 nh tK wo Hz Oq
         go_wp2
         go_end0
         exact⟨rfl,KE,mY⟩
def K:List Int:=[
 0x428a2f98,0x71374491,0xb5c0fbcf,0xe9b5dba5,0x3956c25b,0x59f111f1,0x923f82a4,0xab1c5ed5,
 0xd807aa98,0x12835b01,0x243185be,0x550c7dc3,0x72be5d74,0x80deb1fe,0x9bdc06a7,0xc19bf174,
 0xe49b69c1,0xefbe4786,0x0fc19dc6,0x240ca1cc,0x2de92c6f,0x4a7484aa,0x5cb0a9dc,0x76f988da,
 0x983e5152,0xa831c66d,0xb00327c8,0xbf597fc7,0xc6e00bf3,0xd5a79147,0x06ca6351,0x14292967,
 0x27b70a85,0x2e1b2138,0x4d2c6dfc,0x53380d13,0x650a7354,0x766a0abb,0x81c2c92e,0x92722c85,
 0xa2bfe8a1,0xa81a664b,0xc24b8b70,0xc76c51a3,0xd192e819,0xd6990624,0xf40e3585,0x106aa070,
 0x19a4c116,0x1e376c08,0x2748774c,0x34b0bcb5,0x391c0cb3,0x4ed8aa4a,0x5b9cca4f,0x682e6ff3,
 0x748f82ee,0x78a5636f,0x84c87814,0x8cc70208,0x90befffa,0xa4506ceb,0xbef9a3f7,0xc67178f2]
theorem BJ (w:World):
  Calls prog 166 #[] w fun e w'=>e=.returned (.agg (K.map (Value.int .u32)).toArray)/\Below w.heap.size w w':=by
 go_enter func166,ntmps166
 go_wp2_with (first|(refine rB rfl 252 _ rfl (K.map (Value.int .u32)).toArray jG ?_)|(refine bV rfl 252 _ _ rfl w.heap.size (K.map (Value.int .u32)).toArray rfl rfl 252 _ (cz _ _) jG jG jG ?_))
 refine c_ (dE rfl _ _ w.heap.size 252 (K.map (Value.int .u32)).toArray (0,0) _ rfl (cI _ _ _ _ _ _ (cz _ _)) underlying252 rfl jG) rfl ⟨rfl,?_⟩;exact below_setRow ((Below.refl _ _).alloc (aj _) _) (aj _) _
def H0:List Int:=[0x6a09e667,0xbb67ae85,0x3c6ef372,0xa54ff53a,0x510e527f,0x9b05688c,0x1f83d9ab,0x5be0cd19]
def absorb (l st:List Int):Nat->List Int
 | 0=>st
 | j+1=>compress K (l.drop (64*j)) (absorb l st j)
theorem tu (kk pZ st:List Int): (compress kk pZ st).length=st.length:=xJ st _ 8
theorem sW (l st:List Int)(j:Nat): (absorb l st j).length=st.length:=by
 induction j with
 | zero=>rfl
 | succ j ih=>rw[absorb,tu,ih]
def uf (p:List Int)(e n:Nat):Nat->List Int
 | 0=>p
 | i+1=>(uf p e n i).set (e - 1 - i) ((n:Int)*8 / 2 ^ (8*i) % 256)
theorem yr (p:List Int)(e n i:Nat): (uf p e n i).length=p.length:=by
 induction i with
 | zero=>rfl
 | succ i ih=>rw[uf,aI,ih]
def Ab (st:List Int):Nat->List Int
 | 0=>List.replicate 32 0
 | i+1=>((((Ab st i).set (4*i) (nth st i / 16777216 % 256)).set (4*i+1) (nth st i / 65536 % 256)).set (4*i+2) (nth st i / 256 % 256)).set (4*i+3) (nth st i % 256)
theorem vD (st:List Int)(i:Nat): (Ab st i).length=32:=by
 induction i with
 | zero=>rfl
 | succ i ih=>simp[Ab,ih]
def sJ (l:List Int):List Int :=
 let j:=l.length / 64
 let rl:=l.drop (64*j)
 let p0:=(rl++List.replicate (128 - rl.length) 0).set rl.length 128
 Ab (if 56<=rl.length then absorb (uf p0 128 l.length 8) (absorb l H0 j) 2 else absorb (uf p0 64 l.length 8) (absorb l H0 j) 1) 8
theorem qC (l:List Int): (sJ l).length=32:=vD _ _
theorem Tryz.ac_: (prog.info? 235).map (fun i=>(i.zero,i.size,i.bytes))=some (some (.int .u32 0),1,4):=jG
theorem apo (st:List Int)(i:Nat)(h:i<8):
  (#[.int .u32 (nth st 0),.int .u32 (nth st 1),.int .u32 (nth st 2),.int .u32 (nth st 3),.int .u32 (nth st 4),.int .u32 (nth st 5),.int .u32 (nth st 6),.int .u32 (nth st 7)]:Array Value)[i]? = some (.int .u32 (nth st i)):=by
 match i,h with
 | 0,_=>rfl
 | 1,_=>rfl
 | 2,_=>rfl
 | 3,_=>rfl
 | 4,_=>rfl
 | 5,_=>rfl
 | 6,_=>rfl
 | 7,_=>rfl
theorem VJ (st:List Int)(i:Nat)(h:i<8)(W:World):
  (Instr.index 257 (.agg #[.int .u32 (nth st 0),.int .u32 (nth st 1),.int .u32 (nth st 2),.int .u32 (nth st 3),.int .u32 (nth st 4),.int .u32 (nth st 5),.int .u32 (nth st 6),.int .u32 (nth st 7)]) (.int .i64 (i:Int))).run prog W=.ok (.int .u32 (nth st i)) W:=by
 obtain⟨it,zD,-,asv,-⟩:=jo Tryz.ac_;exact Dt W _ _ 8 _ it underlying257 zD asv underlying235 rfl _ .i64 i h _ (apo st i h)
def J4:List Value:=List.replicate 128 (.int .u8 0)
theorem ai_ (w:World): (zeroValue 259).run prog w=.ok (.agg J4.toArray) w:=jG
theorem aeZ (v:Value)(l:List Int)(w:World)(hv:Sl .u8 w v l)(hn:l.length<=1152921504606846975):
  Calls prog 157 #[v] w fun e w'=>e=.returned (.agg ((sJ l).map (Value.int .u8)).toArray)/\Below w.heap.size w w':=by
 obtain⟨sp,cap,rfl,vN,rE,kF,-⟩:=hv
 go_enter func157,ntmps157
 go_wp2_with fail
 refine(BJ _).mono ?_;rintro e w1 ⟨rfl,oc⟩;obtain⟨hB0,hB1,hb,lJ⟩:=L0 oc;clear oc
 go_wp2_with (refine bV rfl 252 _ _ rfl w1.heap.size (K.map (Value.int .u32)).toArray rfl rfl 252 _ (cz _ _) jG jG jG ?_)
 have Nj:=cI _ w1.heap.size _ (K.map (Value.int .u32)).toArray 252 (0,0) (cz w1 (.cells ((List.replicate 64 (0:Int)).map (Value.int .u32)).toArray 252));have tN:Below w1.heap.size w1 ((w1.alloc (.cells ((List.replicate 64 (0:Int)).map (Value.int .u32)).toArray 252)).setRow w1.heap.size (K.map (Value.int .u32)).toArray) :=
  below_setRow ((Below.refl _ _).alloc (aj _) _) (aj _) _
 simp only[List.replicate,aY,dy]at Nj tN;generalize World.setRow _ _ _=w2 at Nj tN ⊢;have yD:=dz Nj;have GK:lq .u32 252 w2 w1.heap.size K:=Nj;have ON:lq .u8 31 w2 w.heap.size (List.replicate 32 0):=(tN.block w.heap.size I).trans hB0;have LY:lq .u32 257 w2 (w.heap.size+1) H0:=(tN.block (w.heap.size+1) I).trans hB1;have lG:=hb.trans (tN.mono I);clear Nj tN hB0 hB1;obtain⟨BK,hBK⟩:∃BK,BK=w1.heap.size:=⟨_,rfl⟩;rw[<-hBK]at GK yD lJ ⊢;clear hBK hb;have ahH:0<l.length->∃b o,sp=some ⟨b,o,none⟩/\b<w.heap.size/\Row .u8 w b o (l.drop (64*0)):=kF
 go_loopw [5] (fun r wr=>∃j m sq rc,m+64*j=l.length/\m<=rc/\rc<=9223372036854775807/\r=.slice sq m rc/\
   (0<m->∃b o,sq=some ⟨b,o,none⟩/\b<w.heap.size/\Row .u8 w b o (l.drop (64*j)))/\
   lq .u32 252 wr BK K/\lq .u8 31 wr w.heap.size (List.replicate 32 0)/\lq .u32 257 wr (w.heap.size+1) (absorb l H0 j)/\Below w.heap.size w wr)
  (fun r _=>lenOf r)
 case atStart=>exact⟨0,l.length,sp,cap,I,vN,rE,rfl,ahH,GK,ON,LY,lG⟩
 case round=>
  clear GK ON LY lG yD ahH;obtain⟨j,m,sq,rc,hm,arH,az3,rfl,hsq,GK,ON,LY,lG⟩:=hrel;have Oq:(absorb l H0 j).length=8:=sW l H0 j;have akZ:=lG.size
  by_cases Rh:64<=m
  ·obtain⟨b,o,rfl,xH,hrw⟩:=hsq I
   have Z5:=hrw.below lG xH;have vH:∀w',lq .u32 257 w' (w.heap.size+1) (compress K (l.drop (64*j)) (absorb l H0 j))->Z (fun k=>k<wr.heap.size/\k≠w.heap.size+1) wr w'->
     lq .u32 252 w' BK K/\lq .u8 31 w' w.heap.size (List.replicate 32 0)/\lq .u32 257 w' (w.heap.size+1) (absorb l H0 (j+1))/\Below w.heap.size w w':=by
    intro w' hS hKp;exact⟨GK.jA hKp ⟨GK.lt,I⟩,ON.jA hKp ⟨ON.lt,I⟩,hS,lG.trans (hKp.mono (fun k hk=>⟨I,I⟩)).below⟩
   have ae7:64<=(l.drop (64*j)).length:=by rw[aQ];omega
   by_cases xV:rc=64
   ·have aum:m=64:=I
    subst aum;subst xV
    go_wp2_with fail
    refine(Et (w.heap.size+1) b o 64 64 BK (absorb l H0 j) (l.drop (64*j)) K 257 252 _ (aj _) I (aj _) I LY Z5 GK Oq ae7 rfl).mono ?_;rintro e w' ⟨rfl,He,Ln⟩;have pY:=vH w' He Ln;clear vH He Ln LY GK ON lG Z5 hrw hsq
    go_wp2
    go_roundw
    case rel=>exact⟨j+1,0,_,0,I,I,I,rfl,fun h=>absurd h I,pY⟩
    case measure=>simp[lenOf]
   ·go_wp2_with fail
    refine(Et (w.heap.size+1) b o m rc BK (absorb l H0 j) (l.drop (64*j)) K 257 252 _ Rh I arH I LY Z5 GK Oq ae7 rfl).mono ?_;rintro e w' ⟨rfl,He,Ln⟩;have pY:=vH w' He Ln;have aqy:Row .u8 w b (o+64) (l.drop (64*(j+1))):=by
     have:=Ep hrw 64;rw[fg]at this;rwa [jv]
    clear vH He Ln LY GK ON lG Z5 hrw hsq
    go_wp2
    go_roundw
    case rel=>exact⟨j+1,m - 64,_,rc - 64,I,I,I,rfl,fun _=>⟨b,o+64,rfl,xH,aqy⟩,pY⟩
    case measure=>simp[lenOf];omega
  ·have sj:m<64:=I
   have Bb:(l.drop (64*j)).length=m:=by rw[aQ];omega
   obtain⟨rl,ad8⟩:∃rl,rl=l.drop (64*j):=⟨_,rfl⟩;rw[<-ad8]at hsq Bb;have Hrl:=fB ad8;clear ad8;have hZ:U 259 (wr.alloc (.cells J4.toArray 259)) wr.heap.size J4:=U.mk wr _ _;have hZk:Below wr.heap.size wr (wr.alloc (.cells J4.toArray 259)):=(Below.refl _ _).alloc (aj _) _;obtain⟨cs,hcs⟩:∃cs,cs=rl.map (Value.int .u8):=⟨_,rfl⟩;have Hcs:=fB hcs;have nL:cs.length=m:=by rw[hcs];simpa using Bb
   have ag1:∀v∈cs,v.oneCell'=true:=by rw[hcs];intro v hv;simp at hv;obtain⟨_,_,rfl⟩:=hv;rfl
   have amq:0<cs.length->some (⟨wr.heap.size,0,none⟩:Addr)=some ⟨wr.heap.size,0,none⟩/\∃ad,sq=some ad/\∀j v,cs[j]? = some v->wr.cell? (ad.add j)=some v:=by
    intro h0;refine⟨rfl,?_⟩;obtain⟨b,o,ata,xH,hr⟩:=hsq I;refine⟨_,ata,fun i v hv=>?_⟩;rw[hcs]at hv;have hi:i<rl.length:=by
     rcases aW i rl.length with h|h
     ·exact h
     ·simp[h]at hv
    have:=(hr.below lG xH) i hi;rw[Bc,this]
    simpa[nth,hi] using hv
   clear hcs;have Xh:0<cs.length->∃ad,sq=some ad/\∀j v,cs[j]? = some v->(wr.alloc (.cells J4.toArray 259)).cell? (ad.add j)=some v:=by
    intro h0;obtain⟨_,ad,e,h⟩:=amq h0;exact⟨ad,e,fun j v hv=>by have:=h j v hv;rw[<-this];exact World.cell?_alloc_lt _ _ _ (block_lt_of_cell this)⟩
   clear amq;have HCL:=fB nL;clear nL;have arw:=ai_
   go_wp2_with (refine wpList_copy_splice rfl (.tmp 24) (.tmp 25) 158 158 rfl 5 dt jG _ _ _ _ _ _ rfl rfl wr.heap.size 0 J4 259 hZ cs ?hn ?hpos ?hfit ag1 wr.heap.size wr hZk (aj _) ?hh)
   case hn=>rw[HCL.out];exact(iM I).symm
   case hpos=>first|exact fun h=>⟨rfl,Xh h⟩|exact Xh
   case hfit=>rw[HCL.out];show 0+m<=128;omega
   case hh=>
    intro w3 HG3 DR;rw[HCL.out];have hL:lq .u8 259 w3 wr.heap.size (rl++List.replicate (128 - m) 0):=by
     have e:splice J4 0 cs=(rl++List.replicate (128 - m) 0).map (Value.int .u8):=by
      rw[R_ _ _ (by rw[HCL.out];show m<=128;omega),HCL.out,Hcs.out];rw[aV,List.map_replicate];unfold J4;rw[List.drop_replicate]
     have:=HG3.out;rw[e]at this;exact this
    have aal:=GK.below DR GK.lt;have Z_:=ON.below DR ON.lt;have Z9:=LY.below DR LY.lt;have AA:=lG.trans (DR.mono akZ);have VF:BK≠wr.heap.size:=by have:=GK.lt;omega
    have avk:=LY.lt;obtain⟨BL,hBL⟩:∃BL,BL=wr.heap.size:=⟨_,rfl⟩;rw[<-hBL]at hL VF avk ⊢;clear hBL HG3 DR GK ON LY lG akZ Xh hZ hZk ag1 Hcs HCL arw hsq;have HZ:(rl++List.replicate (128 - m) 0).length=128:=by simp[Bb];omega
    have c0:=hL.cell m I;have f0:=hL.free m
    by_cases YM:56<=m
    ·have ash:(56:Int)<=(m:Int):=I
     go_wp2_with fail
     have QX:=hL.set m 128;have pA:Z (fun k=>k≠BL) w3 (w3.setCell ⟨BL,m,none⟩ (.int .u8 128)):=(Z.refl _ _).setCell (fun h=>h rfl) _;generalize World.setCell _ _ _=w4 at QX pA ⊢;have U0:=aal.jA pA VF;have Tw:=Z_.jA pA I;have Wl:=Z9.jA pA I;have xD:=AA.trans (pA.mono (fun k (hk:k<w.heap.size)=>by omega)).below;clear aal Z_ Z9 AA pA hL HZ c0 f0;obtain⟨p0,Rj⟩:∃p0,p0=(rl++List.replicate (128 - m) 0).set m 128:=⟨_,rfl⟩;rw[<-Rj]at QX;have oR:p0.length=128:=by rw[Rj];simp[Bb];omega
     have Hp0:=fB Rj;clear Rj
     go_loopw [35] (fun c wr=>∃i:Nat,i<=8/\c=.int .i64 i/\lq .u8 259 wr BL (uf p0 128 l.length i)/\Z (fun k=>k≠BL) w4 wr) (fun c _=>8 - (intOf c).toNat)
     case atStart=>exact⟨0,I,rfl,QX,Z.refl _ _⟩
     case round=>
      clear QX;obtain⟨i,hi,rfl,BW,mY⟩:=hrel;have LI:=(yr p0 128 l.length i).trans oR
      by_cases h8:i<8
      ·have c0:=BW.cell (127 - i) I
       have f0:=BW.free (127 - i)
       go_wp2_with fail
       go_roundw
       case rel=>exact⟨i+1,I,by go_num,BW.set _ _,mY.setCell (fun h=>h rfl) _⟩
       case measure=>simp[intOf];omega
      ·have e8:i=8:=I
       rw[e8]at BW LI;clear e8;have Gq:=U0.jA mY VF;have GS:=Tw.jA mY I;have GI:=Wl.jA mY I;have Cn:=xD.trans (mY.mono (fun k (hk:k<w.heap.size)=>by omega)).below;obtain⟨PL,XE⟩:∃PL,PL=uf p0 128 l.length 8:=⟨_,rfl⟩;rw[<-XE]at BW LI;have HPL:=fB XE;clear U0 Tw Wl xD mY XE;obtain⟨S0,rX⟩:∃S0,S0=absorb l H0 j:=⟨_,rfl⟩;rw[<-rX]at GI Oq;have HS0:=fB rX;clear rX;obtain⟨w5,pK⟩:∃w5,w5=wr:=⟨_,rfl⟩;rw[<-pK]at Gq GS GI Cn BW ⊢;clear pK
       go_wp2_with fail
       go_loopw [11] (fun c wr=>∃i:Nat,i<=2/\c=.int .i64 (64*(i:Int))/\lq .u32 257 wr (w.heap.size+1) (absorb PL S0 i)/\Z (fun k=>k<w5.heap.size/\k≠w.heap.size+1) w5 wr) (fun c _=>128 - (intOf c).toNat)
       case atStart=>exact⟨0,I,rfl,GI,Z.refl _ _⟩
       case round=>
        clear GI;obtain⟨q,hq,rfl,nh,mY⟩:=hrel;have nG:=(sW PL S0 q).trans Oq;have RF:=BW.jA mY ⟨BW.lt,I⟩;have Yi:=Gq.jA mY ⟨Gq.lt,I⟩
        by_cases hqn:q<2
        ·have kF:=Ep RF.row (64*q)
         rw[bA]at kF;have lM:64<=(PL.drop (64*q)).length:=by rw[aQ];omega
         have b0:0<=64*(q:Int):=I;have b1:64*(q:Int)<=128:=I
         go_wp2_with fail
         refine(Et (w.heap.size+1) BL (64*q) (128 - 64*q) (128 - 64*q) BK (absorb PL S0 q) (PL.drop (64*q)) K 257 252 _ I I I RF.lt nh kF Yi nG lM rfl).mono ?_;rintro e w' ⟨rfl,He,Ln⟩;have ah9:=mY.size;have MJ:=mY.trans (Ln.mono (fun k hk=>⟨ao hk.1 ah9,hk.2⟩));have pO:lq .u32 257 w' (w.heap.size+1) (absorb PL S0 (q+1)):=He;clear He Ln mY nh RF Yi kF
         go_wp2_with fail
         go_roundw
         case rel=>exact⟨q+1,I,by go_num,pO,MJ⟩
         case measure=>simp[intOf];omega
        ·have eq2:q=2:=I
         rw[eq2]at nh nG;clear eq2;have YT:=GS.jA mY ⟨GS.lt,I⟩;have FD:=Cn.trans (mY.mono (fun k (hk:k<w.heap.size)=>⟨ao hk Cn.size,I⟩)).below;obtain⟨st,p5⟩:∃st,st=absorb PL S0 2:=⟨_,rfl⟩;rw[<-p5]at nh nG;have oW:sJ l=Ab st 8:=by
          have ej:j=l.length / 64:=I;have erl:=Hrl.out.symm;unfold sJ;simp only[<-ej,erl,Bb];rw[p5,HPL.out,Hp0.out,HS0.out]
          first|(rw[ag YM])|(rw[aa YM])
         have wo:=jU.mk oW;clear oW p5 RF Yi mY BW Gq GS Cn;obtain⟨w6,E8⟩:∃w6,w6=wr:=⟨_,rfl⟩;rw[<-E8]at nh YT FD ⊢;clear E8;have hgS:w6.heap[w.heap.size+1]? = some (.cells (st.map (Value.int .u32)).toArray 257 (0,0)):=nh;have d0:=nh.cell 0 I;have d1:=nh.cell 1 I;have d2:=nh.cell 2 I;have d3:=nh.cell 3 I;have d4:=nh.cell 4 I;have d5:=nh.cell 5 I;have d6:=nh.cell 6 I;have d7:=nh.cell 7 I;clear hgS
         go_wp2_with fail
         clear d0 d1 d2 d3 d4 d5 d6 d7
         go_loopw [58] (fun c wr=>∃i:Nat,i<=8/\c=.int .i64 i/\lq .u8 31 wr w.heap.size (Ab st i)/\Z (fun k=>k≠w.heap.size) w6 wr) (fun c _=>8 - (intOf c).toNat)
         case atStart=>exact⟨0,I,rfl,YT,Z.refl _ _⟩
         case round=>
          clear YT nh;obtain⟨i,hi,rfl,hOr,mY⟩:=hrel;have hol:=vD st i
          by_cases hi8:i<8
          ·have c0:=hOr.cell (4*i) I
           have c1:=hOr.cell (4*i+1) I;have c2:=hOr.cell (4*i+2) I;have c3:=hOr.cell (4*i+3) I;have f0:=hOr.free (4*i);have f1:=hOr.free (4*i+1);have f2:=hOr.free (4*i+2);have f3:=hOr.free (4*i+3);have Iv:=VJ st i hi8
           go_wp2_with fail
           go_roundw
           case rel=>exact⟨i+1,I,by go_num,(((hOr.set _ _).set _ _).set _ _).set _ _,(((mY.setCell (fun h=>h rfl) _).setCell (fun h=>h rfl) _).setCell (fun h=>h rfl) _).setCell (fun h=>h rfl) _⟩
           case measure=>simp[intOf];omega
          ·have e9:i=8:=I
           rw[e9]at hOr;clear e9;obtain⟨hh,Ae⟩:∃hh,hh=sJ l:=⟨_,rfl⟩;have Oe:hh.length=32:=by rw[Ae];exact qC l
           rw[<-wo.out,<-Ae]at hOr;have Xo:=jU.mk Ae;clear Ae;have xC:wr.heap[w.heap.size]? = some (.cells (hh.map (Value.int .u8)).toArray 31 (0,0)):=hOr;have FN:=FD.trans (mY.mono (fun k (hk:k<w.heap.size)=>by omega)).below;clear hOr hol mY wo FD;have J1:(prog.info? 31).map (·.size)=some (hh.map (Value.int .u8)).toArray.size:=by
            rw[cH,aB,Oe];kernel_rfl
           have m9:(hh.map (Value.int .u8)).toArray.all (·.oneCell')=true:=by simp[Value.oneCell']
           have DE:=jU.mk J1;have Fu:=jU.mk m9;have Zi:=jU.mk xC;clear J1 m9 xC Oe
           go_wp2_with (first|(refine gz rfl 31 (.tmp 2) rfl w.heap.size rfl 31 (hh.map (Value.int .u8)).toArray (0,0) _ Zi.out dX rfl DE.out ?_)|(refine bV rfl 31 (.tmp 2) (.tmp 89) rfl w.heap.size (hh.map (Value.int .u8)).toArray rfl rfl 31 (hh.map (Value.int .u8)).toArray Zi.out DE.out rfl Fu.out ?_))
           refine c_ (dE rfl _ _ w.heap.size 31 (hh.map (Value.int .u8)).toArray (0,0) _ rfl (cI _ _ _ _ _ _ Zi.out) dX rfl DE.out) rfl ⟨by rw[Xo.out],?_⟩;exact below_setRow FN (aj _) _
    ·have ash:decide ((56:Int)<=(m:Int))=false:=ar I
     go_wp2_with fail
     have QX:=hL.set m 128;have pA:Z (fun k=>k≠BL) w3 (w3.setCell ⟨BL,m,none⟩ (.int .u8 128)):=(Z.refl _ _).setCell (fun h=>h rfl) _;generalize World.setCell _ _ _=w4 at QX pA ⊢;have U0:=aal.jA pA VF;have Tw:=Z_.jA pA I;have Wl:=Z9.jA pA I;have xD:=AA.trans (pA.mono (fun k (hk:k<w.heap.size)=>by omega)).below;clear aal Z_ Z9 AA pA hL HZ c0 f0;obtain⟨p0,Rj⟩:∃p0,p0=(rl++List.replicate (128 - m) 0).set m 128:=⟨_,rfl⟩;rw[<-Rj]at QX;have oR:p0.length=128:=by rw[Rj];simp[Bb];omega
     have Hp0:=fB Rj;clear Rj
     go_loopw [35] (fun c wr=>∃i:Nat,i<=8/\c=.int .i64 i/\lq .u8 259 wr BL (uf p0 64 l.length i)/\Z (fun k=>k≠BL) w4 wr) (fun c _=>8 - (intOf c).toNat)
     case atStart=>exact⟨0,I,rfl,QX,Z.refl _ _⟩
     case round=>
      clear QX;obtain⟨i,hi,rfl,BW,mY⟩:=hrel;have LI:=(yr p0 64 l.length i).trans oR
      by_cases h8:i<8
      ·have c0:=BW.cell (63 - i) I
       have f0:=BW.free (63 - i)
       go_wp2_with fail
       go_roundw
       case rel=>exact⟨i+1,I,by go_num,BW.set _ _,mY.setCell (fun h=>h rfl) _⟩
       case measure=>simp[intOf];omega
      ·have e8:i=8:=I
       rw[e8]at BW LI;clear e8;have Gq:=U0.jA mY VF;have GS:=Tw.jA mY I;have GI:=Wl.jA mY I;have Cn:=xD.trans (mY.mono (fun k (hk:k<w.heap.size)=>by omega)).below;obtain⟨PL,XE⟩:∃PL,PL=uf p0 64 l.length 8:=⟨_,rfl⟩;rw[<-XE]at BW LI;have HPL:=fB XE;clear U0 Tw Wl xD mY XE;obtain⟨S0,rX⟩:∃S0,S0=absorb l H0 j:=⟨_,rfl⟩;rw[<-rX]at GI Oq;have HS0:=fB rX;clear rX;obtain⟨w5,pK⟩:∃w5,w5=wr:=⟨_,rfl⟩;rw[<-pK]at Gq GS GI Cn BW ⊢;clear pK
       go_wp2_with fail
       go_loopw [11] (fun c wr=>∃i:Nat,i<=1/\c=.int .i64 (64*(i:Int))/\lq .u32 257 wr (w.heap.size+1) (absorb PL S0 i)/\Z (fun k=>k<w5.heap.size/\k≠w.heap.size+1) w5 wr) (fun c _=>64 - (intOf c).toNat)
       case atStart=>exact⟨0,I,rfl,GI,Z.refl _ _⟩
       case round=>
        clear GI;obtain⟨q,hq,rfl,nh,mY⟩:=hrel;have nG:=(sW PL S0 q).trans Oq;have RF:=BW.jA mY ⟨BW.lt,I⟩;have Yi:=Gq.jA mY ⟨Gq.lt,I⟩
        by_cases hqn:q<1
        ·have kF:=Ep RF.row (64*q)
         rw[bA]at kF;have lM:64<=(PL.drop (64*q)).length:=by rw[aQ];omega
         have b0:0<=64*(q:Int):=I;have b1:64*(q:Int)<=128:=I
         go_wp2_with fail
         refine(Et (w.heap.size+1) BL (64*q) (128 - 64*q) (128 - 64*q) BK (absorb PL S0 q) (PL.drop (64*q)) K 257 252 _ I I I RF.lt nh kF Yi nG lM rfl).mono ?_;rintro e w' ⟨rfl,He,Ln⟩;have ah9:=mY.size;have MJ:=mY.trans (Ln.mono (fun k hk=>⟨ao hk.1 ah9,hk.2⟩));have pO:lq .u32 257 w' (w.heap.size+1) (absorb PL S0 (q+1)):=He;clear He Ln mY nh RF Yi kF
         go_wp2_with fail
         go_roundw
         case rel=>exact⟨q+1,I,by go_num,pO,MJ⟩
         case measure=>simp[intOf];omega
        ·have eq2:q=1:=I
         rw[eq2]at nh nG;clear eq2;have YT:=GS.jA mY ⟨GS.lt,I⟩;have FD:=Cn.trans (mY.mono (fun k (hk:k<w.heap.size)=>⟨ao hk Cn.size,I⟩)).below;obtain⟨st,p5⟩:∃st,st=absorb PL S0 1:=⟨_,rfl⟩;rw[<-p5]at nh nG;have oW:sJ l=Ab st 8:=by
          have ej:j=l.length / 64:=I;have erl:=Hrl.out.symm;unfold sJ;simp only[<-ej,erl,Bb];rw[p5,HPL.out,Hp0.out,HS0.out]
          first|(rw[ag YM])|(rw[aa YM])
         have wo:=jU.mk oW;clear oW p5 RF Yi mY BW Gq GS Cn;obtain⟨w6,E8⟩:∃w6,w6=wr:=⟨_,rfl⟩;rw[<-E8]at nh YT FD ⊢;clear E8;have hgS:w6.heap[w.heap.size+1]? = some (.cells (st.map (Value.int .u32)).toArray 257 (0,0)):=nh;have d0:=nh.cell 0 I;have d1:=nh.cell 1 I;have d2:=nh.cell 2 I;have d3:=nh.cell 3 I;have d4:=nh.cell 4 I;have d5:=nh.cell 5 I;have d6:=nh.cell 6 I;have d7:=nh.cell 7 I;clear hgS
         go_wp2_with fail
         clear d0 d1 d2 d3 d4 d5 d6 d7
         go_loopw [58] (fun c wr=>∃i:Nat,i<=8/\c=.int .i64 i/\lq .u8 31 wr w.heap.size (Ab st i)/\Z (fun k=>k≠w.heap.size) w6 wr) (fun c _=>8 - (intOf c).toNat)
         case atStart=>exact⟨0,I,rfl,YT,Z.refl _ _⟩
         case round=>
          clear YT nh;obtain⟨i,hi,rfl,hOr,mY⟩:=hrel;have hol:=vD st i
          by_cases hi8:i<8
          ·have c0:=hOr.cell (4*i) I
           have c1:=hOr.cell (4*i+1) I;have c2:=hOr.cell (4*i+2) I;have c3:=hOr.cell (4*i+3) I;have f0:=hOr.free (4*i);have f1:=hOr.free (4*i+1);have f2:=hOr.free (4*i+2);have f3:=hOr.free (4*i+3);have Iv:=VJ st i hi8
           go_wp2_with fail
           go_roundw
           case rel=>exact⟨i+1,I,by go_num,(((hOr.set _ _).set _ _).set _ _).set _ _,(((mY.setCell (fun h=>h rfl) _).setCell (fun h=>h rfl) _).setCell (fun h=>h rfl) _).setCell (fun h=>h rfl) _⟩
           case measure=>simp[intOf];omega
          ·have e9:i=8:=I
           rw[e9]at hOr;clear e9;obtain⟨hh,Ae⟩:∃hh,hh=sJ l:=⟨_,rfl⟩;have Oe:hh.length=32:=by rw[Ae];exact qC l
           rw[<-wo.out,<-Ae]at hOr;have Xo:=jU.mk Ae;clear Ae;have xC:wr.heap[w.heap.size]? = some (.cells (hh.map (Value.int .u8)).toArray 31 (0,0)):=hOr;have FN:=FD.trans (mY.mono (fun k (hk:k<w.heap.size)=>by omega)).below;clear hOr hol mY wo FD;have J1:(prog.info? 31).map (·.size)=some (hh.map (Value.int .u8)).toArray.size:=by
            rw[cH,aB,Oe];kernel_rfl
           have m9:(hh.map (Value.int .u8)).toArray.all (·.oneCell')=true:=by simp[Value.oneCell']
           have DE:=jU.mk J1;have Fu:=jU.mk m9;have Zi:=jU.mk xC;clear J1 m9 xC Oe
           go_wp2_with (first|(refine gz rfl 31 (.tmp 2) rfl w.heap.size rfl 31 (hh.map (Value.int .u8)).toArray (0,0) _ Zi.out dX rfl DE.out ?_)|(refine bV rfl 31 (.tmp 2) (.tmp 89) rfl w.heap.size (hh.map (Value.int .u8)).toArray rfl rfl 31 (hh.map (Value.int .u8)).toArray Zi.out DE.out rfl Fu.out ?_))
           refine c_ (dE rfl _ _ w.heap.size 31 (hh.map (Value.int .u8)).toArray (0,0) _ rfl (cI _ _ _ _ _ _ Zi.out) dX rfl DE.out) rfl ⟨by rw[Xo.out],?_⟩;exact below_setRow FN (aj _) _
theorem WY (x n:Int)(w:World)(hn:0<=n)(uA:n<=32):
  Calls prog 168 #[.int .u32 x,.int .u64 n] w fun e w'=>e=.returned (.int .u32 (A_ x n))/\w=w':=by
 go_enter func168,ntmps168
 go_wp2
 go_ret
 exact⟨rfl,rfl⟩
theorem aky (x n:Int)(w:World)(hn:0<=n)(uA:n<=32):
  Calls prog 168 #[.int .u32 x,.int .u64 n] w fun e w'=>e=.returned (.int .u32 (A_ x n))/\w'=w :=
 (WY x n w hn uA).mono fun _ _ ⟨a,b⟩=>⟨a,b.symm⟩
theorem apT (w:World):
  Calls prog 163 #[] w fun e w'=>e=.returned (.agg (K.map (Value.int .u32)).toArray)/\Below w.heap.size w w':=by
 go_enter func163,ntmps163
 go_wp2_with (first|(refine rB rfl 252 _ rfl (K.map (Value.int .u32)).toArray jG ?_)|(refine bV rfl 252 _ _ rfl w.heap.size (K.map (Value.int .u32)).toArray rfl rfl 252 _ (cz _ _) jG jG jG ?_))
 refine c_ (dE rfl _ _ w.heap.size 252 (K.map (Value.int .u32)).toArray (0,0) _ rfl (cI _ _ _ _ _ _ (cz _ _)) underlying252 rfl jG) rfl ⟨rfl,?_⟩;exact below_setRow ((Below.refl _ _).alloc (aj _) _) (aj _) _
def Z64:List Int:=List.replicate 64 0
theorem aao (w:World): (zeroValue 252).run prog w=.ok (.agg (Z64.map (Value.int .u32)).toArray) w:=jG
def Z8:List Int:=List.replicate 8 0
theorem aiI (w:World): (zeroValue 251).run prog w=.ok (.agg (Z8.map (Value.int .u32)).toArray) w:=jG
theorem asx (T:TypeId)(w:World)(l:List Int)(h:l.length=8):
  lq .u32 T (w.alloc (.cells #[.int .u32 (nth l 0),.int .u32 (nth l 1),.int .u32 (nth l 2),.int .u32 (nth l 3),.int .u32 (nth l 4),.int .u32 (nth l 5),.int .u32 (nth l 6),.int .u32 (nth l 7)] T)) w.heap.size l:=by
 have:=U.mk w (l.map (Value.int .u32)) T
 match l,h with
 | [a,b,c,d,e,f,g,i],_=>exact this
theorem Xm (bb ob n cap bk:Nat)(st pZ kk:List Int)(T':TypeId)(w:World)(hn:64<=n)(uA:n<=9223372036854775807)(Mv:bb<w.heap.size)(tZ:Row .u8 w bb ob pZ)(zr:lq .u32 T' w bk kk)(uE:st.length=8)(sL:64<=pZ.length)(om:kk.length=64):
  Calls prog 164 #[.agg (st.map (Value.int .u32)).toArray,.slice (some ⟨bb,ob,none⟩) n cap,.pointer (some ⟨bk,0,none⟩)] w
   fun e w'=>e=.returned (.agg ((compress kk pZ st).map (Value.int .u32)).toArray)/\Below w.heap.size w w':=by
 have Bd:=zr.lt;have aeg:=aao;have asK:=aiI
 go_enter func164,ntmps164
 go_wp2
 clear aeg asK;obtain⟨hA,hB,hC,lG,lJ⟩:=Q0 w (.cells (st.map (Value.int .u32)).toArray 251) (.cells (Z8.map (Value.int .u32)).toArray 251) (.cells (Z64.map (Value.int .u32)).toArray 252);generalize World.alloc _ _=w0 at hA hB hC lG lJ ⊢;have hS:lq .u32 251 w0 w.heap.size st:=hA;have hR:lq .u32 251 w0 (w.heap.size+1) Z8:=hB;have hW:lq .u32 252 w0 (w.heap.size+1+1) (load pZ 0):=hC;clear hA hB hC
 go_loopw [8] (fun c wr=>∃i:Nat,i<=16/\c=.int .i64 i/\lq .u32 252 wr (w.heap.size+1+1) (load pZ i)/\Z (fun k=>k≠w.heap.size+1+1) w0 wr)
  (fun c _=>16 - (intOf c).toNat)
 case atStart=>exact⟨0,I,rfl,hW,Z.refl _ _⟩
 case round=>
  clear hW;obtain⟨i,hi,rfl,qR,mY⟩:=hrel;have Su:=vw pZ i
  by_cases QL:i<16
  ·have kF:=(tZ.below lG Mv).jA mY I
   have c0:=qR.cell i I;have f0:=qR.free i;have a0:=kF.at (4*i) I;have a1:=kF.BA (4*i+1) (ob+(4*i+1)) I I;have a2:=kF.BA (4*i+2) (ob+(4*i+2)) I I;have a3:=kF.BA (4*i+3) (ob+(4*i+3)) I I;have b0:4*(i:Int)<n:=I;have b1:4*(i:Int)+1<n:=I;have b2:4*(i:Int)+2<n:=I;have b3:4*(i:Int)+3<n:=I
   go_wp2_with fail
   go_region
   go_wp2
   go_roundw
   case rel=>exact⟨i+1,I,by go_num,qR.set _ _,(mY.setCell (fun h=>h rfl) _).drewN 1⟩
   case measure=>simp[intOf];omega
  ·have W8:i=16:=I
   rw[W8]at qR;clear W8 Su;have aAf:decide ((i:Int)<16)=false:=ar I
   go_wp2
   go_loopw [9] (fun c wr=>∃i:Nat,i<=48/\c=.int .i64 (16+(i:Int))/\lq .u32 252 wr (w.heap.size+1+1) (sched (load pZ 16) i)/\Z (fun k=>k≠w.heap.size+1+1) w0 wr)
    (fun c _=>64 - (intOf c).toNat)
   case atStart=>exact⟨0,I,rfl,qR,mY⟩
   case round=>
    clear qR mY;obtain⟨i,xx,rfl,qR,mY⟩:=hrel;have Su:=(Ax (load pZ 16) i).trans (vw pZ 16)
    by_cases h48:i<48
    ·have c0:=qR.cell (16+i) I
     have c1:=qR.Il (16+i - 15) (i+1) I I;have c2:=qR.Il (16+i - 2) (i+14) I I;have c3:=qR.cell i I;have c4:=qR.Il (16+i - 7) (i+9) I I;have f0:=qR.free (16+i)
     go_wp2_with fail
     apply gu 29 jG jG;simp only[cE,cj,de,ff];rw[show({ heap:=wr.heap,tape:=wr.tape,drawn:=wr.drawn+1,os:=wr.os,output:=wr.output }:World)=wr.drew from rfl];have g0:(i:Int)<64:=I;have g9:(i:Int)+9<64:=I;have g1:(16+(i:Int))<64:=I;have OE:0<=(16+(i:Int)):=I;have gt:(16+(i:Int)).toNat=16+i:=I;have e1:IntKind.i64.wrap (16+(i:Int) - 16)=(i:Int):=(bN _ I).trans I;have e2:IntKind.i64.wrap (16+(i:Int) - 7)=(i:Int)+9:=(bN _ I).trans I;have p9:0<=(i:Int)+9:=I;have t9:((i:Int)+9).toNat=i+9:=I;have c9:=qR.cell (i+9) I
     repeat (first|still_step|still_call (aky _ _ _ lZ lZ))
     clear e1 e2 gt;apply wpStill_nil
     go_wp2
     go_roundw
     case rel=>exact⟨i+1,I,by go_num,qR.set _ _,(mY.setCell (fun h=>h rfl) _).drewN 1⟩
     case measure=>simp[intOf];omega
    ·have e48:i=48:=I
     rw[e48]at qR Su;clear e48;have aAq:decide (16+(i:Int)<64)=false:=ar I;have nh:=hS.jA mY I;have YZ:=hR.jA mY I;have uy:=(zr.below lG Bd).jA mY I;have pV:=lG.trans (mY.mono (fun k (hk:k<w.heap.size)=>by omega)).below;have hBz:=qR.lt;have d0:=nh.cell 0 I;have d1:=nh.cell 1 I;have d2:=nh.cell 2 I;have d3:=nh.cell 3 I;have d4:=nh.cell 4 I;have d5:=nh.cell 5 I;have d6:=nh.cell 6 I;have d7:=nh.cell 7 I
     go_wp2
     have hV:=asx 251 wr st uE;have MJ:Z (fun k=>k<wr.heap.size) wr _:=Z.jw ((Below.refl wr.heap.size wr).alloc (aj _) (.cells #[.int .u32 (nth st 0),.int .u32 (nth st 1),.int .u32 (nth st 2),.int .u32 (nth st 3),.int .u32 (nth st 4),.int .u32 (nth st 5),.int .u32 (nth st 6),.int .u32 (nth st 7)] 251));generalize World.alloc _ _=w2 at hV MJ ⊢;clear d0 d1 d2 d3 d4 d5 d6 d7 hS hR lG;have pO:=nh.jA MJ nh.lt;have hR2:=YZ.jA MJ YZ.lt;have mW:=uy.jA MJ uy.lt;have S8:=qR.jA MJ qR.lt;have yL:=pV.trans (MJ.mono (fun k (hk:k<w.heap.size)=>by omega)).below;clear nh YZ uy qR pV MJ mY;generalize wr.heap.size=Bv at hV hBz ⊢;obtain⟨W,Yd⟩:∃W,W=sched (load pZ 16) 48:=⟨_,rfl⟩;rw[<-Yd]at S8 Su;have HW:=jU.mk Yd;clear Yd
     go_loopw [13] (fun c wr=>∃i:Nat,i<=64/\c=.int .i64 i/\lq .u32 251 wr Bv (rounds kk W st i)/\Z (fun k=>k≠Bv) w2 wr)
      (fun c _=>64 - (intOf c).toNat)
     case atStart=>exact⟨0,I,rfl,hV,Z.refl _ _⟩
     case round=>
      clear hV;obtain⟨r,hr,rfl,tK,mY⟩:=hrel;have qD:=vt kk W st r uE;obtain⟨v,J6⟩:∃v,v=rounds kk W st r:=⟨_,rfl⟩;rw[<-J6]at tK qD;have Hv:=jU.mk J6;clear J6
      by_cases aqB:r<64
      ·have WG:=mW.jA mY I
       have qR:=S8.jA mY I;have d0:=tK.cell 0 I;have d1:=tK.cell 1 I;have d2:=tK.cell 2 I;have d3:=tK.cell 3 I;have d4:=tK.cell 4 I;have d5:=tK.cell 5 I;have d6:=tK.cell 6 I;have d7:=tK.cell 7 I;have f0:=tK.free;have k0:=WG.cell r I;have w0:=qR.cell r I
       go_wp2_with fail
       go_quiet (fail)
       go_wp2_with fail
       go_quiet ((go_at_call 168;exact ue (WY _ _ _ I I)))
       go_wp2_with fail
       go_quiet ((go_at_call 168;exact ue (WY _ _ _ I I)))
       go_wp2
       go_roundw
       case rel=>
        refine⟨r+1,I,by go_num,?_,ag_ (mY.drewN _) (fun h=>h rfl) _ _ _ _ _ _ _ _⟩;rw[rounds,<-Hv.out];exact ali (tK.drewN _) qD _ _ _ _ _ _ _ _
       case measure=>simp[intOf];omega
      ·have e64:r=64:=I
       have azI:decide ((r:Int)<64)=false:=ar I;have TL:lq .u32 251 wr Bv (rounds kk W st 64):=by rw[<-e64,<-Hv.out];exact tK
       have nh:=pO.jA mY I;have YZ:=hR2.jA mY I;have pV:=yL.trans (mY.mono (fun k (hk:k<w.heap.size)=>by omega)).below;have EN:=vt kk W st 64 uE;have oW:compress kk pZ st=vy st (rounds kk W st 64) 8:=by rw[HW.out];rfl
       have wo:=jU.mk oW;obtain⟨z,hz⟩:∃z,z=rounds kk W st 64:=⟨_,rfl⟩;rw[<-hz]at TL EN;have Hz:=jU.mk hz;clear hz oW e64 tK qD Hv HW mY pO hR2 yL S8 mW Su
       go_wp2
       obtain⟨w3,pE⟩:∃w3,w3=wr:=⟨_,rfl⟩;rw[<-pE]at TL nh YZ pV ⊢;clear pE
       go_loopw [18] (fun c wr=>∃i:Nat,i<=8/\c=.int .i64 i/\lq .u32 251 wr w.heap.size (vy st z i)/\Z (fun k=>k≠w.heap.size) w3 wr)
        (fun c _=>8 - (intOf c).toNat)
       case atStart=>exact⟨0,I,rfl,nh,Z.refl _ _⟩
       case round=>
        clear nh;obtain⟨q,hq,rfl,nh,mY⟩:=hrel;have Oq:=(xJ st z q).trans uE
        by_cases h8:q<8
        ·have tK:=TL.jA mY I
         have s0:=nh.cell q I;have v0:=tK.cell q I;have f0:=nh.free q
         go_wp2_with fail
         go_region
         go_wp2
         go_roundw
         case rel=>exact⟨q+1,I,by go_num,nh.set _ _,(mY.setCell (fun h=>h rfl) _).drewN 1⟩
         case measure=>simp[intOf];omega
        ·have e8:q=8:=I
         have hd8:decide ((q:Int)<8)=false:=ar I;obtain⟨hh,Ae⟩:∃hh,hh=compress kk pZ st:=⟨_,rfl⟩;have KE:lq .u32 251 wr w.heap.size hh:=by rw[Ae,wo.out,<-Hz.out,<-e8];exact nh
         have vO:hh.length=8:=by rw[Ae,tu,uE]
         have Xo:=jU.mk Ae;have arB:=YZ.jA mY I;have FN:=pV.trans (mY.mono (fun k (hk:k<w.heap.size)=>by omega)).below;clear Ae e8 nh TL wo Hz Oq YZ pV mY;have d0:=KE.cell 0 I;have d1:=KE.cell 1 I;have d2:=KE.cell 2 I;have d3:=KE.cell 3 I;have d4:=KE.cell 4 I;have d5:=KE.cell 5 I;have d6:=KE.cell 6 I;have d7:=KE.cell 7 I;have vL:wr.heap[w.heap.size+1]? = some (.cells (Z8.map (Value.int .u32)).toArray 251 (0,0)):=arB;have eq8:(#[.int .u32 (nth hh 0),.int .u32 (nth hh 1),.int .u32 (nth hh 2),.int .u32 (nth hh 3),.int .u32 (nth hh 4),.int .u32 (nth hh 5),.int .u32 (nth hh 6),.int .u32 (nth hh 7)]:Array Value)=(hh.map (Value.int .u32)).toArray:=by
          conv=>rhs;rw[eight hh vO]
          rfl
         have m9:(#[.int .u32 (nth hh 0),.int .u32 (nth hh 1),.int .u32 (nth hh 2),.int .u32 (nth hh 3),.int .u32 (nth hh 4),.int .u32 (nth hh 5),.int .u32 (nth hh 6),.int .u32 (nth hh 7)]:Array Value).all (·.oneCell')=true:=by rw[eq8];simp[Value.oneCell']
         have Fu:=jU.mk m9;clear m9;have Eq8:=jU.mk eq8;have Hg1:=jU.mk vL;clear eq8 vL
         go_wp2_with (refine bV rfl 251 (.tmp 6) (.tmp 195) rfl (w.heap.size+1) (#[.int .u32 (nth hh 0),.int .u32 (nth hh 1),.int .u32 (nth hh 2),.int .u32 (nth hh 3),.int .u32 (nth hh 4),.int .u32 (nth hh 5),.int .u32 (nth hh 6),.int .u32 (nth hh 7)]) rfl rfl 251 (Z8.map (Value.int .u32)).toArray Hg1.out jG rfl Fu.out ?_)
         refine c_ (dE rfl _ _ (w.heap.size+1) 251 _ (0,0) _ rfl (cI _ _ _ _ _ _ Hg1.out) underlying251 rfl jG) rfl ⟨by rw[Eq8.out,Xo.out],?_⟩;exact below_setRow FN I _
theorem Cf: Vc prog 158 5 1:=Vc.mk' (k:=.u8) (x:=0) dt jG
def zs (n:Nat):List Int:=List.replicate n 0
def lenB (n:Nat):Nat->List Int
 | 0=>[]
 | i+1=>lenB n i++[(n:Int)*8 / 2 ^ (8*(7 - i)) % 256]
theorem tz (n i:Nat): (lenB n i).length=i:=by
 induction i with
 | zero=>rfl
 | succ i ih=>simp[lenB,ih]
def nA:List Int:=List.replicate 32 0
theorem yf (w:World): (zeroValue 31).run prog w=.ok (.agg (nA.map (Value.int .u8)).toArray) w:=jG
def r9 (n:Nat):Nat:=(119 - n % 64) % 64
theorem Gb (n z:Nat)(hz:z<=r9 n): ((n+1+z) % 64=56) ↔ z=r9 n:=by unfold r9 at *;omega
def rS (l:List Int):List Int:=l++[128]++zs (r9 l.length)++lenB l.length 8
def Fj (st:List Int):Nat->List Int
 | 0=>nA
 | i+1=>(Fj st i).set i (nth st (i / 4) / 2 ^ (24 - 8*(i % 4)) % 256)
theorem uY (st:List Int)(i:Nat): (Fj st i).length=32:=by
 induction i with
 | zero=>rfl
 | succ i ih=>simp[Fj,ih]
def Pk (l:List Int):List Int:=Fj (absorb (rS l) H0 ((rS l).length / 64)) 32
theorem acn {k:IntKind}{e:TypeId}{base n:Nat}{l:List Int}(h:qt k e w base (.slice sp n c) l)(h0:0<l.length):
  ∃g,sp=some ⟨g,0,none⟩/\n=l.length/\base<=g/\g<w.heap.size/\l.length<=c/\c<=9223372036854775807/\Row k w g 0 l:=by
 rcases h.block with⟨e1,e2⟩|⟨g,cap,rest,e1,hg,h1,h2,hb,-⟩
 ·rw[e2]at h0;simp at h0
 ·injection e1 with e1 e2 e3
  subst e1 e2 e3;exact⟨g,rfl,rfl,hg,hb.lt,h1,by unfold maxLen at h2;exact h2,h.row⟩
theorem BR {K:Nat->Prop}(h:Z K a w)(hg:¬K g)(cs:Array Value): Z K a (w.setRow g cs) :=
 h.trans ⟨rfl,rfl,rfl,jM,fun k hk=>setRow_other w g k cs (fun e=>hg (e ▸ hk))⟩
theorem XS {A:Obj}(hb:Below (w.alloc A).heap.size (w.alloc A) w1):
  w1.heap[w.heap.size]? = some A/\Below w.heap.size w w1/\w.heap.size+1<=w1.heap.size:=by
 have hs:(w.alloc A).heap.size=w.heap.size+1:=jM;refine⟨?_,?_,?_⟩
 ·rw[hb.block _ (by rw[hs];omega),cz]
 ·exact((Below.refl _ _).alloc (aj _) _).trans (hb.mono (by rw[hs];omega))
 ·rw[<-hs];exact hb.size
theorem T6 (bb ob n cap bk:Nat)(st pZ kk:List Int)(T':TypeId)(w:World)(hn:64<=n)(uA:n<=9223372036854775807)(Mv:bb<w.heap.size)(tZ:Row .u8 w bb ob pZ)(zr:lq .u32 T' w bk kk)(uE:st.length=8)(sL:64<=pZ.length)(om:kk.length=64):
  Calls prog 164 #[.agg #[.int .u32 (nth st 0),.int .u32 (nth st 1),.int .u32 (nth st 2),.int .u32 (nth st 3),.int .u32 (nth st 4),.int .u32 (nth st 5),.int .u32 (nth st 6),.int .u32 (nth st 7)],.slice (some ⟨bb,ob,none⟩) n cap,.pointer (some ⟨bk,0,none⟩)] w
   fun e w'=>e=.returned (.agg ((compress kk pZ st).map (Value.int .u32)).toArray)/\Below w.heap.size w w':=by
 have e:(#[.int .u32 (nth st 0),.int .u32 (nth st 1),.int .u32 (nth st 2),.int .u32 (nth st 3),.int .u32 (nth st 4),.int .u32 (nth st 5),.int .u32 (nth st 6),.int .u32 (nth st 7)]:Array Value)=(st.map (Value.int .u32)).toArray:=by
  conv=>rhs;rw[eight st uE]
  rfl
 rw[e];exact Xm bb ob n cap bk st pZ kk T' w hn uA Mv tZ zr uE sL om
theorem Tk (v:Value)(l:List Int)(w:World)(hv:Sl .u8 w v l)(hn:l.length<=35184372088832):
  Calls prog 152 #[v] w fun e w'=>e=.returned (.agg ((Pk l).map (Value.int .u8)).toArray)/\Below w.heap.size w w':=by
 have wP:=hv;obtain⟨sp,cap,rfl,-,-,-,-⟩:=wP;have ac9:=yf;have hE0:qt .u8 5 ((w.alloc (.cells (nA.map (Value.int .u8)).toArray 31)).alloc (.cells #[] 5)) (w.heap.size+1) (.slice (some ⟨w.heap.size+1,0,none⟩) 0 0) []:=by
  have:=qt.empty (k:=.u8) (e:=5) (w:=w.alloc (.cells (nA.map (Value.int .u8)).toArray 31)) (base:=w.heap.size+1) jM
  simpa using this
 have hBe:Below w.heap.size w ((w.alloc (.cells (nA.map (Value.int .u8)).toArray 31)).alloc (.cells #[] 5)):=((Below.refl _ w).alloc (aj _) _).alloc jM _;have V6:=hv.jw hBe;have hHe:lq .u8 31 ((w.alloc (.cells (nA.map (Value.int .u8)).toArray 31)).alloc (.cells #[] 5)) w.heap.size nA:=lq.alloc (U.mk w _ _) _;have hze:((w.alloc (.cells (nA.map (Value.int .u8)).toArray 31)).alloc (.cells #[] 5)).heap.size=w.heap.size+2:=jM;obtain⟨W0,hW0⟩:∃W0,W0=((w.alloc (.cells (nA.map (Value.int .u8)).toArray 31)).alloc (.cells #[] 5)):=⟨_,rfl⟩;have uo:=hE0;rw[<-hW0]at hHe hBe hze hE0 V6;have HE1:=jU.mk uo;have HW0:=jU.mk hW0;clear uo hW0
 go_enter func152,ntmps152
 go_wp2_with (refine zX rfl (.tmp 11) (.tmp 12) 158 rfl Cf (w.heap.size+1) _ [] rfl HE1.out _ l rfl (by rw[<-HW0.out];exact V6) l.length ?h1 ?h2 ?h3 ?h4 ?h5)
 case h1=>simp
 case h2=>unfold maxLen;omega
 case h3=>omega
 case h4=>simp
 case h5=>
  intro zh c1 w1 oc DZ
  try rw[aT]at oc
  rw[<-HW0.out]at DZ;have sF:=DZ.size
  go_wp2_with (refine zX rfl (.tmp 13) (.tmp 14) 158 rfl Cf (w.heap.size+1) _ l rfl (oc.alloc _) _ [128] rfl (Sl.one .u8 w1 128 5) (l.length+1) ?h1 ?h2 ?h3 ?h4 ?h5)
  case h1=>simp
  case h2=>unfold maxLen;omega
  case h3=>omega
  case h4=>simp;omega
  case h5=>
   intro uS c2 w2 kK mW;have alh:=(DZ.trans ((Z.refl _ w1).alloc (fun k (hk:k<w.heap.size+1)=>by omega) _)).trans mW;have Sj:0<=r9 l.length:=ay _;have hpz:r9 l.length<=63:=by unfold r9;omega
   clear oc DZ mW sF;have adK:qt .u8 5 w2 (w.heap.size+1) (.slice uS (l.length+1) c2) (l++[128]++zs 0):=by simpa[zs] using kK
   clear kK;obtain⟨M0,hM0⟩:∃M0:List Int,M0=l++[128]:=⟨_,rfl⟩;have amy:M0.length=l.length+1:=by rw[hM0];simp
   rw[<-hM0]at adK;have HM0:=jU.mk hM0;have al1:=jU.mk amy;clear hM0 amy
   go_wp2_with fail
   go_loopw [3] (fun v wr=>∃z n sp c,z<=r9 l.length/\n=l.length+1+z/\v=.slice sp n c/\qt .u8 5 wr (w.heap.size+1) (.slice sp n c) (M0++zs z)/\Z (fun k=>k<w.heap.size+1) W0 wr)
    (fun v _=>l.length+65 - lenOf v)
   case atStart=>exact⟨0,_,_,_,I,rfl,rfl,adK,alh⟩
   case round=>
    clear adK alh;obtain⟨z,n,Xt,c3,hz,yu,rfl,lx,uy⟩:=hrel;have Hn1:=jU.mk yu;have tX:n<=l.length+64:=I;have XJ:=uy.size
    by_cases hzp:z=r9 l.length
    ·have ht:(((n:Int) % 64) != 56)=false:=by
      have:=(Gb l.length z hz).2 hzp;rw[<-yu]at this;rw[bne_eq_false_iff_eq];omega
     have uA:n=l.length+1+r9 l.length:=by rw[yu,hzp]
     have ad4:qt .u8 5 wr (w.heap.size+1) (.slice Xt n c3) (M0++zs (r9 l.length)++lenB l.length 0):=by
      rw[<-hzp];simpa[lenB] using lx
     have Hn2:=jU.mk uA;have OQ:(M0++zs (r9 l.length)).length=n:=by rw[af,al1.out,uA];simp[zs]
     clear yu hzp Hn1 lx uA;obtain⟨M1,Q_⟩:∃M1:List Int,M1=M0++zs (r9 l.length):=⟨_,rfl⟩;rw[<-Q_]at ad4 OQ;have HM1:=jU.mk Q_;have al6:=jU.mk OQ;clear Q_ OQ
     go_wp2_with fail
     go_loopw [3,5] (fun v i wr=>∃j nn sp c,j<=8/\nn=n+j/\i=.int .i64 (7 - (j:Int))/\v=.slice sp nn c/\qt .u8 5 wr (w.heap.size+1) (.slice sp nn c) (M1++lenB l.length j)/\Z (fun k=>k<w.heap.size+1) W0 wr)
      (fun _ i _=>(intOf i+1).toNat)
     case atStart=>exact⟨0,n,Xt,c3,I,rfl,rfl,rfl,ad4,uy⟩
     case round=>
      clear ad4 uy XJ;obtain⟨j,nn,sp4,c4,hj,UR,rfl,rfl,lx,uy⟩:=hrel;have Hnn:=jU.mk UR;have azU:nn<=l.length+72:=I;have XJ:=uy.size
      by_cases hj8:j<8
      ·clear UR
       go_wp2_with (refine zX rfl (.tmp 31) (.tmp 38) 158 rfl Cf (w.heap.size+1) _ (M1++lenB l.length j) rfl (lx.alloc _) _ [(l.length:Int)*8 / 2 ^ (8*(7 - j)) % 256] rfl (Sl.one .u8 wr _ 5) (nn+1) ?g1 ?g2 ?g3 ?g4 ?g5)
       case g1=>rw[af,al6.out,tz,Hnn.out];rfl
       case g2=>unfold maxLen;omega
       case g3=>omega
       case g4=>simp;omega
       case g5=>
        intro Ah c5 w5 qv oM;have tD:qt .u8 5 w5 (w.heap.size+1) (.slice Ah (nn+1) c5) (M1++lenB l.length (j+1)):=by
         rw[lenB];first|exact qv|(rw[<-av];exact qv)
        have o_:=(uy.trans ((Z.refl _ wr).alloc (fun k (hk:k<w.heap.size+1)=>by omega) _)).trans oM;clear qv oM lx uy XJ
        go_wp2_with fail
        go_roundw
        case rel=>exact⟨j+1,nn+1,Ah,c5,I,by rw[Hnn.out];rfl,by go_num,rfl,tD,o_⟩
        case measure=>simp[intOf];omega
      ·have e8:j=8:=I
       have hdj:decide ((j:Int)<=7)=false:=ar I;rw[e8]at lx;clear UR;have akQ:nn=n+8:=by rw[Hnn.out,e8]
       obtain⟨M,hM⟩:∃M:List Int,M=M1++lenB l.length 8:=⟨_,rfl⟩;rw[<-hM]at lx;have ak4:M=rS l:=by rw[hM,HM1.out,HM0.out];rfl
       have OQ:M.length=nn:=by rw[hM,af,al6.out,tz,akQ]
       have ad1:nn=64*(nn / 64):=by
        have:=(Gb l.length (r9 l.length) (aj _)).2 rfl;have:=Hn2.out;omega
       obtain⟨q,hq⟩:∃q,q=nn / 64:=⟨_,rfl⟩;rw[<-hq]at ad1;rw[<-OQ]at lx;obtain⟨g,rfl,-,hgB,RT,XF,azJ,af6⟩:=acn lx I;have Kc:=hHe.jA uy I;have pV:=hBe.trans (uy.mono (fun k (hk:k<w.heap.size)=>by omega)).below;have amr:=jU.mk ak4;have HMl:=jU.mk OQ;have amn:=jU.mk ad1;have Hq:=jU.mk hq;clear hM OQ ak4 ad1 hq akQ e8 lx uy XJ HM0 HM1 hHe hBe V6 hE0 HE1 hv
       go_wp2_with fail
       refine(apT _).mono ?_;rintro e w6 ⟨rfl,o_⟩;obtain⟨rQ,tD,Yx⟩:=XS o_;clear o_;have aeg:=aao
       go_wp2_with (refine bV rfl 252 (.tmp 7) (.tmp 41) rfl w6.heap.size (K.map (Value.int .u32)).toArray rfl rfl 252 _ (cz _ _) jG jG jG ?_)
       have Nj:lq .u32 252 _ w6.heap.size K:=cI _ w6.heap.size _ (K.map (Value.int .u32)).toArray 252 (0,0) (cz w6 (.cells (Z64.map (Value.int .u32)).toArray 252));have tN:Below w6.heap.size w6 ((w6.alloc (.cells (Z64.map (Value.int .u32)).toArray 252)).setRow w6.heap.size (K.map (Value.int .u32)).toArray) :=
        below_setRow ((Below.refl _ _).alloc (aj _) _) (aj _) _
       generalize World.setRow _ _ _=w7 at Nj tN ⊢;have tQ:lq .u32 251 w7 wr.heap.size H0:=(tN.block wr.heap.size I).trans rQ;have hM7:=(af6.below tD RT).below tN I;have hH7:=(Kc.below tD Kc.lt).below tN (by have:=Kc.lt;omega);have Xc:=pV.trans ((tD.mono pV.size).trans (tN.mono (by have:=pV.size;omega)));have SP:g<w7.heap.size:=by have:=tN.size;omega
       have atx:=RT;have ame:wr.heap.size<w6.heap.size:=I;have ak6:=Nj.lt;have hBw:w.heap.size<g:=I;clear rQ tN af6 Kc pV tD Yx aeg ac9 RT;generalize w6.heap.size=BK at Nj ame ak6 ⊢;generalize wr.heap.size=BS at tQ atx ame ⊢;have Hn:=HMl.out;have E0:nn<=64*q:=by have:=amn.out;omega
       have OY:64*q<=nn:=by have:=amn.out;omega
       rw[Hn]at XF;clear Hn
       go_loopw [8] (fun c wr=>∃i:Nat,i<=q/\c=.int .i64 (64*(i:Int))/\lq .u32 251 wr BS (absorb M H0 i)/\Z (fun k=>k<w7.heap.size/\k≠BS) w7 wr) (fun c _=>64*q - (intOf c).toNat)
       case atStart=>exact⟨0,I,rfl,tQ,Z.refl _ _⟩
       case round=>
        clear tQ;obtain⟨i,hi,rfl,nh,mY⟩:=hrel;have nG:(absorb M H0 i).length=8:=sW M H0 i;have hMr:=hM7.jA mY ⟨SP,I⟩;have ag0:=Nj.jA mY ⟨ak6,I⟩
        by_cases hiq:i<q
        ·have kF:=Ep hMr (64*i)
         rw[bA]at kF;have lM:64<=(M.drop (64*i)).length:=by rw[aQ,HMl.out];omega
         have b0:0<=64*(i:Int):=I;have b1:64*(i:Int)+64<=c4:=I;have uU:(64*(i:Int))<(nn:Int):=I;have d0:=nh.cell 0 I;have d1:=nh.cell 1 I;have d2:=nh.cell 2 I;have d3:=nh.cell 3 I;have d4:=nh.cell 4 I;have d5:=nh.cell 5 I;have d6:=nh.cell 6 I;have d7:=nh.cell 7 I
         go_wp2_with fail
         apply gu 6 jG jG;simp only[cE,cj,de,ff];rw[show({ heap:=wr.heap,tape:=wr.tape,drawn:=wr.drawn+1,os:=wr.os,output:=wr.output }:World)=wr.drew from rfl];have g1:64*(i:Int)<=64*(i:Int)+64:=I;have g2:0<=64*(i:Int)+64:=I;have t1:(64*(i:Int)).toNat=64*i:=I;have t2:(64*(i:Int)+64).toNat=64*i+64:=I;have t3:¬c4=64*i:=I;have e1:IntKind.i64.wrap (64*(i:Int)+64)=64*(i:Int)+64:=bN _ I
         repeat still_step
         clear e1 t1 t2 t3
         try refine wpStill_nil ?_
         have hMd:Row .u8 wr.drew g (64*i) (M.drop (64*i)):=kF;have hKd:lq .u32 252 wr.drew BK K:=ag0;have tp:g<wr.drew.heap.size:=by have:=mY.size;show g<wr.heap.size;omega
         go_wp2_with fail
         refine(T6 g (64*i) 64 (c4 - 64*i) BK (absorb M H0 i) (M.drop (64*i)) K 252 _ (aj _) I tp hMd hKd nG lM rfl).mono ?_;rintro e w' ⟨rfl,Gy⟩;have auQ:=nh.lt;have He:=nh.j_ (Gy.block BS auQ);have hgS:w'.heap[BS]? = some (.cells ((absorb M H0 i).map (Value.int .u32)).toArray 251 (0,0)):=He;have amh:(prog.info? 251).map (·.size)=some ((compress K (M.drop (64*i)) (absorb M H0 i)).map (Value.int .u32)).toArray.size:=by
          rw[cH,aB,tu,nG];kernel_rfl
         have aml:((absorb M H0 i).map (Value.int .u32)).toArray.size=((compress K (M.drop (64*i)) (absorb M H0 i)).map (Value.int .u32)).toArray.size:=by
          rw[cH,aB,cH,aB,tu]
         have m9:((compress K (M.drop (64*i)) (absorb M H0 i)).map (Value.int .u32)).toArray.all (·.oneCell')=true:=by simp[Value.oneCell']
         have HgS:=jU.mk hgS;have als:=jU.mk amh;have alM:=jU.mk aml;have Fu:=jU.mk m9;have hKp:=mY.trans (((Z.refl _ wr).drewN 1).trans ((Z.jw Gy).mono (fun k hk=>by have:=mY.size;show k<wr.heap.size;omega)));clear hgS amh aml m9 hMd hKd tp d0 d1 d2 d3 d4 d5 d6 d7 Gy kF hMr ag0 mY nh
         go_wp2_with (refine bV rfl 251 (.tmp 6) (.tmp 54) rfl BS _ rfl rfl 251 _ HgS.out als.out alM.out Fu.out ?_)
         have pO:lq .u32 251 (w'.setRow BS ((compress K (M.drop (64*i)) (absorb M H0 i)).map (Value.int .u32)).toArray) BS (absorb M H0 (i+1)):=cI _ _ _ _ _ _ HgS.out;have atm:Z (fun k=>k<w7.heap.size/\k≠BS) w7 (w'.setRow BS ((compress K (M.drop (64*i)) (absorb M H0 i)).map (Value.int .u32)).toArray):=BR hKp (fun h=>h.2 rfl) _;clear hKp HgS als alM Fu He
         go_wp2_with fail
         go_roundw
         case rel=>exact⟨i+1,I,by go_num,pO,atm⟩
         case measure=>simp[intOf];omega
        ·have eiq:i=q:=I
         have uU:decide ((64*(i:Int))<(nn:Int))=false:=ar I;rw[eiq]at nh;have Kc:=hH7.jA mY ⟨hH7.lt,I⟩;have pV:=Xc.trans (mY.mono (fun k (hk:k<w.heap.size)=>⟨ao hk Xc.size,I⟩)).below;obtain⟨st,p5⟩:∃st,st=absorb M H0 q:=⟨_,rfl⟩;have azY:st.length=8:=by rw[p5];exact sW M H0 q
         rw[<-p5]at nh;have oW:Fj st 32=Pk l:=by
          have e1:M.length / 64=q:=by rw[HMl.out,Hq.out]
          rw[p5,<-e1,amr.out];rfl
         have wo:=jU.mk oW;clear oW p5 hMr ag0 mY nG eiq Nj hM7 hH7 Xc amr;have ac9:=yf
         go_wp2_with fail
         clear ac9;have hO:=U.mk wr (nA.map (Value.int .u8)) 31;have hKo:Below wr.heap.size wr (wr.alloc (.cells (nA.map (Value.int .u8)).toArray 31)):=(Below.refl _ _).alloc (aj _) _;generalize World.alloc _ _=w8 at hO hKo ⊢;have hO8:lq .u8 31 w8 wr.heap.size (Fj st 0):=hO;have Kd:=nh.below hKo nh.lt;have hH8:=Kc.below hKo Kc.lt;have DP:=pV.kj hKo;have hBO:=nh.lt;have hHO:=Kc.lt;clear hO hKo nh Kc pV;generalize wr.heap.size=BO at hO8 hBO hHO ⊢
         go_loopw [10] (fun c wr=>∃i:Nat,i<=32/\c=.int .i64 i/\lq .u8 31 wr BO (Fj st i)/\Z (fun k=>k≠BO) w8 wr) (fun c _=>32 - (intOf c).toNat)
         case atStart=>exact⟨0,I,rfl,hO8,Z.refl _ _⟩
         case round=>
          clear hO8;obtain⟨i,hi,rfl,hOr,mY⟩:=hrel;have hol:=uY st i
          by_cases aAg:i<32
          ·have nh:=Kd.jA mY I
           have c0:=nh.cell (i / 4) I;have c1:=hOr.cell i I;have f1:=hOr.free i;have b4:(i:Int) / 4<8:=I;have b5:(i:Int) % 4<=3:=I;have b6:0<=(i:Int) % 4:=I
           go_wp2_with fail
           go_roundw
           case rel=>exact⟨i+1,I,by go_num,hOr.set _ _,mY.setCell (fun h=>h rfl) _⟩
           case measure=>simp[intOf];omega
          ·have e9:i=32:=I
           have aAn:decide ((i:Int)<32)=false:=ar I;rw[e9,wo.out]at hOr;clear e9;obtain⟨hh,Ae⟩:∃hh,hh=Pk l:=⟨_,rfl⟩;rw[<-Ae]at hOr;have vO:hh.length=32:=by rw[Ae];exact uY _ _
           have Xo:=jU.mk Ae;have Kc:=hH8.jA mY I;have FN:=DP.trans (mY.mono (fun k (hk:k<w.heap.size)=>by omega)).below;have hgO:wr.heap[BO]? = some (.cells (hh.map (Value.int .u8)).toArray 31 (0,0)):=hOr;have hgH:wr.heap[w.heap.size]? = some (.cells (nA.map (Value.int .u8)).toArray 31 (0,0)):=Kc;have J1:(prog.info? 31).map (·.size)=some (hh.map (Value.int .u8)).toArray.size:=by
            rw[cH,aB,vO];kernel_rfl
           have alF:(nA.map (Value.int .u8)).toArray.size=(hh.map (Value.int .u8)).toArray.size:=by
            rw[cH,aB,cH,aB,vO];rfl
           have m9:(hh.map (Value.int .u8)).toArray.all (·.oneCell')=true:=by simp[Value.oneCell']
           have HgO:=jU.mk hgO;have HgH:=jU.mk hgH;have DE:=jU.mk J1;have asQ:=jU.mk alF;have Fu:=jU.mk m9;clear Ae hOr Kc hH8 Kd DP mY hgO hgH J1 alF m9 hol vO wo
           go_wp2_with (first|(refine gz rfl 31 (.tmp 9) rfl BO rfl 31 (hh.map (Value.int .u8)).toArray (0,0) _ HgO.out dX rfl DE.out ?_)|(refine bV rfl 31 (.tmp 2) (.tmp 72) rfl w.heap.size (hh.map (Value.int .u8)).toArray rfl rfl 31 (nA.map (Value.int .u8)).toArray HgH.out DE.out asQ.out Fu.out ?_))
           refine c_ (dE rfl _ _ w.heap.size 31 (hh.map (Value.int .u8)).toArray (0,0) _ rfl (cI _ _ _ _ _ _ HgH.out) dX rfl DE.out) rfl ⟨by rw[Xo.out],?_⟩;exact below_setRow FN (aj _) _
    ·have ht:(((n:Int) % 64) != 56)=true:=by
      have:¬n % 64=56:=fun h=>hzp ((Gb l.length z hz).1 (by rw[<-yu];exact h));rw[bne_iff_ne];omega
     have azR:z<r9 l.length:=I;have OQ:(M0++zs z).length=n:=by rw[af,al1.out,yu];simp[zs]
     have HMl:=jU.mk OQ;clear OQ yu hzp
     go_wp2_with (refine zX rfl (.tmp 20) (.tmp 21) 158 rfl Cf (w.heap.size+1) _ (M0++zs z) rfl (lx.alloc _) _ [0] rfl (Sl.one .u8 wr 0 5) (n+1) ?g1 ?g2 ?g3 ?g4 ?g5)
     case g1=>rw[HMl.out];rfl
     case g2=>unfold maxLen;omega
     case g3=>omega
     case g4=>simp;omega
     case g5=>
      intro Ah c5 w5 qv oM;have tD:qt .u8 5 w5 (w.heap.size+1) (.slice Ah (n+1) c5) (M0++zs (z+1)):=by
       have e:M0++zs (z+1)=M0++(zs z++[0]):=by unfold zs;rw[List.replicate_succ']
       rw[e];first|exact qv|(rw[<-av];exact qv)
      have o_:=(uy.trans ((Z.refl _ wr).alloc (fun k (hk:k<w.heap.size+1)=>by omega) _)).trans oM;clear qv oM lx uy XJ
      go_wp2_with fail
      go_roundw
      case rel=>exact⟨z+1,n+1,Ah,c5,I,by rw[Hn1.out];rfl,rfl,tD,o_⟩
      case measure=>simp[lenOf];omega
theorem af7 (a b:List Int)(hl:a.length=b.length)(h:∀i,i<a.length->nth a i=nth b i): a=b:=by
 apply ew hl;intro i h1 h2;have:=h i h1
 simpa[nth,h1,h2] using this
theorem aaQ (st:List Int)(n i:Nat)(hi:i<n)(hn:n<=32): nth (Fj st n) i=nth st (i / 4) / 2 ^ (24 - 8*(i % 4)) % 256:=by
 induction n with
 | zero=>omega
 | succ n ih=>
  rw[Fj]
  by_cases h:i=n
  ·subst h;exact tj _ _ _ (by rw[uY];omega)
  ·rw[rJ _ _ _ _ h];exact ih I I
theorem Qw (st:List Int)(n i:Nat)(hi:i<4*n)(hn:n<=8): nth (Ab st n) i=nth st (i / 4) / 2 ^ (24 - 8*(i % 4)) % 256:=by
 induction n with
 | zero=>omega
 | succ n ih=>
  rw[Ab];have hl:=vD st n
  by_cases h3:i=4*n+3
  ·subst h3
   rw[tj _ _ _ (by simp[hl];omega),show(4*n+3) / 4=n from by omega,show(4*n+3) % 4=3 from by omega];simp
  ·rw[rJ _ _ _ _ h3]
   by_cases h2:i=4*n+2
   ·subst h2
    rw[tj _ _ _ (by simp[hl];omega),show(4*n+2) / 4=n from by omega,show(4*n+2) % 4=2 from by omega]
    rfl
   ·rw[rJ _ _ _ _ h2]
    by_cases h1:i=4*n+1
    ·subst h1
     rw[tj _ _ _ (by simp[hl];omega),show(4*n+1) / 4=n from by omega,show(4*n+1) % 4=1 from by omega]
     rfl
    ·rw[rJ _ _ _ _ h1]
     by_cases h0:i=4*n
     ·subst h0
      rw[tj _ _ _ (by simp[hl];omega),show(4*n) / 4=n from by omega,show(4*n) % 4=0 from by omega]
      rfl
     ·rw[rJ _ _ _ _ h0];exact ih I I
theorem af0 (st:List Int): Fj st 32=Ab st 8 :=
 af7 _ _ (by rw[uY,vD]) (fun i hi=>by
  rw[uY]at hi;rw[aaQ st 32 i hi (aj _),Qw st 8 i I (aj _)])
theorem Eo (a b:List Int)(i:Nat)(h:i<a.length): nth (a++b) i=nth a i:=by
 simp[nth,aZ h]
theorem yw (a b:List Int)(i:Nat)(h:a.length<=i): nth (a++b) i=nth b (i - a.length):=by
 simp[nth,aE h]
theorem EA (a:List Int)(n i:Nat): nth (a.drop n) i=nth a (n+i):=by simp[nth]
theorem Zl (n i:Nat): nth (zs n) i=0:=by
 unfold nth zs
 by_cases h:i<n
 ·simp[h]
 ·simp[aM (show(List.replicate n (0:Int)).length<=i by simp;omega)]
theorem Vf (a b:List Int)(n:Nat)(hn:n<=16)(h:∀i,i<64->nth a i=nth b i): load a n=load b n:=by
 induction n with
 | zero=>rfl
 | succ n ih=>
  rw[load,load,ih I];unfold aaq;rw[h _ I,h _ I,h _ I,h _ I]
theorem Kl (kk a b st:List Int)(h:∀i,i<64->nth a i=nth b i): compress kk a st=compress kk b st:=by
 unfold compress;rw[Vf a b 16 (aj _) h]
theorem Fh (a b st:List Int)(e:Nat)(h:∀i,i<64*e->nth a i=nth b i): absorb a st e=absorb b st e:=by
 induction e with
 | zero=>rfl
 | succ e ih=>
  rw[absorb,absorb,ih (fun i hi=>h i I)];exact Kl _ _ _ _ (fun i hi=>by rw[EA,EA];exact h _ I)
theorem VT (a st:List Int)(j e:Nat): absorb a st (j+e)=absorb (a.drop (64*j)) (absorb a st j) e:=by
 induction e with
 | zero=>rfl
 | succ e ih=>
  rw[<-gm,absorb,absorb,ih,fg,jv]
theorem aa4 (n i t:Nat)(h:t<i): nth (lenB n i) t=(n:Int)*8 / 2 ^ (8*(7 - t)) % 256:=by
 induction i with
 | zero=>omega
 | succ i ih=>
  rw[lenB]
  by_cases ht:t<i
  ·rw[Eo _ _ _ (by rw[tz];exact ht)];exact ih ht
  ·have:t=i:=I
   subst this;rw[yw _ _ _ (by rw[tz];exact aj _),tz,gE]
   rfl
theorem V3 (p:List Int)(E n i x:Nat)(hE:E<=p.length)(hi:i<=E):
  nth (uf p E n i) x=if E - i<=x/\x<E then(n:Int)*8 / 2 ^ (8*(E - 1 - x)) % 256 else nth p x:=by
 induction i with
 | zero=>rw[aa I];rfl
 | succ i ih=>
  rw[uf]
  by_cases hx:x=E - 1 - i
  ·rw[ag I,hx,tj _ _ _ (by rw[yr];omega)]
   rw[show E - 1 - (E - 1 - i)=i from by omega]
  ·rw[rJ _ _ _ _ hx,ih I]
   by_cases h1:E - i<=x/\x<E
   ·rw[ag h1,ag I]
   ·rw[aa h1,aa I]
theorem Gp (n:Nat): (zs n).length=n:=by simp[zs]
theorem ME (l:List Int): (rS l).length=l.length+1+r9 l.length+8:=by
 unfold rS;rw[af,af,af,tz,Gp];rfl
theorem ML (l:List Int)(y:Nat)(h:y<l.length): nth (rS l) y=nth l y:=by
 unfold rS;rw[av,av,Eo _ _ _ h]
theorem Zj (l:List Int)(y:Nat)(h:y=l.length): nth (rS l) y=128:=by
 unfold rS;rw[av,av,yw _ _ _ I,h,gE];rfl
theorem Uo (l:List Int)(y:Nat)(h:l.length<y)(h2:y<l.length+1+r9 l.length): nth (rS l) y=0:=by
 unfold rS;have h1:(l++[128]).length=l.length+1:=jM;rw[av (l++[128]),yw _ _ _ I,Eo _ _ _ (by rw[Gp];omega),Zl]
theorem WR (l:List Int)(y t:Nat)(h:y=l.length+1+r9 l.length+t)(ht:t<8): nth (rS l) y=(l.length:Int)*8 / 2 ^ (8*(7 - t)) % 256:=by
 unfold rS;have h1:(l++[128]++zs (r9 l.length)).length=l.length+1+r9 l.length:=by rw[af,Gp];simp
 rw[yw _ _ _ I,h1,h,eB,aa4 _ _ _ ht]
theorem agq (l:List Int): Pk l=sJ l:=by
 have Bb:(l.drop (64*(l.length / 64))).length=l.length % 64:=by rw[aQ];omega
 have oR:=ME l;have aia:∀i,i<=l.length / 64->absorb (rS l) H0 i=absorb l H0 i:=fun i hi=>
  Fh _ _ _ _ (fun x hx=>ML l x I)
 have key:∀e,(rS l).length / 64=l.length / 64+e->e<=2->l.length % 64+1+r9 l.length+8=64*e->
   Pk l=Ab (absorb (uf ((l.drop (64*(l.length / 64))++List.replicate (128 - l.length % 64) 0).set (l.length % 64) 128) (64*e) l.length 8) (absorb l H0 (l.length / 64)) e) 8:=by
  intro e he FW hlen;unfold Pk;rw[af0,he,VT,aia _ (aj _)]
  congr 1
  refine Fh _ _ _ _ (fun x hx=>?_);obtain⟨rl,akV⟩:∃rl,rl=l.drop (64*(l.length / 64)):=⟨_,rfl⟩;have hrx:∀y,nth rl y=nth l (64*(l.length / 64)+y):=fun y=>by rw[akV,EA]
  rw[<-akV]at Bb ⊢;have uR:(rl++List.replicate (128 - l.length % 64) (0:Int)).length=128:=by
   rw[af,Bb,List.length_replicate];omega
  rw[EA,V3 _ _ _ _ _ (by rw[aI,uR];omega) I]
  by_cases h1:x<l.length % 64
  ·rw[aa I,rJ _ _ _ _ I,Eo _ _ _ (by rw[Bb];exact h1),hrx]
   exact ML l _ I
  ·by_cases h2:x=l.length % 64
   ·rw[aa I,h2,tj _ _ _ (by rw[uR];omega)]
    exact Zj l _ I
   ·by_cases h3:x<64*e - 8
    ·rw[aa I,rJ _ _ _ _ h2,yw _ _ _ (by rw[Bb];omega),Uo l _ I I]
     exact(Zl _ _).symm
    ·rw[ag I,WR l _ (x - (64*e - 8)) I I,show 7 - (x - (64*e - 8))=64*e - 1 - x from by omega]
 unfold sJ;simp only[Bb]
 by_cases YM:56<=l.length % 64
 ·rw[ag YM]
  exact key 2 (by unfold r9 at oR;omega) I (by unfold r9;omega)
 ·rw[aa YM]
  exact key 1 (by unfold r9 at oR;omega) I (by unfold r9;omega)
theorem VE (st:List Int): ∀i,i<32->0<=nth (Ab st 8) i/\nth (Ab st 8) i<=255:=by
 intro i hi;rw[Qw st 8 i I (aj _)];omega
theorem V7 (l:List Int): ∀i,i<32->0<=nth (sJ l) i/\nth (sJ l) i<=255:=VE _
theorem abn (v:Value)(l:List Int)(w:World)(hv:Sl .u8 w v l)(hn:l.length<=35184372088832):
  Calls prog 152 #[v] w fun e w'=>e=.returned (.agg ((sJ l).map (Value.int .u8)).toArray)/\Below w.heap.size w w':=by
 rw[<-agq];exact Tk v l w hv hn
theorem Zk (v:Value)(l:List Int)(w:World)(hv:Sl .u8 w v l)(hn:l.length<=35184372088832):
  Calls prog 157 #[v] w fun e w'=>e=.returned (.agg ((sJ l).map (Value.int .u8)).toArray)/\Below w.heap.size w w' :=
 aeZ v l w hv I
end Dig
theorem Pe {P:Program}(w:World){e:TypeId}{k:IntKind}(he:P.underlying e=some (.int k))(l:List Int)(i:Nat)(hi:i<l.length):
  (part e (l.map (Value.int k)).toArray i).run P w=.ok (.int k (nth l i)) w:=by
 have SN:(isAgg e).run P w=.ok false w:=by
  unfold isAgg;rw[bK,bR he w];rfl
 have hc:(l.map (Value.int k)).toArray[i]? = some (.int k (nth l i)):=by simp[nth,hi]
 simp[part,bK,SN,hc]
theorem Fs {P:Program}(w:World)(d:Nat){e:TypeId}{k:IntKind}(he:P.underlying e=some (.int k))(xs ys:List Int):
  ∀is:List Nat,(∀i∈is,i<xs.length/\i<ys.length)->(Op.eqItems (d+1) e 1 (xs.map (Value.int k)).toArray (ys.map (Value.int k)).toArray is).run P w=.ok (is.all fun i=>nth xs i == nth ys i) w
 | [],_=>by simp[Op.eqItems]
 | i::is,h=>by
  obtain⟨h1,h2⟩:=h i jM;have ih:=Fs w d he xs ys is (fun j hj=>h j (by simp[hj]));simp only[Op.eqItems,bK,cJ,Pe w he xs i h1,Pe w he ys i h2,bG,iN w d e k k (nth xs i) (nth ys i) he,jm]
  by_cases hx:(nth xs i == nth ys i)=true
  ·simp[hx,ih]
  ·simp[hx]
theorem ahD (xs ys:List Int)(n:Nat)(ha:xs.length=n)(hb:ys.length=n): ((List.range n).all fun i=>nth xs i == nth ys i)=decide (xs=ys):=by
 rw[gy];simp only[bY,bX,gM,aX]
 constructor
 ·intro h
  apply ew (ha.trans hb.symm);intro i h1 h2;have:=h i I
  simpa[nth,h1,h2] using this
 ·intro h i _;rw[h]
theorem OF {P:Program}(w:World){t e:TypeId}{k:IntKind}{n:Nat}{i:TypeInfo}(hu:P.underlying t=some (.array n e))(he:P.underlying e=some (.int k))(hi:P.info? e=some i)(hs:i.size=1)(xs ys:List Int)(ha:xs.length=n)(hb:ys.length=n):
  (binOp .eql t (.agg (xs.map (Value.int k)).toArray) (.agg (ys.map (Value.int k)).toArray)).run P w=.ok (.bool (decide (xs=ys))) w:=by
 have hc:P.cellsOf e=1:=by simp[Program.cellsOf,hi,hs]
 have h1:(Op.equalIn (9999+1) t (.agg (xs.map (Value.int k)).toArray) (.agg (ys.map (Value.int k)).toArray)).run P w=.ok (decide (xs=ys)) w:=by
  rw[run_equalIn_array w 9999 _ _ hu hi,hc,Fs w 9998 he xs ys (List.range n) (fun j hj=>by simp at hj;omega),ahD xs ys n ha hb]
 have hg:(binOp .eql t (.agg (xs.map (Value.int k)).toArray) (.agg (ys.map (Value.int k)).toArray)).run P w=((Op.equalIn 10000 t (.agg (xs.map (Value.int k)).toArray) (.agg (ys.map (Value.int k)).toArray)).run P w).andThen fun b w'=>.ok (.bool b) w':=ja w t _ _;rw[hg,h1];rfl
namespace K
abbrev kT (h:oK):kL:=h.map (Value.int .u8)
theorem PU (a b:oK)(ha:a.length=32)(hb:b.length=32)(W:World): (binOp .eql 31 (.agg (kT a).toArray) (.agg (kT b).toArray)).run prog W=.ok (.bool (decide (a=b))) W:=by
 have hq:(prog.info? 5).map (fun i=>(i.zero,i.size,i.bytes))=some (some (.int .u8 0),1,1):=jG;obtain⟨ie,Dg,he⟩:=cY.1 hq;obtain⟨-,FW⟩:=ic he;exact OF W dX underlying5 Dg (ic FW).1 a b ha hb
theorem UZ (x y:Operand)(a b:Array Value)(W:World): (eqGuard .eql 31 x y (.agg a) (.agg b)).run prog W=.ok () W:=by
 have h:prog.eqGuardType prog.depth 31=false:=jG;simp[eqGuard,h]
section
variable {n:NN}{Q:Exit->Act->World->Prop}{l:Env}{w w':World}{ops:Array Oper}{o:Oper}{rest:List Oper}{d:Nat}
theorem WL.alQ {x y:Operand}{t2:Nat}{a b:oK}(hg:o.guard=none)(hd:o.dst=some d)(hn:Nat.blt d n.n=true)(ho:o.op=.binOp .eql 31 x y t2)(hx:kS l x=some (.agg (kT a).toArray))(hy:kS l y=some (.agg (kT b).toArray))(ha:a.length=32)(hb:b.length=32)(h:WL n ops Q rest ((d,.bool (decide (a=b)))::l) w): WL n ops Q (o::rest) l w :=
 WL.step hg hd hn (fun c hc=>by
  unfold execOp;rw[ho];simp only[hc.eval hx,hc.eval hy,bK,UZ,bG,PU a b ha hb w]
  rfl) h
end
theorem aa9 {v:Value}(hv:Sl .u8 w v l)(hn:l.length<=17592186044416):
  Calls prog 146 #[v] w fun e w'=>e=.returned (.agg (kT (Dig.sJ (0::l))).toArray)/\jP w w':=by
 apply kq func146 ntmps146;apply G _;refine jJ (z:=.agg (kT Dig.nA).toArray) (Dig.yf) fun g w1 hf=>?_;have lj:kJ w g w1 31 (kT Dig.nA):=hf;clear hf;have hz:=lj.size;have he:=lj.eq;apply G _;refine WL.lit rfl rfl rfl rfl rfl rfl rfl fun b2 w2 kK mW nK=>?_;have nQ:=lj.below.trans (mW.mono I);apply G _;refine kW (hb:=(by simp only[ak,aL];omega)) kK (hv.jw nQ) fun b3 w3 lC oS=>?_;have oN:=mW.trans (oS.old mW.size nK);apply kH func157 (Dig.Zk b3 _ w3 lC.sl (by rw[af];simp only[ak,aL];omega));rintro w4 pA
 have Tq:=oN.kj pA;have B4:=lj.blk.below Tq lj.blk.lt;have hlen:(kT (Dig.sJ (0::l))).length=32:=by rw[aB];exact Dig.qC _
 apply jE (hm:=hlen) (hold:=(by rfl)) B4 (lY.int _ _);apply G _;exact WQ.vJ rfl rfl rfl hlen (B4.setRow _) ⟨rfl,below_setRow (lj.below.trans (Tq.mono I)) I _⟩
def mz (v:V):oK:=if(mJ v).2≠0 then Dig.nA else Dig.sJ (0::(mJ v).1)
theorem rT (v:V): (mz v).length=32:=by unfold mz;split;rfl;exact Dig.qC _
def Pz (w:World)(v:V)(e:Ending)(w':World):Prop:=e=.returned (.tuple #[.agg (kT (mz v)).toArray,Iq (mJ v).2])/\jP w w'
theorem aaN {v:V}(h:mj f w v cs)(hlen:chk 16 v=0->(encV 16 v).length<=70368744177664):
  Calls prog 119 #[.agg cs.toArray] w (Pz w v):=by
 have hcs:=h.len;apply kq (args:=[.agg cs.toArray]) func119 ntmps119;apply G _;refine jO fun g w1 hf=>?_;have lj:kJ w g w1 25 cs:=hf;clear hf;refine jJ (z:=.agg (kT Dig.nA).toArray) (Dig.yf) fun g2 w2 mK=>?_;have mI:kJ w1 g2 w2 31 (kT Dig.nA):=mK;clear mK;have CN:=lj.size;have yD:=mI.size;have he1:=lj.eq;have FW:=mI.eq;have nQ:=lj.below.trans (mI.below.mono I);have B1:=lj.blk.below mI.below lj.blk.lt;apply G _;apply jy (U.rangeAt B1) hcs;apply jx func123 (JZ (h.below nQ) hlen);rintro _ w3 ⟨b,rfl,hb,oN,-⟩;refine⟨_,rfl,?_⟩;have pE:=nQ.trans (oN.mono I);have Ak:=mI.blk.below oN mI.blk.lt;have SH:=oN.size
 by_cases he:(mJ v).2=0
 ·have hR:mz v=Dig.sJ (0::(mJ v).1):=by unfold mz;rw[aa (by simpa using he)]
  have Mt:=(yY he).2.1;rw[<-(yY he).2.2]at Mt;apply G _;apply kH func146 (aa9 hb.sl I);rintro w4 pA
  have Ar:(kT (Dig.sJ (0::(mJ v).1))).length=32:=by rw[aB];exact Dig.qC _
  have B24:=Ak.below pA Ak.lt;apply jE (hm:=Ar) (hold:=(by rfl)) B24 (lY.int _ _);apply G _;exact WQ.xG rfl rfl rfl rfl Ar (B24.setRow _) ⟨by rw[hR,he],below_setRow (pE.trans (pA.mono I)) I _⟩
 ·have hR:mz v=Dig.nA:=by unfold mz;rw[ag he]
  apply G _;apply jR (kT Dig.nA) jG;apply G _;apply jE (hm:=(by rfl)) (hold:=(by rfl)) Ak (lY.int _ _);apply G _;exact WQ.xG rfl rfl rfl rfl (by rfl) (Ak.setRow _) ⟨by rw[hR];rfl,below_setRow pE I _⟩
structure En where
 kind:Int
 text:lD
 table:Int
 doc:Int
 kA:Int
 data:V
 hash:oK
 gone:Bool
 ab:Int
 ae:Int
def kQ:En:=⟨0,kZ,0,0,0,zV,Dig.nA,false,0,0⟩
structure Bk where
 index:Int
 time:Int
 tM:Int
 prev:oK
 jH:List En
def noB:Bk:=⟨0,0,0,Dig.nA,[]⟩
def oY (e:En):Prop:=e.text.size=0/\e.table=0/\e.doc=0/\e.kA=0/\e.data=zV/\e.hash=Dig.nA/\e.gone=false/\e.ab=0/\e.ae=0
def lQ (e:En):Prop :=
 if e.kind=1 then 1<=e.text.size/\e.text.size<=4096/\oY { e with text:=kZ }
 else if e.kind=2 then(1<=e.table/\e.table<=64)/\(1<=e.doc/\e.doc<=65536)/\(0<=e.kA/\e.kA<=2147483648)/\oY { e with data:=zV,hash:=Dig.nA,gone:=false,table:=0,doc:=0,kA:=0 }/\(e.gone=true->e.data=zV)
 else if e.kind=3 then(1<=e.table/\e.table<=64)/\(1<=e.doc/\e.doc<=65536)/\(1<=e.kA/\e.kA<=2147483648)/\oY { e with table:=0,doc:=0,kA:=0 }
 else if e.kind=4 then(0<=e.ab/\e.ab<=2147483648)/\(0<=e.ae/\e.ae<=2147483648)/\oY { e with ab:=0,ae:=0 }
 else if e.kind=5\/e.kind=7 then(1<=e.table/\e.table<=64)/\1<=e.text.size/\e.text.size<=40/\oY { e with table:=0,text:=kZ }
 else if e.kind=6 then(1<=e.table/\e.table<=64)/\oY { e with table:=0 }
 else False
open Classical in
noncomputable def m4 (e:En):Int :=
 if lQ e then(if e.kind≠2\/e.gone=true then 0 else if(mJ e.data).2≠0 then(mJ e.data).2 else if mz e.data=e.hash then 0 else 18) else 3
def qN (e:En):oK :=
 e.kind::(lK e.table.toNat++(lK e.doc.toNat++(lK e.kA.toNat++(lK e.text.size++(yI e.text++(lK e.ab.toNat++(lK e.ae.toNat++(if e.kind=2 then e.hash else[]))))))))
def qG (data:Bool)(e:En):oK :=
 if e.kind=2 then(if e.gone=true\/data=false then[0] else 1::(lK (mJ e.data).1.length++(mJ e.data).1)) else[]
def uz (b:Bk):oK:=lK b.index.toNat++(lK b.time.toNat++(lK b.tM.toNat++b.prev))
def zW (data:Bool)(b:Bk):oK:=uz b++(lK b.jH.length++b.jH.flatMap fun e=>qN e++qG data e)
noncomputable def qL (b:Bk):Int :=
 if(0<=b.index/\b.index<=2147483648)/\(0<=b.time/\b.time<=9007199254740992)/\(0<=b.tM/\b.tM<=9007199254740992)/\(1<=b.jH.length/\b.jH.length<=200) then
  (if firstBad (b.jH.map m4)≠0 then firstBad (b.jH.map m4) else if 262144<(zW true b).length then 5 else 0) else 1
theorem wH {e:En}(h:lQ e): (1<=e.kind/\e.kind<=7)/\(0<=e.table/\e.table<=64)/\(0<=e.doc/\e.doc<=65536)/\(0<=e.kA/\e.kA<=2147483648)/\e.text.size<=4096/\(0<=e.ab/\e.ab<=2147483648)/\(0<=e.ae/\e.ae<=2147483648)/\
  (e.kind≠2->e.data=zV/\e.hash=Dig.nA/\e.gone=false)/\(e.gone=true->e.data=zV):=by
 unfold lQ oY at h
 by_cases k1:e.kind=1
 ·rw[ag k1]at h
  obtain⟨h1,h2,h3,h4,h5,h6,h7,h8,h9,Cy,Fb⟩:=h;simp only at h3 h4 h5 h6 h7 h8 h9 Cy Fb;exact⟨I,I,I,I,I,I,I,fun _=>⟨h7,h8,h9⟩,fun h=>by rw[h9]at h;cases h⟩
 rw[aa k1]at h
 by_cases k2:e.kind=2
 ·rw[ag k2]at h
  obtain⟨a1,a2,a3,⟨h3,h4,h5,h6,h7,h8,h9,Cy,Fb⟩,h12⟩:=h;simp only at h3 h4 h5 h6 h7 h8 h9 Cy Fb;exact⟨I,I,I,I,I,I,I,fun h=>absurd k2 h,h12⟩
 rw[aa k2]at h
 by_cases k3:e.kind=3
 ·rw[ag k3]at h
  obtain⟨a1,a2,a3,h3,h4,h5,h6,h7,h8,h9,Cy,Fb⟩:=h;simp only at h3 h4 h5 h6 h7 h8 h9 Cy Fb;exact⟨I,I,I,I,I,I,I,fun _=>⟨h7,h8,h9⟩,fun h=>by rw[h9]at h;cases h⟩
 rw[aa k3]at h
 by_cases k4:e.kind=4
 ·rw[ag k4]at h
  obtain⟨a1,a2,h3,h4,h5,h6,h7,h8,h9,Cy,Fb⟩:=h;simp only at h3 h4 h5 h6 h7 h8 h9 Cy Fb;exact⟨I,I,I,I,I,I,I,fun _=>⟨h7,h8,h9⟩,fun h=>by rw[h9]at h;cases h⟩
 rw[aa k4]at h
 by_cases k5:e.kind=5\/e.kind=7
 ·rw[ag k5]at h
  obtain⟨a1,h1,h2,h3,h4,h5,h6,h7,h8,h9,Cy,Fb⟩:=h;simp only at h3 h4 h5 h6 h7 h8 h9 Cy Fb;exact⟨I,I,I,I,I,I,I,fun _=>⟨h7,h8,h9⟩,fun h=>by rw[h9]at h;cases h⟩
 rw[aa k5]at h
 by_cases k6:e.kind=6
 ·rw[ag k6]at h
  obtain⟨a1,h3,h4,h5,h6,h7,h8,h9,Cy,Fb⟩:=h;simp only at h3 h4 h5 h6 h7 h8 h9 Cy Fb;exact⟨I,I,I,I,I,I,I,fun _=>⟨h7,h8,h9⟩,fun h=>by rw[h9]at h;cases h⟩
 rw[aa k6]at h;exact h.elim
theorem NQ {e:En}(h:m4 e=0): lQ e/\(e.kind=2->e.gone=false->(mJ e.data).2=0/\mz e.data=e.hash):=by
 unfold m4 at h
 by_cases hf:lQ e
 ·rw[ag hf]at h
  refine⟨hf,fun hk hg=>?_⟩;rw[aa (by simp[hk,hg])]at h
  by_cases h2:(mJ e.data).2=0
  ·rw[aa (by simpa using h2)]at h
   by_cases h3:mz e.data=e.hash
   ·exact⟨h2,h3⟩
   ·rw[aa h3]at h;cases h
  ·rw[ag h2]at h;exact absurd h h2
 ·rw[aa hf]at h;cases h
def atw (e:En):Prop:=(∃f,Rng f e.data)/\e.hash.length=32
end K
namespace Vw
open K (En Bk zV)
open Cat (Tb mu oV kM)
structure Rw where
 m5:Int
 doc:Int
 kA:Int
 data:V
 gone:Bool
 del:Bool
 blk:Int
 pH:Int
 sC:Int
def kE:Rw:=⟨0,0,0,zV,false,false,0,0,0⟩
abbrev Rw.key (r:Rw):Int×Int:=(r.m5,r.doc)
abbrev Rw.nD (r:Rw):Int×Int:=(r.blk,r.pH)
structure St where
 cat:List Tb
 rows:List Rw
 n:Nat
 red:Int×Int->Bool
def uO:St:=⟨[],[],0,fun _=>false⟩
def of (L:List Rw)(k:Int×Int):List Rw:=L.filter fun r=>decide (r.key=k)
def j9 (t:Int)(L:List Rw):Nat:=(L.filter fun r=>decide (r.m5=t) && decide (r.kA=0)).length
def next (s:St)(t:Int):Int:=if(kM s.cat t).2.2=0 then(j9 t s.rows:Int)+1 else 0
def fits (s:St)(e:En):Bool :=
 if e.kA=0 then decide (e.doc=next s e.table)
 else match(of s.rows (e.table,e.doc)).getLast? with
  | some r=>!r.del && decide (r.kA+1=e.kA)
  | none=>false
def rowOf (e:En)(bi k sC:Int):Rw:=⟨e.table,e.doc,e.kA,e.data,e.gone,decide (e.kind=3),bi,k,sC⟩
def zD (s:St)(a:Int×Int)(r:Rw):Bool:=decide (r.blk=a.1) && decide (r.pH=a.2) && !r.del && !s.red a
def shut (r:Rw):Rw:={ r with gone:=true,data:=zV }
def yE (f:Int×Int->Bool)(a:Int×Int):Int×Int->Bool:=fun x=>if x=a then true else f x
def entR (s:St)(e:En)(bi k sC:Int):Int×St :=
  if mu s.cat e.kind e.text e.table≠0 then(mu s.cat e.kind e.text e.table, s)
  else if e.kind=2\/e.kind=3 then
    (if(kM s.cat e.table).2.2≠0\/(kM s.cat e.table).2.1.dropped=true\/fits s e=false then(3, s)
     else(0, { s with rows := s.rows++[rowOf e bi k sC]}))
  else if e.kind=4 then
    (match s.rows.findIdx? (zD s (e.ab, e.ae)) with
     | some i=>(0, { s with rows := s.rows.set i (shut (s.rows.getD i kE)), red := yE s.red (e.ab, e.ae)})
     | none=>(3, s))
  else(0, { s with cat := oV s.cat e.kind e.text e.table })
def runR (b:Bk):List En->Nat->St->Int×St
 | [],_,s=>(0,s)
 | e::r,k,s=>if(entR s e b.index k b.time).1=0 then runR b r (k+1) (entR s e b.index k b.time).2 else((entR s e b.index k b.time).1,(entR s e b.index k b.time).2)
open Classical in
noncomputable def mX (s:St)(b:Bk):Int×St :=
 if b.index≠s.n then(3,s) else if K.qL b≠0 then(K.qL b,s)
 else if(runR b b.jH 0 s).1=0 then(0,{ (runR b b.jH 0 s).2 with n:=s.n+1 }) else((runR b b.jH 0 s).1,s)
theorem lR {l:List α}{d:α}(h:i<l.length): l.getD i d=l[i]:=by rw[ah,ai h];rfl
theorem Ww {L:List Rw}{k:Int×Int}(hi:i<L.length)(hk:(L.getD i kE).key=k)(hn:∀j,i<j->j<L.length->(L.getD j kE).key≠k): (of L k).getLast? = some (L.getD i kE):=by
 have e:L=L.take i++(L.getD i kE::L.drop (i+1)):=by
  rw[lR hi,<-bI hi,aO]
 have hd:(L.drop (i+1)).filter (fun r=>decide (r.key=k))=[]:=by
  rw[cZ];intro r hr;obtain⟨j,hj,rfl⟩:=cT.1 hr;rw[aQ]at hj;have:=hn (i+1+j) I I;rw[lR I]at this;simp only[ib,aX];exact this
 unfold of;rw[e,cm,cM,ag (by simpa using hk),hd,<-e];simp
theorem UK {L:List Rw}{k:Int×Int}(hn:∀j,j<L.length->(L.getD j kE).key≠k): of L k=[]:=by
 unfold of;rw[cZ];intro r hr;obtain⟨j,hj,rfl⟩:=cT.1 hr;have:=hn j hj;rw[lR hj]at this
 simpa using this
theorem abr {L:List Rw}{t:Int}(hi:i<L.length): j9 t (L.take (i+1))=j9 t (L.take i)+if(L.getD i kE).m5=t/\(L.getD i kE).kA=0 then 1 else 0:=by
 unfold j9;rw[aK,ai hi,lR hi,cm,af]
 congr 1
 simp only[dm,cM,List.filter_nil]
 by_cases h:L[i].m5=t/\L[i].kA=0
 ·rw[ag (by simpa using h),ag h];rfl
 ·rw[aa (by simpa using h),aa h];rfl
theorem uZ (t:Int)(L:List Rw): j9 t L<=L.length:=dN _ _
theorem ag7 (t:Int)(L:List Rw)(_h:i<=L.length): j9 t (L.take i)<=i:=by
 have:=uZ t (L.take i);rw[aC]at this;omega
def AS (s:St)(t:Int):Bool:=decide ((kM s.cat t).2.2=0) && !(kM s.cat t).2.1.dropped
def lU (s:St)(k:Int×Int):Option Rw :=
 if AS s k.1=true then(match(Vw.of s.rows k).getLast? with|some r=>if r.del=false/\r.gone=false then some r else none|none=>none) else none
def nT (s:St)(t:Int):List Rw:=(List.range (j9 t s.rows)).filterMap fun(i:Nat)=>lU s (t,(i:Int)+1)
def tf (s:St)(t:Int):List Rw:=(List.range (j9 t s.rows)).flatMap fun(i:Nat)=>Vw.of s.rows (t,(i:Int)+1)
theorem ZE (s:St)(e:En)(bi k sC:Int): (entR s e bi k sC).2.n=s.n:=by
 unfold entR
 split
 ·rfl
 ·split
  ·split<;>rfl
  ·split
   ·split<;>rfl
   ·rfl
theorem LB (b:Bk):∀(l:List En) (k:Nat) (s:St),(runR b l k s).2.n=s.n
 | [],_,_=>rfl
 | e::r,k,s=>by
  unfold runR
  split
  ·rw[LB b r];exact ZE _ _ _ _ _
  ·exact ZE _ _ _ _ _
theorem Z0 {b:Bk}{l:List En}{k:Nat}{s t:St}{c:Int}(h:runR b l k s=(c,t)): t.n=s.n:=by
 have:=LB b l k s;rw[h]at this;exact this
end Vw
namespace K
abbrev lV (x:Int):Prop:=-9223372036854775808<=x/\x<=9223372036854775807
def km (e:En)(dc:kL):kL :=
 Iq e.kind::.string e.text::Iq e.table::Iq e.doc::Iq e.kA::(dc++(kT e.hash++[.bool e.gone,Iq e.ab,Iq e.ae]))
def p_ (P:V->kL->Prop)(e:En)(cs:kL):Prop :=
 ∃dc,cs=km e dc/\P e.data dc/\dc.length=6/\lY dc/\e.hash.length=32/\Byt e.hash/\e.text.size<=140737488355328/\(lV e.kind/\lV e.table/\lV e.doc/\lV e.kA/\lV e.ab/\lV e.ae)
theorem p_.mono {P P':V->kL->Prop}(hP:∀v cs,P v cs->P' v cs){e:En}(h:p_ P e cs): p_ P' e cs:=by
 obtain⟨dc,h1,h2,h3⟩:=h;exact⟨dc,h1,hP _ _ h2,h3⟩
theorem p_.len {P:V->kL->Prop}{e:En}(h:p_ P e cs): cs.length=46:=by
 obtain⟨dc,rfl,-,h1,-,h2,-⟩:=h;simp[km,h1,h2]
theorem p_.one {P:V->kL->Prop}{e:En}(h:p_ P e cs): lY cs:=by
 obtain⟨dc,rfl,-,-,h1,-⟩:=h;intro u hu;unfold km at hu;simp only[ax,au,a_,eJ]at hu;rcases hu with rfl|rfl|rfl|rfl|rfl|hu|hu|rfl|rfl|rfl
 all_goals first|rfl|exact h1 u hu|exact lY.int _ _ u hu
abbrev xM (f:Nat)(w:World):En->kL->Prop:=p_ (mj f w)
abbrev N5 (O:Nat->Prop)(f:Nat)(w:World):En->kL->Prop:=p_ (lz O f w)
def qT (b:Bk)(se:Value):kL:=Iq b.index::Iq b.time::Iq b.tM::(kT b.prev++[se])
def RW (P:En->kL->Prop)(O:Nat->Prop)(w:World)(b:Bk)(cs:kL):Prop :=
 ∃se,cs=qT b se/\m6 46 kQ P O w se b.jH/\b.prev.length=32/\Byt b.prev/\(lV b.index/\lV b.time/\lV b.tM)
theorem RW.len {P:En->kL->Prop}{b:Bk}(h:RW P O w b cs): cs.length=36:=by
 obtain⟨se,rfl,-,h2,-⟩:=h;simp[qT,h2]
theorem RW.one {P:En->kL->Prop}{b:Bk}(h:RW P O w b cs): lY cs:=by
 obtain⟨se,rfl,⟨sp,cap,rfl,-⟩,-⟩:=h;intro u hu;unfold qT at hu;simp only[ax,au,a_,eJ]at hu;rcases hu with rfl|rfl|rfl|hu|rfl
 all_goals first|rfl|exact lY.int _ _ u hu
abbrev FE (f:Nat)(w:World):Bk->kL->Prop:=RW (xM f w) (fun _=>True) w
abbrev pr (O:Nat->Prop)(f:Nat)(w:World):Bk->kL->Prop:=RW (N5 O f w) O w
theorem xM.below (hb:jP w w'){e:En}(h:xM f w e cs): xM f w' e cs:=p_.mono (fun _ _ h=>h.below hb) h
theorem FE.below (hb:jP w w'){b:Bk}(h:FE f w b cs): FE f w' b cs:=by
 obtain⟨se,h1,h2,h3⟩:=h;exact⟨se,h1,h2.jA (Z.jw hb) (fun b _ hl=>hl) nN fun _ _ h=>xM.below hb h,h3⟩
theorem U.part (h:U T w b cs)(a:kL)(m:kL)(z:kL)(e:cs=a++(m++z)): w.rangeAt b a.length m:=by
 intro j u hj;have:=U.rangeAt h (a.length+j) u (by rw[e,aE I,eB];rw[aZ];exact hj;rcases aW j m.length with h|h;exact h;rw[aM h]at hj;cases hj)
 rwa [bA]at this
theorem ace {e:En}(h:U T w b (km e dc)): w.rangeAt b 5 dc :=
 U.part h [Iq e.kind,.string e.text,Iq e.table,Iq e.doc,Iq e.kA] dc _ rfl
theorem aaG {e:En}(h:U T w b (km e dc))(hd:dc.length=6): w.rangeAt b 11 (kT e.hash):=by
 have:=U.part h (Iq e.kind::.string e.text::Iq e.table::Iq e.doc::Iq e.kA::dc) (kT e.hash) [.bool e.gone,Iq e.ab,Iq e.ae] (by simp[km])
 simpa[hd] using this
theorem Ij {e:En}(hd:dc.length=6)(hh:e.hash.length=32): (km e dc)[43]? = some (.bool e.gone)/\(km e dc)[44]? = some (Iq e.ab)/\(km e dc)[45]? = some (Iq e.ae):=by
 have h1:km e dc=(.int .i64 e.kind::.string e.text::.int .i64 e.table::.int .i64 e.doc::.int .i64 e.kA::(dc++kT e.hash))++[.bool e.gone,.int .i64 e.ab,.int .i64 e.ae]:=by simp[km]
 have h2:(Value.int IntKind.i64 e.kind::.string e.text::.int .i64 e.table::.int .i64 e.doc::.int .i64 e.kA::(dc++kT e.hash)).length=43:=by simp[hd,hh]
 rw[h1];refine⟨?_,?_,?_⟩<;>rw[aE (by omega),h2]<;>rfl
structure lT (T b:Nat) (w:World) (e:En) (dc:kL):Prop where
 blk:U T w b (km e dc)
 dl:dc.length=6
 hl:e.hash.length=32
section
variable {T b:Nat}{w w':World}{e:En}{dc:kL}
theorem lT.kind (h:lT T b w e dc): w.cell? (Aq b 0)=some (Iq e.kind):=h.blk.cell 0 (by simp[km])
theorem lT.text (h:lT T b w e dc): w.cell? (Aq b 1)=some (.string e.text):=h.blk.cell 1 (by simp[km])
theorem lT.table (h:lT T b w e dc): w.cell? (Aq b 2)=some (Iq e.table):=h.blk.cell 2 (by simp[km])
theorem lT.doc (h:lT T b w e dc): w.cell? (Aq b 3)=some (Iq e.doc):=h.blk.cell 3 (by simp[km])
theorem lT.kA (h:lT T b w e dc): w.cell? (Aq b 4)=some (Iq e.kA):=h.blk.cell 4 (by simp[km])
theorem lT.data (h:lT T b w e dc): w.rangeAt b 5 dc:=ace h.blk
theorem lT.hash (h:lT T b w e dc): w.rangeAt b 11 (kT e.hash):=aaG h.blk h.dl
theorem lT.len (h:lT T b w e dc): (km e dc).length=46:=by simp[km,h.dl,h.hl]
theorem lT.gone (h:lT T b w e dc): w.cell? (Aq b 43)=some (.bool e.gone):=by
 have:=h.blk.cell 43 (by rw[h.len];omega);rw[this,ah,(Ij h.dl h.hl).1];rfl
theorem lT.ab (h:lT T b w e dc): w.cell? (Aq b 44)=some (Iq e.ab):=by
 have:=h.blk.cell 44 (by rw[h.len];omega);rw[this,ah,(Ij h.dl h.hl).2.1];rfl
theorem lT.ae (h:lT T b w e dc): w.cell? (Aq b 45)=some (Iq e.ae):=by
 have:=h.blk.cell 45 (by rw[h.len];omega);rw[this,ah,(Ij h.dl h.hl).2.2];rfl
theorem lT.BA (h:lT T b w e dc): w.rangeAt b 44 [Iq e.ab,Iq e.ae]:=by
 intro j u hj
 match j,hj with
 | 0,hj=>cases hj;exact h.ab
 | 1,hj=>cases hj;exact h.ae
theorem lT.jA (h:lT T b w e dc){K:Nat->Prop}(hk:Z K w w')(hb:K b): lT T b w' e dc:=⟨U.jA h.blk hk hb,h.dl,h.hl⟩
theorem lT.below (h:lT T b w e dc)(hk:jP w w'): lT T b w' e dc:=⟨U.below h.blk hk h.blk.lt,h.dl,h.hl⟩
end
section
variable {n:NN}{Q:Exit->Act->World->Prop}{l:Env}{w w':World}{ops:Array Oper}{o:Oper}{rest:List Oper}{d:Nat}
theorem WL.alL {s x:Operand}{t e sz:Nat}{xp:Option Addr}{cap xc:Nat}(hg:o.guard=none)(hd:o.dst=some d)(hn:Nat.blt d n.n=true)(ho:o.op=.call { callee:=.builtin .append,args:=#[s,x],argTypes:=#[t,t]})(ht:tyOf ty t=some (.slice e sz))(hs:kS l s=some (.slice sp m cap))(hc:m<=cap)(hx:kS l x=some (.slice xp 0 xc))(h:WL n ops Q rest ((d,.slice sp m cap)::l) w): WL n ops Q (o::rest) l w :=
 WL.step hg hd hn (fun a ha=>by
  obtain⟨hu,lJ⟩:=oO.of oz ht;have RE:(sizeOf e).run prog w=.ok sz w:=by
   cases hq:prog.info? e with
   | none=>rw[hq]at lJ;cases lJ
   | some q=>rw[hq]at lJ;simp at lJ;simp[sizeOf,typeInfo,hq,lJ]
  unfold execOp;simp only[ho,resolve,invoke,builtin,bK,fJ,bG,cO,aY,dy,ha.eval hs,ha.eval hx];have my:(Builtin.append_ #[t,t] o.type #[.slice sp m cap,.slice xp 0 xc]).run prog w=.ok (.slice sp m cap) w:=by
   cases sp<;>cases xp<;>simp[Builtin.append_,bR hu,RE,Builtin.lenOf,Builtin.firstCells,hc,loadCells,loadCellsFrom,storeCells]
  rw[my]
  rfl) h
end
theorem PC {v:Value}{l:List lD}(h:AI w v l)(h0:0<l.length): ph w (fun _=>True) 1 v l.length (l.map Value.string):=by
 obtain⟨sp,cap,rfl,h1,h2,-,h4⟩:=h;obtain⟨b,o,rfl,hb,hr⟩:=h4 h0;refine⟨jM,lY.str l,_,cap,rfl,h1,h2,(fun h=>by cases h),fun _=>⟨b,o,rfl,hb,trivial,fun j hj=>?_⟩⟩;rw[aB]at hj;rw[hr j hj];simp[hj]
theorem Pw {v:Value}{l:List lD}(h:jY 9 1 w O v l.length (l.map Value.string))(hz:∀s∈l,s.size<=140737488355328): m6 1 kZ Gw O w v l:=by
 obtain⟨q1,q2,sp,cap,rfl,h4,h5,h6,h7⟩:=h.EM;refine⟨sp,cap,rfl,h4,h5,h6,fun h0=>?_⟩;obtain⟨b,o,e,hb,hO,hr⟩:=h7 h0;refine⟨b,o,e,hb,hO,fun j hj=>⟨[.string (l.getD j kZ)],rfl,⟨rfl,?_⟩,fun i u hu=>?_⟩⟩
 ·exact hz _ (by simp[hj])
 ·cases i with
  | zero=>
   have:=hr j (by simpa using hj);simp at hu
   rw[cJ,fO,this,<-hu];simp[hj]
  | succ i=>simp at hu
def Sm (B:Nat):Nat->V->Prop
 | 0,_=>False
 | f+1,v=>v.names.length<=B/\v.kids.length<=B/\∀x∈v.kids,Sm B f x
theorem Wr {B f:Nat}(ih:∀(v:V) (n:Nat),qS f v->grt B f v n<=B->n+1<=grt B f v n/\Sm B f v):∀(l:List V) (n:Nat),(∀x∈l,qS f x)->grtK B (grt B f) l n<=B->n+l.length<=grtK B (grt B f) l n/\∀x∈l,Sm B f x
 | [],n,_,_=>⟨by simp[grtK],fun x hx=>by cases hx⟩
 | k::r,n,h,hB=>by
  unfold grtK at hB ⊢
  by_cases hn:n<=B
  ·rw[ag hn]at hB ⊢
   have hle:grt B f k n<=B:=by
    rcases aW B (grt B f k n) with h1|h1
    ·rw[Ll r h1]at hB;omega
    ·exact h1
   have h1:=ih k n (h k jM) hle;have h2:=Wr ih r (grt B f k n) (fun x hx=>h x (aD _ hx)) hB;refine⟨by simp only[ak];omega,fun x hx=>?_⟩;rcases ax.1 hx with rfl|hx
   ·exact h1.2
   ·exact h2.2 x hx
  ·rw[aa hn]at hB;omega
theorem KQ {B:Nat}:∀(f:Nat) (v:V) (n:Nat),qS f v->grt B f v n<=B->n+1<=grt B f v n/\Sm B f v
 | 0,_,_,h,_=>h.elim
 | f+1,v,n,h,hB=>by
  unfold grt at hB ⊢;have:=Wr (KQ f) v.kids _ h.2.2 hB;exact⟨I,I,I,this.2⟩
theorem wF {B:Nat}(hB:B<=1000000):∀(f:Nat) {w:World}{v:V}{cs:kL},mj f w v cs->Sm B f v->
  Calls prog 112 #[.agg cs.toArray] w fun e w'=>jP w w'/\∃rU,e=.returned (.agg rU.toArray)/\lz (fun b=>w.heap.size<=b) f w' v rU
 | 0,_,_,_,h,_=>h.elim
 | f+1,w,v,cs,h,hm=>by
  obtain⟨sn,sk,rfl,wk,wn,ws,wt,rV,uC⟩:=h;obtain⟨zm,O0,Ki⟩:=hm;obtain⟨sp,cap,rfl,vg,qn,kF⟩:=uC;apply kq (args:=[.agg (mR v sn (.slice sp v.kids.length cap)).toArray]) func112 ntmps112;apply G _;refine jO fun g1 w1 ou=>?_;have oJ:kJ w g1 w1 25 (mR v sn (.slice sp v.kids.length cap)):=ou;clear ou;refine jJ (z:=.agg jK.toArray) (fun _=>jG) fun g2 w2 mK=>?_;have mI:kJ w1 g2 w2 25 jK:=mK;clear mK;have CN:=oJ.size;have yD:=mI.size;have he1:=oJ.eq;have FW:=mI.eq;have nQ:=oJ.below.trans (mI.below.mono oJ.below.size);have B1:=oJ.blk.below mI.below oJ.blk.lt;have B2:=mI.blk;clear oJ mI;apply mA _;refine WL.tn (fun _:Value=>[(1,jV g1),(2,jV g2)]) (fun sx wx=>U 25 wx g1 (mR v sx (.slice sp v.kids.length cap))/\U 25 wx g2 jK/\jP w wx/\
   m6 1 kZ Gw (fun b=>w.heap.size<=b/\b≠g1/\b≠g2) wx sx v.names/\sx.oneCell'=true) rfl ?_ ?_
  ·refine WL.empty rfl rfl rfl rfl rfl fun g5 w3 Ed=>?_
   have te:kJ w2 g5 w3 9 []:=Ed;clear Ed;have SH:=te.size;have he3:=te.eq;have lC:=te.blk;have pE:=nQ.kj te.below;have O6:=B1.below te.below B1.lt;have Ak:=B2.below te.below B2.lt;clear te
   -- the store behind the append
   have go:∀ {wx:World}{sx:Value},kX w3 (nj g5 0 0 0) wx sx->U 25 wx g1 (mR v sn (.slice sp v.kids.length cap))/\U 25 (wx.setCell (Aq g1 4) sx) g1 (mR v sx (.slice sp v.kids.length cap))/\U 25 (wx.setCell (Aq g1 4) sx) g2 jK/\jP w (wx.setCell (Aq g1 4) sx):=fun {wx sx} h=>by
    have hk:Z (fun b=>b<g5) w3 wx:=Z.mono h.1 fun b hb=>⟨I,fun e=>by have:g5=b:=az e;omega⟩;have b1:=O6.jA hk I;refine⟨b1,b1.set 4 sx,(Ak.jA hk I).other _ _ (by show g2≠g1;omega),Z.below (Z.setCell (Z.jw (pE.trans (Z.below (Z.mono hk fun b (hb:b<w.heap.size)=>by omega)))) (fun hk=>by simp only at hk;omega) _)⟩
   obtain⟨np,nc,rfl,nl,nm,nz,nr⟩:=rV;apply G _;apply Y (O6.cell 4 jM)
   by_cases G_:v.names.length=0
   ·apply WL.as 7 (.slice np 0 nc) rfl (by show Value.slice np v.names.length nc=_;rw[G_])
    apply WL.alL rfl rfl rfl rfl rfl rfl (aj 0) rfl;obtain⟨b1,b2,b3,b4⟩:=go (kX.refl w3 (nj g5 0 0 0));apply G _;apply jT (b1.cell 4 jM) (b1.free 4);apply WL.nil;exact WQ.meet (nj g5 0 0 0) kz ⟨b2,b3,b4,⟨_,0,by rw[G_],I,I,(fun h=>by cases h),fun h=>by omega⟩,rfl⟩
   ·have jW:jY 9 1 w3 (fun g=>g=g5) (nj g5 0 0 0) 0 []:=⟨⟨jM,.inr ⟨g5,0,#[],rfl,ay _,lC,aj _,by unfold maxLen;omega,jM,jM⟩⟩,fun _ h=>(a_ h).elim,fun g h=>by cases h;rfl⟩
    have nG:=PC (w:=w3) (v:=.slice np v.names.length nc) (l:=v.names) (AI.below (w:=w) ⟨np,nc,rfl,nl,nm,nz,nr⟩ pE) I;refine l_ ZB jW nG fun sx wx ho hg=>?_;obtain⟨b1,b2,b3,b4⟩:=go hg;have m9:sx.oneCell'=true:=by obtain⟨_,_,rfl,-⟩:=ho.slice;rfl
    apply G _;apply jT (hv:=m9) (b1.cell 4 jM) (b1.free 4);apply WL.nil;refine WQ.meet sx kz ⟨b2,b3,b4,?_,m9⟩;have ql:Z (fun b=>b≠g1) wx (wx.setCell (Aq g1 4) sx):=(Z.refl _ wx).setCell (fun hk=>hk rfl) _;simp only[bA,aT]at ho;refine(Pw (O:=fun b=>w.heap.size<=b/\b≠g1/\b≠g2) (ho.mono fun b hb=>by omega) fun s hs=>?_).jA ql (fun b hb _=>hb.2.1) (fun b hb=>hb) fun _ _ h=>h;obtain⟨j,hj,rfl⟩:=bH hs
    simpa[hj] using nz j hj
  rintro sx w5 ⟨C1,C2,pK,oQ,hsx⟩;have hz5:=pK.size;have hgg:g1≠g2:=I;have T9:=C1.lt;have VS:=C2.lt;apply G _;refine WC.loop (fun i:Nat×Value=>[(1,jV g1),(2,jV g2),(3,i.2),(4,Iq i.1)])
   (fun i wr=>i.1<=v.kids.length/\jP w5 wr/\∃q:Nat->Prop,kC 25 6 mM (lz q f wr) (fun b=>w5.heap.size<=b) wr i.2 (v.kids.take i.1)/\∀b,q b->w5.heap.size<=b/\b<wr.heap.size/\i.2.ownBlock≠some b) (fun i=>v.kids.length - i.1) (0,kP)
   kz ⟨ay _,Below.refl _ _,fun _=>False,kC.nil _ _ _ _ _ _,fun b h=>h.elim⟩ ?_
  rintro⟨i,vk⟩ wr ⟨hi,lx,q,vC,hq⟩;simp only at hi lx vC hq ⊢;have D1:=C1.below lx T9;have D2:=C2.below lx VS;have uX:=pK.trans (lx.mono hz5);have hzr:=lx.size;apply G _;apply Y (D1.cell 5 jM)
  by_cases kt:i<v.kids.length
  ·obtain⟨kb,ko,rfl,qp,lP⟩:=kF I
   obtain⟨c,oh,qw,nW⟩:=lP i kt;apply G _;apply Y (D1.cell 5 jM);apply G _;apply jQ i (ko+i*6) kt;apply jy (fun j u hu=>(uX.cell (p:=Aq kb (ko+i*6+j)) qp).trans (nW j u hu)) oh;apply jx func112 (wF hB f (qw.below uX) (Ki _ (by simp[kt])));rintro _ w6 ⟨tD,c6,rfl,ER⟩;refine⟨_,rfl,?_⟩;have Yx:=tD.size;refine lh (hcs:=ER.len) (hs:=⟨I,I⟩) fun g7 w7 xF=>?_;have hz7:=xF.size;have wS:=tD.trans (xF.below.mono Yx);have Dx:kC 25 6 mM (lz (fun b=>q b\/(wr.heap.size<=b/\b<w7.heap.size)) f w7) (fun b=>w5.heap.size<=b) w7 vk (v.kids.take i) :=
    vC.jA (Z.jw wS) (fun g hg=>vC.lt hg) nN fun x cs hx=>hx.jA (Z.jw wS) (fun b hb _=>(hq b hb).2.1) fun b hb=>.inl hb
   have Kp:lz (fun b=>q b\/(wr.heap.size<=b/\b<w7.heap.size)) f w7 (v.kids.getD i mM) c6:=ER.there.jA (Z.jw xF.below) (fun b _ h=>h) fun b hb=>.inr ⟨hb.1,I⟩;have j6:(v.kids.take i).length<=i:=by rw[aC];omega
   refine WL.snoc rfl rfl rfl rfl RD rfl Dx rfl xF.blk ER.one ER.len Kp I I fun vk8 w8 Aw p7=>?_;have DP:=(lx.trans (wS.mono hzr)).trans (p7.old I fun g hg=>Dx.own hg);have TW:∀b,(q b\/(wr.heap.size<=b/\b<w7.heap.size))->w5.heap.size<=b/\b<w7.heap.size/\vk.ownBlock≠some b:=fun b hb=>hb.elim (fun h=>by
     obtain⟨h1,h2,h3⟩:=hq b h;exact⟨h1,I,h3⟩) fun h=>⟨I,h.2,fun e=>by have:=vC.lt e;omega⟩
   have xE:v.kids.take (i+1)=v.kids.take i++[v.kids.getD i mM]:=by
    rw[aK];simp[kt]
   apply G _;refine WQ.again (i+1,vk8) kz ⟨kt,DP,(fun b=>q b\/(wr.heap.size<=b/\b<w7.heap.size)),?_,fun b hb=>?_⟩ (by show v.kids.length - (i+1)<v.kids.length - i;omega)
   ·show kC _ _ _ _ _ _ _ (v.kids.take (i+1))
    rw[xE];exact Aw.jA (Z.refl (fun _=>True) w8) (fun _ _=>trivial) (fun b hb=>by omega) fun x cs hx=>hx.jA p7.1 (fun b hb _=>(TW b hb).2) fun b hb=>hb
   ·obtain⟨h1,h2,h3⟩:=TW b hb
    exact⟨h1,ao h2 p7.1.size,fun e=>(p7.2 b e).elim h3 fun h4=>by omega⟩
  ·obtain rfl:i=v.kids.length:=I
   rw[aN]at vC;have hvk:=vC.one;have ql:Z (fun b=>b≠g1) wr (wr.setCell (Aq g1 5) vk):=(Z.refl _ wr).setCell (fun hk=>hk rfl) _;apply G _;apply jT (hv:=hvk) (D1.cell 5 jM) (D1.free 5);have E1:=D1.set 5 vk;have E2:U 25 (wr.setCell (Aq g1 5) vk) g2 jK:=D2.other _ _ (by show g2≠g1;omega);have U2:jP w (wr.setCell (Aq g1 5) vk):=Z.below (Z.setCell (Z.jw uX) (fun hk=>by simp only at hk;omega) _);have Ti:=(oQ.there Db).jA (O':=fun b=>(w.heap.size<=b/\b≠g1/\b≠g2)) (Z.jw lx) (fun b hb j6=>j6) (fun b hb=>hb.1) fun _ _ h=>h;have JI:=Ti.jA ql (fun b hb _=>hb.2.1) (fun b hb=>hb) fun _ _ h=>h;have Jo:m6 6 mM (lz (fun b=>w5.heap.size<=b) f (wr.setCell (Aq g1 5) vk)) (fun b=>w5.heap.size<=b) (wr.setCell (Aq g1 5) vk) vk v.kids :=
    vC.kN.jA ql (fun b hb _=>by omega) (fun b hb=>hb) fun x cs hx=>hx.jA ql (fun b hb _=>by have:=(hq b hb).1;omega) fun b hb=>(hq b hb).1
   generalize wr.setCell (Aq g1 5) vk=w9 at E1 E2 U2 JI Jo;simp only[eI,gT]at E1;apply G _;apply jy (U.rangeAt E1) rfl;have m9:lY [Iq v.k,Iq v.n,Iq v.s,.string v.t,sx,vk]:=by
    intro u hu;simp at hu
    rcases hu with rfl|rfl|rfl|rfl|rfl|rfl<;>first|rfl|assumption
   apply jE E2 m9;apply G _;have uw:∀a,Z (fun b=>b≠g2) w9 (w9.setRow g2 a):=fun a=>Z.setRow (Z.refl _ w9) (fun hk=>hk rfl) a;refine WQ.vJ rfl rfl rfl rfl (E2.setRow _) ⟨Z.below (Z.setRow (Z.jw U2) (fun hk=>by omega) _),_,rfl,sx,vk,rfl,wk,wn,ws,wt,JI.jA (uw _) (fun b hb _=>hb.2.2) (fun b hb=>hb.1) fun _ _ h=>h,?_⟩;exact Jo.jA (uw _) (fun b hb _=>by omega) (fun b hb=>by omega) fun x cs hx=>hx.jA (uw _) (fun b hb _=>by omega) fun b hb=>I
section
variable {fn:Func}{R:Ending->World->Prop}{l:Env}{w:World}
theorem WQ.yQ (hr:fn.results=#[.cell p Cd,.tmp q])(hl:look l p=some (jV g))(hq:look l q=some x)(ht:cellsN (tyOf ty Cd)=some m)(hm:cs.length=m)(hb:U T w g cs)(h:R (.returned (.tuple #[.agg cs.toArray,x])) w): WQ ⟨kn,[],md⟩ (bodyPost prog fn R) .ret l w :=
 ⟨fun a ha=>⟨ha.defers,_,by
  obtain⟨_,hu,Ii,lJ⟩:=ug oz ht;have hp:=ha.getD hl;have hx:=ha.getD hq;simp only[cq]at hp hx;have:=fA (P:=prog) w g 0 Cd cs _ (U.rangeAt hb) hu Ii (by rw[lJ,hm]);simp[results,hr,hp,hx,asAddr,this],h⟩⟩
end
theorem QO {o:Nat}{a0 a1 a2 a3:Value}(h0:w.cell? (Aq b o)=some a0)(h1:w.cell? (Aq b (o+1))=some a1)(h2:w.cell? (Aq b (o+2))=some a2)(h3:w.cell? (Aq b (o+3))=some a3): w.rangeAt b o [a0,a1,a2,a3]:=by
 intro j u hu
 match j,hu with
 | 0,hu=>cases hu;exact h0
 | 1,hu=>cases hu;exact h1
 | 2,hu=>cases hu;exact h2
 | 3,hu=>cases hu;exact h3
 | k+4,hu=>simp at hu
end K
namespace Cr
open K Cat
section
variable {n:NN}{Q:Exit->Act->World->Prop}{l:Env}{w:World}{ops:Array Oper}{d:Nat}{S:World->Prop}{m fuel:Nat}{jI:Array Bool}
theorem xy {t:Nat}{parts:List (Nat×Operand)}(cells:kL)(i:Nat)(hi:ops[i]? = some oi)(hs:vS ops jI i m=true)(hd:oi.dst=some d)(hn:Nat.blt d n.n=true)(hQ:Passes Q)(hw:wants ops l oi=some true)(ho:oi.op=.build t parts.toArray)(hp:evlParts l parts=some ps)(hf:prog.built t ps=some cells.toArray)(hS:jI.getD m false=true\/S w)(h:WD n ops Q S m fuel (jI.setIfInBounds i true) ((d,.agg cells.toArray)::l) w): WD n ops Q S m (fuel+1) jI l w :=
 K.WD.first i hi hs hd hn hQ (fun a ha=>.inl ⟨pj ha hw,fun w _=>by
  unfold execOp;rw[ho];have:=run_build (P:=prog) w t (parts.toArray.map fun(i,x)=>(i,a.eval x)) cells.toArray (by
   rw[show(parts.toArray.map fun(x:Nat×Operand)=>(x.1,a.eval x.2)).toList=ps by rw[fm];exact tY ha hp];exact hf)
  simp only[bK,this,bG]
  rfl⟩) hS h
end
abbrev zt:Nat:=121
abbrev rcT:Nat:=52
abbrev Ad:Nat:=9
theorem mo {K:Nat->Prop}(h:Z K a w)(hg:¬K g)(cs:Array Value): Z K a (w.setRow g cs) :=
 ⟨h.os,h.tape,h.output,by simpa using h.size,fun k hk=>(setRow_other w g k cs (fun e=>hg (e ▸ hk))).trans (h.block k hk)⟩
structure RC (w:World) (rc:Nat) (O:Nat->Prop) (L:List Tb) (tv:Value) (cells:kL):Prop where
 vb:U rcT w rc [tv]
 own:jY zt 4 w O tv L.length cells
 m5:∀i,i<L.length->nV Ad w O cells i (L.getD i ku)
 rc:O rc
 lt:∀b,O b->b<w.heap.size
 oP:Cat.Good L
def rH (w:World)(rc:Nat)(O:Nat->Prop)(L:List Tb):Prop:=∃tv cells,RC w rc O L tv cells
theorem RC.jA {L:List Tb}{cells:kL}(h:RC w rc O L tv cells){K:Nat->Prop}(hk:Z K w w')(hK:∀b,O b->K b): RC w' rc O L tv cells :=
 ⟨h.vb.jA hk (hK _ h.rc),h.own.jA hk fun g hg=>hK g (h.own.own hg),fun i hi=>(h.m5 i hi).j_ fun b hb _=>hk.block b (hK b hb),h.rc,fun b hb=>ao (h.lt b hb) hk.size,h.oP⟩
theorem RC.below {L:List Tb}{cells:kL}(h:RC w rc O L tv cells)(hk:jP w w'): RC w' rc O L tv cells:=h.jA (Z.jw hk) h.lt
theorem rH.jA {L:List Tb}(h:rH w rc O L){K:Nat->Prop}(hk:Z K w w')(hK:∀b,O b->K b): rH w' rc O L:=by obtain⟨tv,cells,h⟩:=h;exact⟨tv,cells,h.jA hk hK⟩
theorem rH.below {L:List Tb}(h:rH w rc O L)(hk:jP w w'): rH w' rc O L:=by obtain⟨tv,cells,h⟩:=h;exact⟨tv,cells,h.below hk⟩
theorem rH.lt {L:List Tb}(h:rH w rc O L): ∀b,O b->b<w.heap.size:=by obtain⟨tv,cells,h⟩:=h;exact h.lt
theorem Ri {L:List Tb}{id:Int}: (∃k:Nat,k<L.length/\id=(k:Int)+1/\there L id = !(L.getD k ku).dropped)\/((id<1\/(L.length:Int)<id)/\there L id=false):=by
 by_cases h1:1<=id
 ·by_cases h2:id<=L.length
  ·refine .inl ⟨(id - 1).toNat,I,I,?_⟩
   unfold there;rw[aw h1,aw h2];simp
  ·refine .inr ⟨.inr I,?_⟩
   unfold there;rw[ar h2];simp
 ·refine .inr ⟨.inl I,?_⟩
  unfold there;rw[ar h1];simp
theorem DI {L:List Tb}{cells:kL}(h:RC w rc O L tv cells)(id:Int):
  Calls prog 43 #[jV rc,Iq id] w fun e w'=>w'=w/\
   ((there L id=false/\e=.returned (.pointer none))\/∃k g cap,k<L.length/\id=(k:Int)+1/\there L id=true/\(L.getD k ku).dropped=false/\tv=nj g 0 L.length cap/\e=.returned (.pointer (some (Aq g (k*4))))):=by
 have hlen:=h.oP.len;rcases Ri (L:=L) (id:=id) with⟨k,hk,rfl,ht⟩|⟨ho,ht⟩
 ·obtain⟨g,cap,rfl,-,-,-,-,c0,c1,c2,sp,c,c3,-⟩:=oD h.own hk (h.m5 k hk)
  have cv:=h.vb.cell 0 jM;simp only[al]at cv;generalize ht0:L.getD k ku=t at ht c0 c1 c2 c3;apply kq func43 ntmps43;cases hd:t.dropped with
  | true=>
   rw[hd]at c2 ht;apply jF _;apply jQ (hz:=I) (hq:=I) k (k*4) hk;apply jF _;exact J ⟨rfl,.inl ⟨ht,rfl⟩⟩
  | false=>
   rw[hd]at c2 ht;apply jF _;apply jQ (hz:=I) (hq:=I) k (k*4) hk;apply jF _;apply jQ (hz:=I) (hq:=I) k (k*4) hk;apply jF _;exact J ⟨rfl,.inr ⟨k,g,cap,hk,rfl,ht,by rw[ht0,hd],rfl,rfl⟩⟩
 ·obtain⟨sp,cap,rfl,-,-⟩:=h.own.slice
  have cv:=h.vb.cell 0 jM;simp only[al]at cv;apply kq func43 ntmps43;rcases ho with ho|ho
  ·apply jF _
   exact J ⟨rfl,.inl ⟨ht,rfl⟩⟩
  ·by_cases h1:id<1
   ·apply jF _
    exact J ⟨rfl,.inl ⟨ht,rfl⟩⟩
   ·apply jF _
    exact J ⟨rfl,.inl ⟨ht,rfl⟩⟩
theorem Lp (s:lD)(w:World): Calls prog 139 #[.string s] w fun e w'=>w'=w/\e=.returned (.bool (xf s)):=by
 apply kq func139 ntmps139;unfold xf
 by_cases h1:1<=s.size
 ·by_cases h2:s.size<=40
  ·apply G _
   exact WQ.so rfl rfl ⟨rfl,by simp[h1,h2]⟩
  ·apply G _
   exact WQ.so rfl rfl ⟨rfl,by simp[h2]⟩
 ·apply G _
  exact WQ.so rfl rfl ⟨rfl,by simp[h1]⟩
def ZK (w:World)(O:Nat->Prop)(r:Int×Tb×Int)(e:Ending)(w':World):Prop :=
 ∃fv,e=.returned (.tuple #[.agg #[Iq r.1,.string r.2.1.name,.bool r.2.1.dropped,fv],Iq r.2.2])/\jY Ad 1 w' O fv r.2.1.fs.length (r.2.1.fs.map Value.string)/\jP w w'
def sX:kL:=[Iq 0,.string ByteArray.empty,.bool false,kP]
theorem x_ (w:World): (zeroValue zt).run prog w=.ok (.agg sX.toArray) w:=jG
theorem Vi: prog.built zt []=some sX.toArray:=jG
theorem rn {a:Int}{b:lD}{c:Bool}{v:Value}(hv:v.oneCell'=true): lY [Iq a,.string b,.bool c,v]:=fun u hu=>by
 simp at hu
 rcases hu with rfl|rfl|rfl|rfl<;>first|rfl|exact hv
theorem jY.one {e:TypeId}{v:Value}{n:Nat}{l:kL}(h:jY e m w O v n l): v.oneCell'=true:=by obtain⟨_,_,rfl,-⟩:=h.slice;rfl
theorem zR {L:List Tb}(h:rH w rc O L)(id:Int): Calls prog 110 #[jV rc,Iq id] w (ZK w O (kM L id)):=by
 obtain⟨tv,cells,h⟩:=h;have hlen:=h.oP.len;obtain⟨QH,Hb,rfl,-,-⟩:=h.own.slice;apply kq func110 ntmps110;apply mA _;refine jJ (z:=.agg sX.toArray) x_ fun g w1 f1=>?_;have h1:=h.below f1.below;have cv:=h1.vb.cell 0 jM;simp only[al]at cv;have bz:=f1.blk;have b1:=f1.below;have eg:=f1.eq
 by_cases pN:1<=id/\id<=L.length
 ·obtain⟨hi1,xx⟩:=pN
  obtain⟨k,rfl⟩:∃k:Nat,id=(k:Int)+1:=⟨(id - 1).toNat,I⟩;have hk:k<L.length:=I;have hr:kM L ((k:Int)+1)=((k:Int)+1,L.getD k ku,0):=by
   unfold kM;rw[ag ⟨I,I⟩,show((k:Int)+1 - 1).toNat=k by omega]
  rw[hr];obtain⟨g',cap,es,-,-,-,-,c0,c1,c2,sp,c,c3,jW⟩:=oD h1.own hk (h1.m5 k hk);obtain⟨rfl,rfl⟩:QH=some (Aq g' 0)/\Hb=cap:=by simpa using es
  clear es;generalize L.getD k ku=t at c0 c1 c2 c3 jW ⊢;apply jF _;apply jQ (hz:=I) (hq:=I) k (k*4) hk;apply jy (QO c0 c1 c2 c3) rfl;refine WL.o7 rfl rfl rfl rfl rfl rfl bz rfl rfl (rn rfl) ?_;have mE:Z (fun b=>b<w.heap.size) w (w1.setRow g [Iq ((k+1:Nat):Int),.string t.name,.bool t.dropped,.slice sp t.fs.length c].toArray):=mo (Z.jw b1) (fun hk=>by omega) _;apply G _;refine WQ.yQ rfl rfl rfl rfl rfl (bz.setRow _) ⟨.slice sp t.fs.length c,rfl,jW.j_ fun b hb=>?_,mE.below⟩;have:=h.lt b (jW.own hb);exact Go.setRow_other w1 g b _ I
 ·have hr:kM L id=(0,ku,7):=by unfold kM;rw[aa pN]
  rw[hr];have fin:∀(v:Value),v=.agg sX.toArray->True:=fun _ _=>trivial;clear fin;have hx:id<1\/(¬id<1/\(L.length:Int)<id):=I;rcases hx with hx|⟨hx,hy⟩
  all_goals
   apply jF _;apply jR sX Vi;apply WL.o7 rfl rfl rfl rfl rfl rfl bz rfl rfl (rn rfl);have mE:Z (fun b=>b<w.heap.size) w (w1.setRow g sX.toArray):=mo (Z.jw b1) (fun hk=>by omega) _;apply G _;exact WQ.yQ rfl rfl rfl rfl rfl (bz.setRow _) ⟨kP,rfl,jY.nil _ _ _ _,mE.below⟩
end Cr
end Go.Proofs.YtlenklobbngopaaGreat
