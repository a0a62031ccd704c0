/- Texts for IxB, part 3 of 11. -/
import Derived.Test.YtlenklobbngopaaGreatZIxB2
set_option maxHeartbeats 64000000
set_option maxRecDepth 100000
set_option linter.all false
namespace Go.Proofs.YtlenklobbngopaaGreat
open _root_.Go.Proofs.Tryz
open Go.RowKit
variable {f B m T b i t2 mm j dl b2 PK:Nat}{w w':World}{cs dc vs:List Value}{l:List Int}{sp p:Option Addr}{a:Act}{x y i' lo hi:Operand}{O:Nat -> Prop}{oi:Oper}{z:Int}{k1 k2:IntKind}
namespace K
def kL (v:V):List Int × Int:=if chk 16 v≠0 then([],chk 16 v) else if 65536<(encV 16 v).length then([],5) else(encV 16 v,0)
def Ra (w:World) (v:V) (e:Ending) (w':World):Prop:=∃b,e=.returned (.tuple #[b,Iq (kL v).2]) /\ Bu w' b (kL v).1 /\ iB w w' /\ ∀g,b.ownBlock=some g -> w.heap.size <= g
theorem GS {v:V}(h:kH f w v cs) (hlen:chk 16 v=0 -> (encV 16 v).length <= 70368744177664):
  Calls prog 123 #[.agg cs.toArray] w (Ra w v):=by
 have hcs:=h.len;refine iY (args:=[.agg cs.toArray]) func123 ntmps123 ?_;refine gY ?_;refine iC fun g w1 hf=>?_;have jx:jl w g w1 25 cs:=hf;clear hf;have zY:=jx.size;have h1:=h.below jx.below;refine gY ?_;refine ig (h_.rangeAt jx.blk) hcs ?_;refine i_ func65 (Vl.KN h1) ?_;rintro w2 jg
 have lQ:=jx.below.trans (jg.mono gZ)
 by_cases hc:chk 16 v=0
 ·refine gY ?_
  refine ig (h_.rangeAt (jx.blk.below jg jx.blk.lt)) hcs ?_;refine il func148 (Mo 16 (h1.below jg) hc (Bu.nil w2) ⟨Below.refl _ _,fun g hg=>by cases hg⟩ (by have:=hlen hc;simp only[aF];omega)) ?_;rintro _ w3 ⟨b,rfl,hb,hg⟩;refine⟨_,rfl,?_⟩;rw[aH] at hb;obtain⟨sp,cap,rfl,pY,qB⟩:=hb.form;have mG:=lQ.trans (hg.old (B:=w.heap.size) (lQ.size) fun g h=>by cases h)
  by_cases rz:65536<(encV 16 v).length
  ·have hr:kL v=([],5):=by unfold kL;rw[if_neg (by simpa using hc),if_pos rz]
   refine gY ?_;exact WQ.nC rfl rfl rfl ⟨_,by rw[hr],by rw[hr];exact Bu.nil _,mG,fun g hg=>by cases hg⟩
  ·have hr:kL v=(encV 16 v,0):=by unfold kL;rw[if_neg (by simpa using hc),if_neg rz]
   refine gY ?_;exact WQ.nC rfl rfl rfl ⟨_,by rw[hr],by rw[hr];exact hb,mG,fun g h=>(hg.2 g h).elim (fun h2=>by cases h2) fun h2=>by have:=lQ.size;omega⟩
 ·have hr:kL v=([],chk 16 v):=by unfold kL;rw[if_pos hc]
  refine gY ?_;exact WQ.nC rfl rfl rfl ⟨_,by rw[hr],by rw[hr];exact Bu.nil _,lQ,fun g hg=>by cases hg⟩
theorem jI (u:Nat): (jK u).length <= 10:=qk 10 u
theorem QO (ky:V -> List Int) (st:Bool) (names:List ByteArray) (kids:List V) (hn:st=true -> names.length=kids.length /\ ∀s∈names,s.size <= 40):
  ((List.range kids.length).flatMap (kP ky st names kids)).length <= 50*names.length+(kids.flatMap ky).length:=by
 have key:∀i,i <= kids.length -> ((List.range i).flatMap (kP ky st names kids)).length <= (if st then 50*i else 0)+((kids.take i).flatMap ky).length:=by
  intro i
  induction i with
  | zero=>intro _;simp
  | succ i ih=>
   intro hi;have h1:=ih gZ;have ht:kids.take (i+1)=kids.take i++[kids.getD i lH]:=by
    rw[aJ];simp[show i<kids.length by omega]
   rw[kG,aa,ht,ai,aa];have h2:(kP ky st names kids i).length <= (if st then 50 else 0)+([kids.getD i lH].flatMap ky).length:=by
    unfold kP;rw[aa];cases st with
    | false=>simp
    | true=>
     have hs:(names.getD i jz).size <= 40:=(hn rfl).2 _ (by have:=(hn rfl).1;simp[show i<names.length by omega]);have hu:=jI (names.getD i jz).size;have hb:=sN (names.getD i jz);generalize names.getD i jz=nm at hs hu hb ⊢;generalize kids.getD i lH=kd;simp
     omega
   generalize ((List.range i).flatMap (kP ky st names kids)).length=a1 at h1 ⊢;generalize (kP ky st names kids i).length=a2 at h2 ⊢;generalize ((kids.take i).flatMap ky).length=a3 at h1 ⊢;generalize ([kids.getD i lH].flatMap ky).length=a4 at h2 ⊢;cases st with
   | false=>rw[if_neg iz] at h1 h2 ⊢;omega
   | true=>rw[if_pos rfl] at h1 h2 ⊢;omega
 have:=key kids.length (af _);rw[aI] at this;cases st with
 | false=>rw[if_neg iz] at this;omega
 | true=>have h:=(hn rfl).1;rw[if_pos rfl] at this;omega
theorem Mk {B f m:Nat}(ih:∀(v:V) (n:Nat),o_ f v -> chk m v=0 -> grt B f v n <= B -> n <= grt B f v n /\ (encV m v).length+80*n <= 80*grt B f v n) :
  ∀(l:List V) (n:Nat),(∀x∈l,o_ f x /\ chk m x=0) -> grtK B (grt B f) l n <= B -> n <= grtK B (grt B f) l n /\ (l.flatMap (encV m)).length+80*n <= 80*grtK B (grt B f) l n
 | [],n,_,_=>by simp[grtK]
 | k :: r,n,h,hB=>by
  unfold grtK at hB ⊢
  by_cases hn:n <= B
  ·rw[if_pos hn] at hB ⊢
   have hk:=h k cj;have hle:grt B f k n <= B:=by
    rcases aO B (grt B f k n) with h1|h1
    ·rw[I1 r h1] at hB;omega
    ·exact h1
   have h1:=ih k n hk.1 hk.2 hle;have h2:=Mk ih r (grt B f k n) (fun x hx=>h x (az _ hx)) hB;rw[an,aa];omega
  ·rw[if_neg hn] at hB;omega
theorem KI {B:Nat}:∀(f m:Nat) (v:V) (n:Nat),o_ f v -> chk m v=0 -> grt B f v n <= B -> n <= grt B f v n /\ (encV m v).length+80*n <= 80*grt B f v n
 | 0,_,_,_,h,_,_=>h.elim
 | _+1,0,_,_,_,h,_=>by cases h
 | f+1,m+1,v,n,hs,hc,hB=>by
  obtain⟨-,-,hsk⟩:=hs;have hk:∀x∈v.kids,o_ f x /\ chk m x=0:=fun x hx=>⟨hsk _ hx,SL hc hx⟩;unfold grt at hB ⊢;have h1:=Mk (KI f m) v.kids _ hk hB;obtain⟨-,-,-,-,-,-,-,f9⟩:=qI (oQ hc);refine⟨gZ,?_⟩;have Vn:(encV (m+1) v).length <= 40+20*(v.t.size / 20)+50*v.names.length+(v.kids.flatMap (encV m)).length:=by
   rw[Bs,aj];have hu1:=jI (ug v.n);have hu2:=jI v.n.toNat;have hu3:=jI v.t.size;have hu4:=jI v.kids.length;have hb:=sN v.t;have hp:=QO (encV m) (decide (v.k=9)) v.names v.kids fun h=>f9 (of_decide_eq_true h)
   split
   ·simp;omega
   split
   ·omega
   split
   ·simp;omega
   split
   ·omega
   split
   ·rw[aa];omega
   split
   ·rw[aa];omega
   ·simp;omega
  omega
theorem kH.rng: ∀ {f:Nat}{v:V}{cs:List Value},kH f w v cs -> Rng f v
 | 0,_,_,h=>h
 | f+1,v,_,h=>by
  obtain⟨sn,sk,-,-,wn,-,-,-,hk⟩:=h;refine⟨by simp[Lit.wf,IntKind.min,IntKind.max,IntKind.bits,IntKind.signed] at wn;omega,fun x hx=>?_⟩;obtain⟨j,hj,rfl⟩:=bn hx;obtain⟨sp,cap,-,-,-,hr⟩:=hk;obtain⟨b,o,-,-,hc⟩:=hr gZ;obtain⟨cs,-,hp,-⟩:=hc j hj;have:=kH.rng hp
  simpa[hj] using this
theorem vS {v:V}(h:(kL v).2=0): chk 16 v=0 /\ (encV 16 v).length <= 65536 /\ (kL v).1=encV 16 v:=by
 unfold kL at h ⊢
 by_cases hc:chk 16 v=0
 ·rw[if_neg (by simpa using hc)] at h ⊢
  by_cases hb:65536<(encV 16 v).length
  ·rw[if_pos hb] at h;cases h
  ·rw[if_neg hb];exact⟨hc,gZ,rfl⟩
 ·rw[if_pos hc] at h;exact absurd h hc
theorem bits_mask (x:Int) (m:Nat) (hm:m<4611686018427387904): ∃r:Nat,r <= m /\ bits .and .i64 x (m:Int)=(r:Int):=by
 refine⟨(BitVec.ofInt 64 x).toNat &&& m,Nat.and_le_right,?_⟩;have h2:(BitVec.ofInt 64 (m:Int)).toNat=m:=by
  rw[BitVec.ofInt_natCast,BitVec.toNat_ofNat];exact Nat.mod_eq_of_lt gZ
 have h3:(BitVec.ofInt 64 x).toNat &&& m <= m:=Nat.and_le_right
 show IntKind.i64.wrap ((BitVec.ofInt 64 x &&& BitVec.ofInt 64 (m:Int)).toNat:Int)=_
 rw[BitVec.toNat_and,h2];exact bG _ gZ
end K
namespace Dig
def yx (x n:Int):Int:=bits .or .u32 (x / 2 ^ n.toNat) (x*2 ^ (32 - n).toNat % 4294967296)
def word (a b c d:Int):Int :=
 bits .or .u32 (bits .or .u32 (bits .or .u32 (a % 4294967296*16777216 % 4294967296) (b % 4294967296*65536 % 4294967296)) (c % 4294967296*256 % 4294967296)) (d % 4294967296)
theorem Gq (x n:Int) (w:World) (hn:0 <= n) (uB:n <= 32):
  Calls prog 170 #[.int .u32 x,.int .u64 n] w fun e w'=>e=.returned (.int .u32 (yx x n)) /\ w=w':=by
 go_enter func170,ntmps170
 go_wp2
 go_ret
 exact⟨rfl,rfl⟩
theorem XK (b o len cap:Nat) (x0 x1 x2 x3:Int) (w:World) (hl:4 <= len) (h0:w.cell? ⟨b, o, none⟩=some (.int .u8 x0)) (h1:w.cell? ⟨b, o+1, none⟩=some (.int .u8 x1)) (h2:w.cell? ⟨b, o+2, none⟩=some (.int .u8 x2)) (h3:w.cell? ⟨b, o+3, none⟩=some (.int .u8 x3)):
    Calls prog 169 #[.slice (some ⟨b, o, none⟩) len cap] w fun e w'=>e=.returned (.int .u32 (word x0 x1 x2 x3)) /\ Pl w w' := by
  have a0:(0:Int)<len := gZ; have a1:(1:Int)<len := gZ; have a2:(2:Int)<len := gZ; have a3:(3:Int)<len := gZ
  go_enter func169, ntmps169
  go_wp2
  go_quiet (fail)
  go_wp2
  go_ret
  exact⟨rfl, Pl.mk _ _⟩
def Xj (nO:List Int) (j:Nat):Int:=word (nth nO j) (nth nO (j+1)) (nth nO (j+2)) (nth nO (j+3))
def load (nO:List Int):Nat -> List Int
 | 0=>List.replicate 64 0
 | n+1=>(load nO n).set n (Xj nO (4*n))
theorem sy (nO:List Int) (n:Nat): (load nO n).length=64:=by
 induction n with
 | zero=>rfl
 | succ n ih=>rw[load,aC,ih]
def aqs (x:Int):Int:=bits .xor .u32 (bits .xor .u32 (yx x 7) (yx x 18)) (x / 8)
def arj (x:Int):Int:=bits .xor .u32 (bits .xor .u32 (yx x 17) (yx x 19)) (x / 1024)
def sched (l:List Int):Nat -> List Int
 | 0=>l
 | n+1=>(sched l n).set (16+n) ((nth (sched l n) n+aqs (nth (sched l n) (n+1))+nth (sched l n) (n+9)+arj (nth (sched l n) (n+14))) % 4294967296)
theorem xB (l:List Int) (n:Nat): (sched l n).length=l.length:=by
 induction n with
 | zero=>rfl
 | succ n ih=>rw[sched,aC,ih]
theorem eight (l:List Int) (h:l.length=8): l=[nth l 0,nth l 1,nth l 2,nth l 3,nth l 4,nth l 5,nth l 6,nth l 7]:=by
 match l,h with
 | [a,b,c,d,e,f,g,i],_=>rfl
theorem mk8 (w:World) (l:List Int) (h:l.length=8):
  jA .u32 257 (w.alloc (.cells #[.int .u32 (nth l 0),.int .u32 (nth l 1),.int .u32 (nth l 2),.int .u32 (nth l 3),.int .u32 (nth l 4),.int .u32 (nth l 5),.int .u32 (nth l 6),.int .u32 (nth l 7)] 257)) w.heap.size l:=by
 have:=h_.mk w (l.map (Value.int .u32)) 257
 match l,h with
 | [a,b,c,d,e,f,g,i],_=>exact this
def rt (kk W v:List Int) (i:Nat):Int :=
 nth v 7+bits .xor .u32 (bits .xor .u32 (yx (nth v 4) 6) (yx (nth v 4) 11)) (yx (nth v 4) 25) +
  bits .xor .u32 (bits .and .u32 (nth v 4) (nth v 5)) (bits .and .u32 (bits .xor .u32 IntKind.u32.max (nth v 4)) (nth v 6))+nth kk i+nth W i
def ru (v:List Int):Int :=
 bits .xor .u32 (bits .xor .u32 (yx (nth v 0) 2) (yx (nth v 0) 13)) (yx (nth v 0) 22) +
  bits .xor .u32 (bits .xor .u32 (bits .and .u32 (nth v 0) (nth v 1)) (bits .and .u32 (nth v 0) (nth v 2))) (bits .and .u32 (nth v 1) (nth v 2))
def rnd (kk W v:List Int) (i:Nat):List Int :=
 [(rt kk W v i+ru v) % 4294967296,nth v 0,nth v 1,nth v 2,(nth v 3+rt kk W v i) % 4294967296,nth v 4,nth v 5,nth v 6]
def rounds (kk W v:List Int):Nat -> List Int
 | 0=>v
 | n+1=>rnd kk W (rounds kk W v n) n
theorem sG (kk W v:List Int) (n:Nat) (h:v.length=8): (rounds kk W v n).length=8:=by
 cases n with
 | zero=>exact h
 | succ n=>rfl
theorem aiG {k:IntKind}{T:TypeId}(h:jA k T w b l) (hl:l.length=8) (x0 x1 x2 x3 x4 x5 x6 x7:Int):
  jA k T ((((((((w.setCell ⟨b,0,none⟩ (.int k x0)).setCell ⟨b,1,none⟩ (.int k x1)).setCell ⟨b,2,none⟩ (.int k x2)).setCell ⟨b,3,none⟩ (.int k x3)).setCell ⟨b,4,none⟩ (.int k x4)).setCell ⟨b,5,none⟩ (.int k x5)).setCell ⟨b,6,none⟩ (.int k x6)).setCell ⟨b,7,none⟩ (.int k x7)) b [x0,x1,x2,x3,x4,x5,x6,x7]:=by
 have:=(((((((h.set 0 x0).set 1 x1).set 2 x2).set 3 x3).set 4 x4).set 5 x5).set 6 x6).set 7 x7
 match l,hl with
 | [a,b,c,d,e,f,g,i],_=>exact this
theorem Z7 {K:Nat -> Prop}(h:ib K w w') (hK:¬K b) (x0 x1 x2 x3 x4 x5 x6 x7:Value):
  ib K w ((((((((w'.setCell ⟨b,0,none⟩ x0).setCell ⟨b,1,none⟩ x1).setCell ⟨b,2,none⟩ x2).setCell ⟨b,3,none⟩ x3).setCell ⟨b,4,none⟩ x4).setCell ⟨b,5,none⟩ x5).setCell ⟨b,6,none⟩ x6).setCell ⟨b,7,none⟩ x7) :=
 (((((((h.setCell hK x0).setCell hK x1).setCell hK x2).setCell hK x3).setCell hK x4).setCell hK x5).setCell hK x6).setCell hK x7
def sP (st v:List Int):Nat -> List Int
 | 0=>st
 | n+1=>(sP st v n).set n ((nth (sP st v n) n+nth v n) % 4294967296)
theorem uD (st v:List Int) (n:Nat): (sP st v n).length=st.length:=by
 induction n with
 | zero=>rfl
 | succ n ih=>rw[sP,aC,ih]
def compress (kk nO st:List Int):List Int:=sP st (rounds kk (sched (load nO 16) 48) st 64) 8
theorem BH (bs bb ob n cap bk:Nat) (st nO kk:List Int) (T T':TypeId) (w:World) (hn:64 <= n) (uB:n <= 9223372036854775807) (uN:n <= cap) (Ji:bb<w.heap.size) (pG:jA .u32 T w bs st) (rp:Row .u8 w bb ob nO) (wH:jA .u32 T' w bk kk) (pY:st.length=8) (qB:64 <= nO.length) (nG:kk.length=64):
  Calls prog 167 #[iF bs,.slice (some ⟨bb,ob,none⟩) n cap,iF bk] w
   fun e w'=>e=.returned (.tuple #[]) /\ jA .u32 T w' bs (compress kk nO st) /\ ib (fun k=>k<w.heap.size /\ k≠bs) w w':=by
 have HA:=pG.lt;have xU:=wH.lt
 go_enter func167,ntmps167
 go_wp2
 have hW:jA .u32 252 (w.alloc (.cells ((List.replicate 64 (0:Int)).map (Value.int .u32)).toArray 252)) w.heap.size (load nO 0):=h_.mk w _ _;have hB:iB w (w.alloc (.cells ((List.replicate 64 (0:Int)).map (Value.int .u32)).toArray 252)):=(Below.refl _ _).alloc (af _) _;simp only[List.replicate,List.map] at hW hB;generalize w.alloc _=w1 at hW hB ⊢
 go_loopw [20] (fun c wr=>∃i:Nat,i <= 16 /\ c=Iq i /\ jA .u32 252 wr w.heap.size (load nO i) /\ iB w wr)
  (fun c _=>16 - (intOf c).toNat)
 case atStart=>exact⟨0,gZ,rfl,hW,hB⟩
 case round=>
  obtain⟨i,hi,rfl,oO,Cc⟩:=hrel;have OB:=sy nO i
  by_cases Pq:i<16
  ·have Wc:=rp.below Cc Ji
   have c0:=oO.cell i gZ;have f0:=oO.free i
   go_wp2_with (go_at_call 169;refine(XK bb (ob+4*i) _ _ _ _ _ _ _ gZ (Wc.at (4*i) gZ) (Wc.yV (4*i+1) _ gZ gZ) (Wc.yV (4*i+2) _ gZ gZ) (Wc.yV (4*i+3) _ gZ gZ)).mono ?_;rintro e w' ⟨rfl,nq,rfl⟩)
   go_roundw
   case rel=>exact⟨i+1,gZ,by go_num,(oO.drewN nq).set _ _,(Cc.trans (ib.below ((ib.refl _ _).drewN nq))).setCell (af _) _⟩
   case measure=>simp[intOf];omega
  ·have UU:i=16:=gZ
   have Yl:jA .u32 252 wr w.heap.size (load nO 16):=by rw[<- UU];exact oO
   clear UU oO
   go_wp2
   go_loopw [8] (fun c wr=>∃i:Nat,i <= 48 /\ c=Iq (16+(i:Int)) /\ jA .u32 252 wr w.heap.size (sched (load nO 16) i) /\ iB w wr)
    (fun c _=>64 - (intOf c).toNat)
   case atStart=>exact⟨0,gZ,rfl,Yl,Cc⟩
   case round=>
    clear Yl Cc OB;obtain⟨i,u_,rfl,oO,Cc⟩:=hrel;have OB:=(xB (load nO 16) i).trans (sy nO 16)
    by_cases h48:i<48
    ·have c0:=oO.cell (16+i) gZ
     have c1:=oO.F3 (16+i - 15) (i+1) gZ gZ;have c2:=oO.F3 (16+i - 2) (i+14) gZ gZ;have c3:=oO.cell i gZ;have c4:=oO.F3 (16+i - 7) (i+9) gZ gZ;have f0:=oO.free (16+i)
     go_wp2_with fail
     go_quiet (fail)
     go_wp2_with (go_at_call 170;refine(Gq _ _ _ gZ gZ).mono ?_;rintro e w' ⟨rfl,rfl⟩)
     go_region
     go_wp2
     go_roundw
     case rel=>
      exact⟨i+1,gZ,by go_num,(oO.drewN _).set _ _,((ib.ic Cc).drewN _).below.setCell (af _) _⟩
     case measure=>simp[intOf];omega
    ·have e48:i=48:=gZ
     have Yl:jA .u32 252 wr w.heap.size (sched (load nO 16) 48):=by rw[<- e48];exact oO
     clear e48 oO OB;have uU:=pG.below Cc HA;have Qp:=wH.below Cc xU;have d0:=uU.cell 0 gZ;have d1:=uU.cell 1 gZ;have d2:=uU.cell 2 gZ;have d3:=uU.cell 3 gZ;have d4:=uU.cell 4 gZ;have d5:=uU.cell 5 gZ;have d6:=uU.cell 6 gZ;have d7:=uU.cell 7 gZ
     go_wp2
     have hV:=mk8 wr st pY;have Yb:=Yl.lt;have hB2:iB w _:=Cc.alloc (Nat.le_of_lt Yb) (.cells #[.int .u32 (nth st 0),.int .u32 (nth st 1),.int .u32 (nth st 2),.int .u32 (nth st 3),.int .u32 (nth st 4),.int .u32 (nth st 5),.int .u32 (nth st 6),.int .u32 (nth st 7)] 257);have QW:=Yl.alloc (.cells #[.int .u32 (nth st 0),.int .u32 (nth st 1),.int .u32 (nth st 2),.int .u32 (nth st 3),.int .u32 (nth st 4),.int .u32 (nth st 5),.int .u32 (nth st 6),.int .u32 (nth st 7)] 257);generalize wr.alloc _=w2 at hV hB2 QW ⊢;clear d0 d1 d2 d3 d4 d5 d6 d7 Yl Cc uU Qp;generalize wr.heap.size=Bv at hV Yb ⊢;have hlW:=(xB (load nO 16) 48).trans (sy nO 16);obtain⟨W,V6⟩:∃W,W=sched (load nO 16) 48:=⟨_,rfl⟩;rw[<- V6] at QW hlW;have HW:=eB V6;clear V6
     go_loopw [77] (fun c wr=>∃i:Nat,i <= 64 /\ c=Iq i /\ jA .u32 252 wr w.heap.size W /\ jA .u32 257 wr Bv (rounds kk W st i) /\ iB w wr)
      (fun c _=>64 - (intOf c).toNat)
     case atStart=>exact⟨0,gZ,rfl,QW,hV,hB2⟩
     case round=>
      clear QW hV hB2;obtain⟨r,hr,rfl,oO,qX,Cc⟩:=hrel;have pK:=sG kk W st r pY;obtain⟨v,HC⟩:∃v,v=rounds kk W st r:=⟨_,rfl⟩;rw[<- HC] at qX pK;have Hv:=eB HC;clear HC
      by_cases am1:r<64
      ·have Qp:=wH.below Cc xU
       have d0:=qX.cell 0 gZ;have d1:=qX.cell 1 gZ;have d2:=qX.cell 2 gZ;have d3:=qX.cell 3 gZ;have d4:=qX.cell 4 gZ;have d5:=qX.cell 5 gZ;have d6:=qX.cell 6 gZ;have d7:=qX.cell 7 gZ;have f0:=qX.free;have k0:=Qp.cell r gZ;have w0:=oO.cell r gZ
       go_wp2_with fail
       go_quiet (fail)
       go_wp2_with fail
       go_quiet ((go_at_call 170;exact rF (Gq _ _ _ gZ gZ)))
       go_wp2_with fail
       go_quiet ((go_at_call 170;exact rF (Gq _ _ _ gZ gZ)))
       go_wp2
       go_roundw
       case rel=>
        refine⟨r+1,gZ,by go_num,oO.ij (Z7 ((ib.refl (fun k=>k<Bv) wr).drewN _) (Nat.lt_irrefl _) _ _ _ _ _ _ _ _) Yb,?_,?_⟩
        ·rw[rounds,<- Hv.out]
         exact aiG (qX.drewN _) pK _ _ _ _ _ _ _ _
        ·exact(Z7 ((ib.ic Cc).drewN _) (Nat.not_lt.2 (Nat.le_of_lt Yb)) _ _ _ _ _ _ _ _).below
       case measure=>simp[intOf];omega
      ·have e64:r=64:=gZ
       have R5:jA .u32 257 wr Bv (rounds kk W st 64):=by rw[<- e64,<- Hv.out];exact qX
       have uU:=pG.below Cc HA;have Cn:=sG kk W st 64 pY;have nw:compress kk nO st=sP st (rounds kk W st 64) 8:=by rw[HW.out];rfl
       have tq:=eB nw;clear nw e64 qX oO pK Hv HW hlW;obtain⟨z,hz⟩:∃z,z=rounds kk W st 64:=⟨_,rfl⟩;rw[<- hz] at R5 Cn;have Hz:=eB hz;clear hz;have ai_:ib (fun k=>k<w.heap.size /\ k≠bs) w wr:=(ib.ic Cc).mono fun _ h=>h.1
       go_wp2
       go_loopw [161] (fun c wr=>∃i:Nat,i <= 8 /\ c=Iq i /\ jA .u32 257 wr Bv z /\ jA .u32 T wr bs (sP st z i) /\ ib (fun k=>k<w.heap.size /\ k≠bs) w wr)
        (fun c _=>8 - (intOf c).toNat)
       case atStart=>exact⟨0,gZ,rfl,R5,uU,ai_⟩
       case round=>
        clear R5 uU ai_ Cc;obtain⟨q,hq,rfl,qX,lq,kW⟩:=hrel;have Ls:=(uD st z q).trans pY
        by_cases h8:q<8
        ·have s0:=lq.cell q gZ
         have v0:=qX.cell q gZ;have f0:=lq.free q
         go_wp2_with fail
         go_region
         go_wp2
         go_roundw
         case rel=>
          refine⟨q+1,gZ,by go_num,?_,?_,?_⟩
          ·exact qX.other _ _ (by show Bv≠bs;omega)
          ·exact lq.set _ _
          ·exact(kW.setCell (fun h=>h.2 rfl) _).drewN 1
         case measure=>simp[intOf];omega
        ·have e8:q=8:=gZ
         have HK:jA .u32 T wr bs (compress kk nO st):=by rw[tq.out,<- Hz.out,<- e8];exact lq
         clear e8 lq qX tq Hz Ls
         go_wp2
         go_end0
         exact⟨rfl,HK,kW⟩
def K:List Int:=[
 0x428a2f98,0x71374491,0xb5c0fbcf,0xe9b5dba5,0x3956c25b,0x59f111f1,0x923f82a4,0xab1c5ed5,
 0xd807aa98,0x12835b01,0x243185be,0x550c7dc3,0x72be5d74,0x80deb1fe,0x9bdc06a7,0xc19bf174,
 0xe49b69c1,0xefbe4786,0x0fc19dc6,0x240ca1cc,0x2de92c6f,0x4a7484aa,0x5cb0a9dc,0x76f988da,
 0x983e5152,0xa831c66d,0xb00327c8,0xbf597fc7,0xc6e00bf3,0xd5a79147,0x06ca6351,0x14292967,
 0x27b70a85,0x2e1b2138,0x4d2c6dfc,0x53380d13,0x650a7354,0x766a0abb,0x81c2c92e,0x92722c85,
 0xa2bfe8a1,0xa81a664b,0xc24b8b70,0xc76c51a3,0xd192e819,0xd6990624,0xf40e3585,0x106aa070,
 0x19a4c116,0x1e376c08,0x2748774c,0x34b0bcb5,0x391c0cb3,0x4ed8aa4a,0x5b9cca4f,0x682e6ff3,
 0x748f82ee,0x78a5636f,0x84c87814,0x8cc70208,0x90befffa,0xa4506ceb,0xbef9a3f7,0xc67178f2]
theorem N1 (w:World):
  Calls prog 166 #[] w fun e w'=>e=.returned (.agg (K.map (Value.int .u32)).toArray) /\ iB w w':=by
 go_enter func166,ntmps166
 go_wp2_with (first|(refine oZ rfl 252 _ rfl (K.map (Value.int .u32)).toArray (by kernel_rfl) ?_)|(refine bL rfl 252 _ _ rfl w.heap.size (K.map (Value.int .u32)).toArray rfl rfl 252 _ (heap_alloc_new _ _) (by kernel_rfl) (by kernel_rfl) (by kernel_rfl) ?_))
 refine cF (results_cell_row rfl _ _ w.heap.size 252 (K.map (Value.int .u32)).toArray (0,0) _ rfl (setRow_heap _ _ _ _ _ _ (heap_alloc_new _ _)) underlying252 rfl (by kernel_rfl)) rfl ⟨rfl,?_⟩;exact below_setRow ((Below.refl _ _).alloc (af _) _) (af _) _
def H0:List Int:=[0x6a09e667,0xbb67ae85,0x3c6ef372,0xa54ff53a,0x510e527f,0x9b05688c,0x1f83d9ab,0x5be0cd19]
def absorb (l st:List Int):Nat -> List Int
 | 0=>st
 | j+1=>compress K (l.drop (64*j)) (absorb l st j)
theorem qL (kk nO st:List Int): (compress kk nO st).length=st.length:=uD st _ 8
theorem qz (l st:List Int) (j:Nat): (absorb l st j).length=st.length:=by
 induction j with
 | zero=>rfl
 | succ j ih=>rw[absorb,qL,ih]
def rG (p:List Int) (e n:Nat):Nat -> List Int
 | 0=>p
 | i+1=>(rG p e n i).set (e - 1 - i) ((n:Int)*8 / 2 ^ (8*i) % 256)
theorem vz (p:List Int) (e n i:Nat): (rG p e n i).length=p.length:=by
 induction i with
 | zero=>rfl
 | succ i ih=>rw[rG,aC,ih]
def xo (st:List Int):Nat -> List Int
 | 0=>List.replicate 32 0
 | i+1=>((((xo st i).set (4*i) (nth st i / 16777216 % 256)).set (4*i+1) (nth st i / 65536 % 256)).set (4*i+2) (nth st i / 256 % 256)).set (4*i+3) (nth st i % 256)
theorem sA (st:List Int) (i:Nat): (xo st i).length=32:=by
 induction i with
 | zero=>rfl
 | succ i ih=>simp[xo,ih]
def p7 (l:List Int):List Int :=
 let j:=l.length / 64
 let rl:=l.drop (64*j)
 let p0:=(rl++List.replicate (128 - rl.length) 0).set rl.length 128
 xo (if 56 <= rl.length then absorb (rG p0 128 l.length 8) (absorb l H0 j) 2 else absorb (rG p0 64 l.length 8) (absorb l H0 j) 1) 8
theorem oD (l:List Int): (p7 l).length=32:=sA _ _
theorem Tryz.adp: (prog.info? 235).map (fun i=>(i.zero,i.size,i.bytes))=some (some (.int .u32 0),1,4):=by kernel_rfl
theorem aj2 (st:List Int) (i:Nat) (h:i<8):
  (#[.int .u32 (nth st 0),.int .u32 (nth st 1),.int .u32 (nth st 2),.int .u32 (nth st 3),.int .u32 (nth st 4),.int .u32 (nth st 5),.int .u32 (nth st 6),.int .u32 (nth st 7)]:Array Value)[i]? = some (.int .u32 (nth st i)):=by
 match i,h with
 | 0,_=>rfl
 | 1,_=>rfl
 | 2,_=>rfl
 | 3,_=>rfl
 | 4,_=>rfl
 | 5,_=>rfl
 | 6,_=>rfl
 | 7,_=>rfl
theorem Te (st:List Int) (i:Nat) (h:i<8) (W:World):
  (Instr.index 257 (.agg #[.int .u32 (nth st 0),.int .u32 (nth st 1),.int .u32 (nth st 2),.int .u32 (nth st 3),.int .u32 (nth st 4),.int .u32 (nth st 5),.int .u32 (nth st 6),.int .u32 (nth st 7)]) (Iq (i:Int))).run prog W=.ok (.int .u32 (nth st i)) W:=by
 obtain⟨it,wM,-,aps,-⟩:=info_parts Tryz.adp;exact Az W _ _ 8 _ it underlying257 wM aps underlying235 rfl _ .i64 i h _ (aj2 st i h)
def Gw:List Value:=List.replicate 128 (.int .u8 0)
theorem ag9 (w:World): (zeroValue 259).run prog w=.ok (.agg Gw.toArray) w:=by kernel_rfl
theorem aeD (v:Value) (l:List Int) (w:World) (hv:Sl .u8 w v l) (hn:l.length <= 1152921504606846975):
  Calls prog 157 #[v] w fun e w'=>e=.returned (.agg ((p7 l).map (Value.int .u8)).toArray) /\ iB w w':=by
 obtain⟨sp,cap,rfl,tC,rO,ji,-⟩:=hv
 go_enter func157,ntmps157
 go_wp2_with fail
 refine(N1 _).mono ?_;rintro e w1 ⟨rfl,mj⟩;obtain⟨hB0,hB1,hb,j5⟩:=Jw mj;clear mj
 go_wp2_with (refine bL rfl 252 _ _ rfl w1.heap.size (K.map (Value.int .u32)).toArray rfl rfl 252 _ (heap_alloc_new _ _) (by kernel_rfl) (by kernel_rfl) (by kernel_rfl) ?_)
 have Js:=setRow_heap _ w1.heap.size _ (K.map (Value.int .u32)).toArray 252 (0,0) (heap_alloc_new w1 (.cells ((List.replicate 64 (0:Int)).map (Value.int .u32)).toArray 252));have qS:iB w1 ((w1.alloc (.cells ((List.replicate 64 (0:Int)).map (Value.int .u32)).toArray 252)).setRow w1.heap.size (K.map (Value.int .u32)).toArray) :=
  below_setRow ((Below.refl _ _).alloc (af _) _) (af _) _
 simp only[List.replicate,aM,cT] at Js qS;generalize World.setRow _ _ _=w2 at Js qS ⊢;have vJ:=lt_of_block Js;have ER:jA .u32 252 w2 w1.heap.size K:=Js;have LU:jA .u8 31 w2 w.heap.size (List.replicate 32 0):=(qS.block w.heap.size gZ).trans hB0;have IJ:jA .u32 257 w2 (w.heap.size+1) H0:=(qS.block (w.heap.size+1) gZ).trans hB1;have jP:=hb.trans (qS.mono gZ);clear Js qS hB0 hB1;obtain⟨BK,hBK⟩:∃BK,BK=w1.heap.size:=⟨_,rfl⟩;rw[<- hBK] at ER vJ j5 ⊢;clear hBK hb;have aeN:0<l.length -> ∃b o,sp=some ⟨b,o,none⟩ /\ b<w.heap.size /\ Row .u8 w b o (l.drop (64*0)):=ji
 go_loopw [5] (fun r wr=>∃j m sq rc,m+64*j=l.length /\ m <= rc /\ rc <= 9223372036854775807 /\ r=.slice sq m rc /\
   (0<m -> ∃b o,sq=some ⟨b,o,none⟩ /\ b<w.heap.size /\ Row .u8 w b o (l.drop (64*j))) /\
   jA .u32 252 wr BK K /\ jA .u8 31 wr w.heap.size (List.replicate 32 0) /\ jA .u32 257 wr (w.heap.size+1) (absorb l H0 j) /\ iB w wr)
  (fun r _=>lenOf r)
 case atStart=>exact⟨0,l.length,sp,cap,gZ,tC,rO,rfl,aeN,ER,LU,IJ,jP⟩
 case round=>
  clear ER LU IJ jP vJ aeN;obtain⟨j,m,sq,rc,hm,aoM,av2,rfl,Y5,ER,LU,IJ,jP⟩:=hrel;have Ls:(absorb l H0 j).length=8:=qz l H0 j;have ahM:=jP.size
  by_cases O3:64 <= m
  ·obtain⟨b,o,rfl,uH,hrw⟩:=Y5 gZ
   have Wa:=hrw.below jP uH;have sD:∀w',jA .u32 257 w' (w.heap.size+1) (compress K (l.drop (64*j)) (absorb l H0 j)) -> ib (fun k=>k<wr.heap.size /\ k≠w.heap.size+1) wr w' ->
     jA .u32 252 w' BK K /\ jA .u8 31 w' w.heap.size (List.replicate 32 0) /\ jA .u32 257 w' (w.heap.size+1) (absorb l H0 (j+1)) /\ iB w w':=by
    intro w' hS Zx;exact⟨ER.ij Zx ⟨ER.lt,gZ⟩,LU.ij Zx ⟨LU.lt,gZ⟩,hS,jP.trans (Zx.mono (fun k hk=>⟨gZ,gZ⟩)).below⟩
   have adl:64 <= (l.drop (64*j)).length:=by rw[aQ];omega
   by_cases uN:rc=64
   ·have arO:m=64:=gZ
    subst arO;subst uN
    go_wp2_with fail
    refine(BH (w.heap.size+1) b o 64 64 BK (absorb l H0 j) (l.drop (64*j)) K 257 252 _ (af _) gZ (af _) gZ IJ Wa ER Ls adl rfl).mono ?_;rintro e w' ⟨rfl,Fe,ID⟩;have oe:=sD w' Fe ID;clear sD Fe ID IJ ER LU jP Wa hrw Y5
    go_wp2
    go_roundw
    case rel=>exact⟨j+1,0,_,0,gZ,gZ,gZ,rfl,fun h=>absurd h gZ,oe⟩
    case measure=>simp[lenOf]
   ·go_wp2_with fail
    refine(BH (w.heap.size+1) b o m rc BK (absorb l H0 j) (l.drop (64*j)) K 257 252 _ O3 gZ aoM gZ IJ Wa ER Ls adl rfl).mono ?_;rintro e w' ⟨rfl,Fe,ID⟩;have oe:=sD w' Fe ID;have an9:Row .u8 w b (o+64) (l.drop (64*(j+1))):=by
     have:=BB hrw 64;rw[dR] at this;rwa [gW]
    clear sD Fe ID IJ ER LU jP Wa hrw Y5
    go_wp2
    go_roundw
    case rel=>exact⟨j+1,m - 64,_,rc - 64,gZ,gZ,gZ,rfl,fun _=>⟨b,o+64,rfl,uH,an9⟩,oe⟩
    case measure=>simp[lenOf];omega
  ·have pP:m<64:=gZ
   have yC:(l.drop (64*j)).length=m:=by rw[aQ];omega
   obtain⟨rl,adZ⟩:∃rl,rl=l.drop (64*j):=⟨_,rfl⟩;rw[<- adZ] at Y5 yC;have Hrl:=eB adZ;clear adZ;have hZ:h_ 259 (wr.alloc (.cells Gw.toArray 259)) wr.heap.size Gw:=h_.mk wr _ _;have hZk:iB wr (wr.alloc (.cells Gw.toArray 259)):=(Below.refl _ _).alloc (af _) _;obtain⟨cs,hcs⟩:∃cs,cs=rl.map (Value.int .u8):=⟨_,rfl⟩;have Hcs:=eB hcs;have mg:cs.length=m:=by rw[hcs];simpa using yC
   have aa3:∀v∈cs,v.oneCell'=true:=by rw[hcs];intro v hv;simp at hv;obtain⟨_,_,rfl⟩:=hv;rfl
   have ajb:0<cs.length -> some (⟨wr.heap.size,0,none⟩:Addr)=some ⟨wr.heap.size,0,none⟩ /\ ∃ad,sq=some ad /\ ∀j v,cs[j]? = some v -> wr.cell? (ad.add j)=some v:=by
    intro h0;refine⟨rfl,?_⟩;obtain⟨b,o,apC,uH,hr⟩:=Y5 gZ;refine⟨_,apC,fun i v hv=>?_⟩;rw[hcs] at hv;have hi:i<rl.length:=by
     rcases aO i rl.length with h|h
     ·exact h
     ·simp[h] at hv
    have:=(hr.below jP uH) i hi;rw[xW,this]
    simpa[nth,hi] using hv
   clear hcs;have UC:0<cs.length -> ∃ad,sq=some ad /\ ∀j v,cs[j]? = some v -> (wr.alloc (.cells Gw.toArray 259)).cell? (ad.add j)=some v:=by
    intro h0;obtain⟨_,ad,e,h⟩:=ajb h0;exact⟨ad,e,fun j v hv=>by have:=h j v hv;rw[<- this];exact World.cell?_alloc_lt _ _ _ (block_lt_of_cell this)⟩
   clear ajb;have ZI:=eB mg;clear mg;have aoE:=ag9
   go_wp2_with (refine wpList_copy_splice rfl (.tmp 24) (.tmp 25) 158 158 rfl 5 underlying158 (by kernel_rfl) _ _ _ _ _ _ rfl rfl wr.heap.size 0 Gw 259 hZ cs ?hn ?hpos ?hfit aa3 wr.heap.size wr hZk (af _) ?hh)
   case hn=>rw[ZI.out];exact(Nat.min_eq_left gZ).symm
   case hpos=>first|exact fun h=>⟨rfl,UC h⟩|exact UC
   case hfit=>rw[ZI.out];show 0+m <= 128;omega
   case hh=>
    intro w3 HG3 Bm;rw[ZI.out];have hL:jA .u8 259 w3 wr.heap.size (rl++List.replicate (128 - m) 0):=by
     have e:splice Gw 0 cs=(rl++List.replicate (128 - m) 0).map (Value.int .u8):=by
      rw[ON _ _ (by rw[ZI.out];show m <= 128;omega),ZI.out,Hcs.out];rw[aK,List.map_replicate];unfold Gw;rw[List.drop_replicate]
     have:=HG3.out;rw[e] at this;exact this
    have W_:=ER.below Bm ER.lt;have Xv:=LU.below Bm LU.lt;have WV:=IJ.below Bm IJ.lt;have xw:=jP.trans (Bm.mono ahM);have SR:BK≠wr.heap.size:=by have:=ER.lt;omega
    have apT:=IJ.lt;obtain⟨BL,hBL⟩:∃BL,BL=wr.heap.size:=⟨_,rfl⟩;rw[<- hBL] at hL SR apT ⊢;clear hBL HG3 Bm ER LU IJ jP ahM UC hZ hZk aa3 Hcs ZI aoE Y5;have EA:(rl++List.replicate (128 - m) 0).length=128:=by simp[yC];omega
    have c0:=hL.cell m gZ;have f0:=hL.free m
    by_cases U9:56 <= m
    ·have am3:(56:Int) <= (m:Int):=gZ
     go_wp2_with fail
     have OQ:=hL.set m 128;have m8:ib (fun k=>k≠BL) w3 (w3.setCell ⟨BL,m,none⟩ (.int .u8 128)):=(ib.refl _ _).setCell (fun h=>h rfl) _;generalize World.setCell _ _ _=w4 at OQ m8 ⊢;have RU:=W_.ij m8 SR;have QC:=Xv.ij m8 gZ;have RQ:=WV.ij m8 gZ;have uA:=xw.trans (m8.mono (fun k (hk:k<w.heap.size)=>by omega)).below;clear W_ Xv WV xw m8 hL EA c0 f0;obtain⟨p0,NK⟩:∃p0,p0=(rl++List.replicate (128 - m) 0).set m 128:=⟨_,rfl⟩;rw[<- NK] at OQ;have mN:p0.length=128:=by rw[NK];simp[yC];omega
     have Hp0:=eB NK;clear NK
     go_loopw [35] (fun c wr=>∃i:Nat,i <= 8 /\ c=Iq i /\ jA .u8 259 wr BL (rG p0 128 l.length i) /\ ib (fun k=>k≠BL) w4 wr) (fun c _=>8 - (intOf c).toNat)
     case atStart=>exact⟨0,gZ,rfl,OQ,ib.refl _ _⟩
     case round=>
      clear OQ;obtain⟨i,hi,rfl,zL,kW⟩:=hrel;have IS:=(vz p0 128 l.length i).trans mN
      by_cases h8:i<8
      ·have c0:=zL.cell (127 - i) gZ
       have f0:=zL.free (127 - i)
       go_wp2_with fail
       go_roundw
       case rel=>exact⟨i+1,gZ,by go_num,zL.set _ _,kW.setCell (fun h=>h rfl) _⟩
       case measure=>simp[intOf];omega
      ·have e8:i=8:=gZ
       rw[e8] at zL IS;clear e8;have Fb:=RU.ij kW SR;have DV:=QC.ij kW gZ;have Eu:=RQ.ij kW gZ;have zJ:=uA.trans (kW.mono (fun k (hk:k<w.heap.size)=>by omega)).below;obtain⟨PL,Vz⟩:∃PL,PL=rG p0 128 l.length 8:=⟨_,rfl⟩;rw[<- Vz] at zL IS;have HPL:=eB Vz;clear RU QC RQ uA kW Vz;obtain⟨S0,rP⟩:∃S0,S0=absorb l H0 j:=⟨_,rfl⟩;rw[<- rP] at Eu Ls;have HS0:=eB rP;clear rP;obtain⟨w5,nY⟩:∃w5,w5=wr:=⟨_,rfl⟩;rw[<- nY] at Fb DV Eu zJ zL ⊢;clear nY
       go_wp2_with fail
       go_loopw [11] (fun c wr=>∃i:Nat,i <= 2 /\ c=Iq (64*(i:Int)) /\ jA .u32 257 wr (w.heap.size+1) (absorb PL S0 i) /\ ib (fun k=>k<w5.heap.size /\ k≠w.heap.size+1) w5 wr) (fun c _=>128 - (intOf c).toNat)
       case atStart=>exact⟨0,gZ,rfl,Eu,ib.refl _ _⟩
       case round=>
        clear Eu;obtain⟨q,hq,rfl,lq,kW⟩:=hrel;have lU:=(qz PL S0 q).trans Ls;have Oh:=zL.ij kW ⟨zL.lt,gZ⟩;have Uj:=Fb.ij kW ⟨Fb.lt,gZ⟩
        by_cases hqn:q<2
        ·have ji:=BB Oh.row (64*q)
         rw[a_] at ji;have j7:64 <= (PL.drop (64*q)).length:=by rw[aQ];omega
         have b0:0 <= 64*(q:Int):=gZ;have b1:64*(q:Int) <= 128:=gZ
         go_wp2_with fail
         refine(BH (w.heap.size+1) BL (64*q) (128 - 64*q) (128 - 64*q) BK (absorb PL S0 q) (PL.drop (64*q)) K 257 252 _ gZ gZ gZ Oh.lt lq ji Uj lU j7 rfl).mono ?_;rintro e w' ⟨rfl,Fe,ID⟩;have ac7:=kW.size;have KL:=kW.trans (ID.mono (fun k hk=>⟨ak hk.1 ac7,hk.2⟩));have ph:jA .u32 257 w' (w.heap.size+1) (absorb PL S0 (q+1)):=Fe;clear Fe ID kW lq Oh Uj ji
         go_wp2_with fail
         go_roundw
         case rel=>exact⟨q+1,gZ,by go_num,ph,KL⟩
         case measure=>simp[intOf];omega
        ·have eq2:q=2:=gZ
         rw[eq2] at lq lU;clear eq2;have TQ:=DV.ij kW ⟨DV.lt,gZ⟩;have DE:=zJ.trans (kW.mono (fun k (hk:k<w.heap.size)=>⟨ak hk zJ.size,gZ⟩)).below;obtain⟨st,pG⟩:∃st,st=absorb PL S0 2:=⟨_,rfl⟩;rw[<- pG] at lq lU;have nw:p7 l=xo st 8:=by
          have ej:j=l.length / 64:=gZ;have erl:=Hrl.out.symm;unfold p7;simp only[<- ej,erl,yC];rw[pG,HPL.out,Hp0.out,HS0.out]
          first|(rw[if_pos U9])|(rw[if_neg U9])
         have tq:=iH.mk nw;clear nw pG Oh Uj kW zL Fb DV zJ;obtain⟨w6,vL⟩:∃w6,w6=wr:=⟨_,rfl⟩;rw[<- vL] at lq TQ DE ⊢;clear vL;have Yx:w6.heap[w.heap.size+1]? = some (.cells (st.map (Value.int .u32)).toArray 257 (0,0)):=lq;have d0:=lq.cell 0 gZ;have d1:=lq.cell 1 gZ;have d2:=lq.cell 2 gZ;have d3:=lq.cell 3 gZ;have d4:=lq.cell 4 gZ;have d5:=lq.cell 5 gZ;have d6:=lq.cell 6 gZ;have d7:=lq.cell 7 gZ;clear Yx
         go_wp2_with fail
         clear d0 d1 d2 d3 d4 d5 d6 d7
         go_loopw [58] (fun c wr=>∃i:Nat,i <= 8 /\ c=Iq i /\ jA .u8 31 wr w.heap.size (xo st i) /\ ib (fun k=>k≠w.heap.size) w6 wr) (fun c _=>8 - (intOf c).toNat)
         case atStart=>exact⟨0,gZ,rfl,TQ,ib.refl _ _⟩
         case round=>
          clear TQ lq;obtain⟨i,hi,rfl,hOr,kW⟩:=hrel;have hol:=sA st i
          by_cases hi8:i<8
          ·have c0:=hOr.cell (4*i) gZ
           have c1:=hOr.cell (4*i+1) gZ;have c2:=hOr.cell (4*i+2) gZ;have c3:=hOr.cell (4*i+3) gZ;have f0:=hOr.free (4*i);have f1:=hOr.free (4*i+1);have f2:=hOr.free (4*i+2);have f3:=hOr.free (4*i+3);have F_:=Te st i hi8
           go_wp2_with fail
           go_roundw
           case rel=>exact⟨i+1,gZ,by go_num,(((hOr.set _ _).set _ _).set _ _).set _ _,(((kW.setCell (fun h=>h rfl) _).setCell (fun h=>h rfl) _).setCell (fun h=>h rfl) _).setCell (fun h=>h rfl) _⟩
           case measure=>simp[intOf];omega
          ·have e9:i=8:=gZ
           rw[e9] at hOr;clear e9;obtain⟨hh,xQ⟩:∃hh,hh=p7 l:=⟨_,rfl⟩;have J2:hh.length=32:=by rw[xQ];exact oD l
           rw[<- tq.out,<- xQ] at hOr;have VY:=iH.mk xQ;clear xQ;have uF:wr.heap[w.heap.size]? = some (.cells (hh.map (Value.int .u8)).toArray 31 (0,0)):=hOr;have Dl:=DE.trans (kW.mono (fun k (hk:k<w.heap.size)=>by omega)).below;clear hOr hol kW tq DE;have G2:(prog.info? 31).map (·.size)=some (hh.map (Value.int .u8)).toArray.size:=by
            rw[b_,av,J2];kernel_rfl
           have lx:(hh.map (Value.int .u8)).toArray.all (·.oneCell')=true:=by simp[Value.oneCell']
           have Ay:=iH.mk G2;have CN:=iH.mk lx;have UD:=iH.mk uF;clear G2 lx uF J2
           go_wp2_with (first|(refine fp rfl 31 (.tmp 2) rfl w.heap.size rfl 31 (hh.map (Value.int .u8)).toArray (0,0) _ UD.out underlying31 rfl Ay.out ?_)|(refine bL rfl 31 (.tmp 2) (.tmp 89) rfl w.heap.size (hh.map (Value.int .u8)).toArray rfl rfl 31 (hh.map (Value.int .u8)).toArray UD.out Ay.out rfl CN.out ?_))
           refine cF (results_cell_row rfl _ _ w.heap.size 31 (hh.map (Value.int .u8)).toArray (0,0) _ rfl (setRow_heap _ _ _ _ _ _ UD.out) underlying31 rfl Ay.out) rfl ⟨by rw[VY.out],?_⟩;exact below_setRow Dl (af _) _
    ·have am3:decide ((56:Int) <= (m:Int))=false:=decide_eq_false gZ
     go_wp2_with fail
     have OQ:=hL.set m 128;have m8:ib (fun k=>k≠BL) w3 (w3.setCell ⟨BL,m,none⟩ (.int .u8 128)):=(ib.refl _ _).setCell (fun h=>h rfl) _;generalize World.setCell _ _ _=w4 at OQ m8 ⊢;have RU:=W_.ij m8 SR;have QC:=Xv.ij m8 gZ;have RQ:=WV.ij m8 gZ;have uA:=xw.trans (m8.mono (fun k (hk:k<w.heap.size)=>by omega)).below;clear W_ Xv WV xw m8 hL EA c0 f0;obtain⟨p0,NK⟩:∃p0,p0=(rl++List.replicate (128 - m) 0).set m 128:=⟨_,rfl⟩;rw[<- NK] at OQ;have mN:p0.length=128:=by rw[NK];simp[yC];omega
     have Hp0:=eB NK;clear NK
     go_loopw [35] (fun c wr=>∃i:Nat,i <= 8 /\ c=Iq i /\ jA .u8 259 wr BL (rG p0 64 l.length i) /\ ib (fun k=>k≠BL) w4 wr) (fun c _=>8 - (intOf c).toNat)
     case atStart=>exact⟨0,gZ,rfl,OQ,ib.refl _ _⟩
     case round=>
      clear OQ;obtain⟨i,hi,rfl,zL,kW⟩:=hrel;have IS:=(vz p0 64 l.length i).trans mN
      by_cases h8:i<8
      ·have c0:=zL.cell (63 - i) gZ
       have f0:=zL.free (63 - i)
       go_wp2_with fail
       go_roundw
       case rel=>exact⟨i+1,gZ,by go_num,zL.set _ _,kW.setCell (fun h=>h rfl) _⟩
       case measure=>simp[intOf];omega
      ·have e8:i=8:=gZ
       rw[e8] at zL IS;clear e8;have Fb:=RU.ij kW SR;have DV:=QC.ij kW gZ;have Eu:=RQ.ij kW gZ;have zJ:=uA.trans (kW.mono (fun k (hk:k<w.heap.size)=>by omega)).below;obtain⟨PL,Vz⟩:∃PL,PL=rG p0 64 l.length 8:=⟨_,rfl⟩;rw[<- Vz] at zL IS;have HPL:=eB Vz;clear RU QC RQ uA kW Vz;obtain⟨S0,rP⟩:∃S0,S0=absorb l H0 j:=⟨_,rfl⟩;rw[<- rP] at Eu Ls;have HS0:=eB rP;clear rP;obtain⟨w5,nY⟩:∃w5,w5=wr:=⟨_,rfl⟩;rw[<- nY] at Fb DV Eu zJ zL ⊢;clear nY
       go_wp2_with fail
       go_loopw [11] (fun c wr=>∃i:Nat,i <= 1 /\ c=Iq (64*(i:Int)) /\ jA .u32 257 wr (w.heap.size+1) (absorb PL S0 i) /\ ib (fun k=>k<w5.heap.size /\ k≠w.heap.size+1) w5 wr) (fun c _=>64 - (intOf c).toNat)
       case atStart=>exact⟨0,gZ,rfl,Eu,ib.refl _ _⟩
       case round=>
        clear Eu;obtain⟨q,hq,rfl,lq,kW⟩:=hrel;have lU:=(qz PL S0 q).trans Ls;have Oh:=zL.ij kW ⟨zL.lt,gZ⟩;have Uj:=Fb.ij kW ⟨Fb.lt,gZ⟩
        by_cases hqn:q<1
        ·have ji:=BB Oh.row (64*q)
         rw[a_] at ji;have j7:64 <= (PL.drop (64*q)).length:=by rw[aQ];omega
         have b0:0 <= 64*(q:Int):=gZ;have b1:64*(q:Int) <= 128:=gZ
         go_wp2_with fail
         refine(BH (w.heap.size+1) BL (64*q) (128 - 64*q) (128 - 64*q) BK (absorb PL S0 q) (PL.drop (64*q)) K 257 252 _ gZ gZ gZ Oh.lt lq ji Uj lU j7 rfl).mono ?_;rintro e w' ⟨rfl,Fe,ID⟩;have ac7:=kW.size;have KL:=kW.trans (ID.mono (fun k hk=>⟨ak hk.1 ac7,hk.2⟩));have ph:jA .u32 257 w' (w.heap.size+1) (absorb PL S0 (q+1)):=Fe;clear Fe ID kW lq Oh Uj ji
         go_wp2_with fail
         go_roundw
         case rel=>exact⟨q+1,gZ,by go_num,ph,KL⟩
         case measure=>simp[intOf];omega
        ·have eq2:q=1:=gZ
         rw[eq2] at lq lU;clear eq2;have TQ:=DV.ij kW ⟨DV.lt,gZ⟩;have DE:=zJ.trans (kW.mono (fun k (hk:k<w.heap.size)=>⟨ak hk zJ.size,gZ⟩)).below;obtain⟨st,pG⟩:∃st,st=absorb PL S0 1:=⟨_,rfl⟩;rw[<- pG] at lq lU;have nw:p7 l=xo st 8:=by
          have ej:j=l.length / 64:=gZ;have erl:=Hrl.out.symm;unfold p7;simp only[<- ej,erl,yC];rw[pG,HPL.out,Hp0.out,HS0.out]
          first|(rw[if_pos U9])|(rw[if_neg U9])
         have tq:=iH.mk nw;clear nw pG Oh Uj kW zL Fb DV zJ;obtain⟨w6,vL⟩:∃w6,w6=wr:=⟨_,rfl⟩;rw[<- vL] at lq TQ DE ⊢;clear vL;have Yx:w6.heap[w.heap.size+1]? = some (.cells (st.map (Value.int .u32)).toArray 257 (0,0)):=lq;have d0:=lq.cell 0 gZ;have d1:=lq.cell 1 gZ;have d2:=lq.cell 2 gZ;have d3:=lq.cell 3 gZ;have d4:=lq.cell 4 gZ;have d5:=lq.cell 5 gZ;have d6:=lq.cell 6 gZ;have d7:=lq.cell 7 gZ;clear Yx
         go_wp2_with fail
         clear d0 d1 d2 d3 d4 d5 d6 d7
         go_loopw [58] (fun c wr=>∃i:Nat,i <= 8 /\ c=Iq i /\ jA .u8 31 wr w.heap.size (xo st i) /\ ib (fun k=>k≠w.heap.size) w6 wr) (fun c _=>8 - (intOf c).toNat)
         case atStart=>exact⟨0,gZ,rfl,TQ,ib.refl _ _⟩
         case round=>
          clear TQ lq;obtain⟨i,hi,rfl,hOr,kW⟩:=hrel;have hol:=sA st i
          by_cases hi8:i<8
          ·have c0:=hOr.cell (4*i) gZ
           have c1:=hOr.cell (4*i+1) gZ;have c2:=hOr.cell (4*i+2) gZ;have c3:=hOr.cell (4*i+3) gZ;have f0:=hOr.free (4*i);have f1:=hOr.free (4*i+1);have f2:=hOr.free (4*i+2);have f3:=hOr.free (4*i+3);have F_:=Te st i hi8
           go_wp2_with fail
           go_roundw
           case rel=>exact⟨i+1,gZ,by go_num,(((hOr.set _ _).set _ _).set _ _).set _ _,(((kW.setCell (fun h=>h rfl) _).setCell (fun h=>h rfl) _).setCell (fun h=>h rfl) _).setCell (fun h=>h rfl) _⟩
           case measure=>simp[intOf];omega
          ·have e9:i=8:=gZ
           rw[e9] at hOr;clear e9;obtain⟨hh,xQ⟩:∃hh,hh=p7 l:=⟨_,rfl⟩;have J2:hh.length=32:=by rw[xQ];exact oD l
           rw[<- tq.out,<- xQ] at hOr;have VY:=iH.mk xQ;clear xQ;have uF:wr.heap[w.heap.size]? = some (.cells (hh.map (Value.int .u8)).toArray 31 (0,0)):=hOr;have Dl:=DE.trans (kW.mono (fun k (hk:k<w.heap.size)=>by omega)).below;clear hOr hol kW tq DE;have G2:(prog.info? 31).map (·.size)=some (hh.map (Value.int .u8)).toArray.size:=by
            rw[b_,av,J2];kernel_rfl
           have lx:(hh.map (Value.int .u8)).toArray.all (·.oneCell')=true:=by simp[Value.oneCell']
           have Ay:=iH.mk G2;have CN:=iH.mk lx;have UD:=iH.mk uF;clear G2 lx uF J2
           go_wp2_with (first|(refine fp rfl 31 (.tmp 2) rfl w.heap.size rfl 31 (hh.map (Value.int .u8)).toArray (0,0) _ UD.out underlying31 rfl Ay.out ?_)|(refine bL rfl 31 (.tmp 2) (.tmp 89) rfl w.heap.size (hh.map (Value.int .u8)).toArray rfl rfl 31 (hh.map (Value.int .u8)).toArray UD.out Ay.out rfl CN.out ?_))
           refine cF (results_cell_row rfl _ _ w.heap.size 31 (hh.map (Value.int .u8)).toArray (0,0) _ rfl (setRow_heap _ _ _ _ _ _ UD.out) underlying31 rfl Ay.out) rfl ⟨by rw[VY.out],?_⟩;exact below_setRow Dl (af _) _
theorem Ua (x n:Int) (w:World) (hn:0 <= n) (uB:n <= 32):
  Calls prog 168 #[.int .u32 x,.int .u64 n] w fun e w'=>e=.returned (.int .u32 (yx x n)) /\ w=w':=by
 go_enter func168,ntmps168
 go_wp2
 go_ret
 exact⟨rfl,rfl⟩
theorem agK (x n:Int) (w:World) (hn:0 <= n) (uB:n <= 32):
  Calls prog 168 #[.int .u32 x,.int .u64 n] w fun e w'=>e=.returned (.int .u32 (yx x n)) /\ w'=w :=
 (Ua x n w hn uB).mono fun _ _ ⟨a,b⟩=>⟨a,b.symm⟩
theorem aly (w:World):
  Calls prog 163 #[] w fun e w'=>e=.returned (.agg (K.map (Value.int .u32)).toArray) /\ iB w w':=by
 go_enter func163,ntmps163
 go_wp2_with (first|(refine oZ rfl 252 _ rfl (K.map (Value.int .u32)).toArray (by kernel_rfl) ?_)|(refine bL rfl 252 _ _ rfl w.heap.size (K.map (Value.int .u32)).toArray rfl rfl 252 _ (heap_alloc_new _ _) (by kernel_rfl) (by kernel_rfl) (by kernel_rfl) ?_))
 refine cF (results_cell_row rfl _ _ w.heap.size 252 (K.map (Value.int .u32)).toArray (0,0) _ rfl (setRow_heap _ _ _ _ _ _ (heap_alloc_new _ _)) underlying252 rfl (by kernel_rfl)) rfl ⟨rfl,?_⟩;exact below_setRow ((Below.refl _ _).alloc (af _) _) (af _) _
def Z64:List Int:=List.replicate 64 0
theorem WZ (w:World): (zeroValue 252).run prog w=.ok (.agg (Z64.map (Value.int .u32)).toArray) w:=by kernel_rfl
def Z8:List Int:=List.replicate 8 0
theorem afy (w:World): (zeroValue 251).run prog w=.ok (.agg (Z8.map (Value.int .u32)).toArray) w:=by kernel_rfl
theorem anK (T:TypeId) (w:World) (l:List Int) (h:l.length=8):
  jA .u32 T (w.alloc (.cells #[.int .u32 (nth l 0),.int .u32 (nth l 1),.int .u32 (nth l 2),.int .u32 (nth l 3),.int .u32 (nth l 4),.int .u32 (nth l 5),.int .u32 (nth l 6),.int .u32 (nth l 7)] T)) w.heap.size l:=by
 have:=h_.mk w (l.map (Value.int .u32)) T
 match l,h with
 | [a,b,c,d,e,f,g,i],_=>exact this
theorem V8 (bb ob n cap bk:Nat) (st nO kk:List Int) (T':TypeId) (w:World) (hn:64 <= n) (uB:n <= 9223372036854775807) (Ji:bb<w.heap.size) (rp:Row .u8 w bb ob nO) (wH:jA .u32 T' w bk kk) (pY:st.length=8) (qB:64 <= nO.length) (nG:kk.length=64):
  Calls prog 164 #[.agg (st.map (Value.int .u32)).toArray,.slice (some ⟨bb,ob,none⟩) n cap,iF bk] w
   fun e w'=>e=.returned (.agg ((compress kk nO st).map (Value.int .u32)).toArray) /\ iB w w':=by
 have xU:=wH.lt;have adJ:=WZ;have apc:=afy
 go_enter func164,ntmps164
 go_wp2
 clear adJ apc;obtain⟨hA,hB,hC,jP,j5⟩:=Pf w (.cells (st.map (Value.int .u32)).toArray 251) (.cells (Z8.map (Value.int .u32)).toArray 251) (.cells (Z64.map (Value.int .u32)).toArray 252);generalize World.alloc _ _=w0 at hA hB hC jP j5 ⊢;have hS:jA .u32 251 w0 w.heap.size st:=hA;have hR:jA .u32 251 w0 (w.heap.size+1) Z8:=hB;have hW:jA .u32 252 w0 (w.heap.size+1+1) (load nO 0):=hC;clear hA hB hC
 go_loopw [8] (fun c wr=>∃i:Nat,i <= 16 /\ c=Iq i /\ jA .u32 252 wr (w.heap.size+1+1) (load nO i) /\ ib (fun k=>k≠w.heap.size+1+1) w0 wr)
  (fun c _=>16 - (intOf c).toNat)
 case atStart=>exact⟨0,gZ,rfl,hW,ib.refl _ _⟩
 case round=>
  clear hW;obtain⟨i,hi,rfl,oO,kW⟩:=hrel;have OB:=sy nO i
  by_cases Pq:i<16
  ·have ji:=(rp.below jP Ji).ij kW gZ
   have c0:=oO.cell i gZ;have f0:=oO.free i;have a0:=ji.at (4*i) gZ;have a1:=ji.yV (4*i+1) (ob+(4*i+1)) gZ gZ;have a2:=ji.yV (4*i+2) (ob+(4*i+2)) gZ gZ;have a3:=ji.yV (4*i+3) (ob+(4*i+3)) gZ gZ;have b0:4*(i:Int)<n:=gZ;have b1:4*(i:Int)+1<n:=gZ;have b2:4*(i:Int)+2<n:=gZ;have b3:4*(i:Int)+3<n:=gZ
   go_wp2_with fail
   go_region
   go_wp2
   go_roundw
   case rel=>exact⟨i+1,gZ,by go_num,oO.set _ _,(kW.setCell (fun h=>h rfl) _).drewN 1⟩
   case measure=>simp[intOf];omega
  ·have UU:i=16:=gZ
   rw[UU] at oO;clear UU OB;have awp:decide ((i:Int)<16)=false:=decide_eq_false gZ
   go_wp2
   go_loopw [9] (fun c wr=>∃i:Nat,i <= 48 /\ c=Iq (16+(i:Int)) /\ jA .u32 252 wr (w.heap.size+1+1) (sched (load nO 16) i) /\ ib (fun k=>k≠w.heap.size+1+1) w0 wr)
    (fun c _=>64 - (intOf c).toNat)
   case atStart=>exact⟨0,gZ,rfl,oO,kW⟩
   case round=>
    clear oO kW;obtain⟨i,u_,rfl,oO,kW⟩:=hrel;have OB:=(xB (load nO 16) i).trans (sy nO 16)
    by_cases h48:i<48
    ·have c0:=oO.cell (16+i) gZ
     have c1:=oO.F3 (16+i - 15) (i+1) gZ gZ;have c2:=oO.F3 (16+i - 2) (i+14) gZ gZ;have c3:=oO.cell i gZ;have c4:=oO.F3 (16+i - 7) (i+9) gZ gZ;have f0:=oO.free (16+i)
     go_wp2_with fail
     refine fi 29 (by kernel_rfl) (by kernel_rfl) ?_;simp only[bY,bR,cJ,dM];rw[show({ heap:=wr.heap,tape:=wr.tape,drawn:=wr.drawn+1,os:=wr.os,output:=wr.output }:World)=wr.drew from rfl];have g0:(i:Int)<64:=gZ;have g9:(i:Int)+9<64:=gZ;have g1:(16+(i:Int))<64:=gZ;have K_:0 <= (16+(i:Int)):=gZ;have gt:(16+(i:Int)).toNat=16+i:=gZ;have e1:IntKind.i64.wrap (16+(i:Int) - 16)=(i:Int):=(bG _ gZ).trans gZ;have e2:IntKind.i64.wrap (16+(i:Int) - 7)=(i:Int)+9:=(bG _ gZ).trans gZ;have p9:0 <= (i:Int)+9:=gZ;have t9:((i:Int)+9).toNat=i+9:=gZ;have c9:=oO.cell (i+9) gZ
     repeat (first|still_step|still_call (agK _ _ _ j9 j9))
     clear e1 e2 gt;refine wpStill_nil ?_
     go_wp2
     go_roundw
     case rel=>exact⟨i+1,gZ,by go_num,oO.set _ _,(kW.setCell (fun h=>h rfl) _).drewN 1⟩
     case measure=>simp[intOf];omega
    ·have e48:i=48:=gZ
     rw[e48] at oO OB;clear e48;have awr:decide (16+(i:Int)<64)=false:=decide_eq_false gZ;have lq:=hS.ij kW gZ;have UM:=hR.ij kW gZ;have rR:=(wH.below jP xU).ij kW gZ;have nJ:=jP.trans (kW.mono (fun k (hk:k<w.heap.size)=>by omega)).below;have Yb:=oO.lt;have d0:=lq.cell 0 gZ;have d1:=lq.cell 1 gZ;have d2:=lq.cell 2 gZ;have d3:=lq.cell 3 gZ;have d4:=lq.cell 4 gZ;have d5:=lq.cell 5 gZ;have d6:=lq.cell 6 gZ;have d7:=lq.cell 7 gZ
     go_wp2
     have hV:=anK 251 wr st pY;have KL:ib (fun k=>k<wr.heap.size) wr _:=ib.ic ((Below.refl wr.heap.size wr).alloc (af _) (.cells #[.int .u32 (nth st 0),.int .u32 (nth st 1),.int .u32 (nth st 2),.int .u32 (nth st 3),.int .u32 (nth st 4),.int .u32 (nth st 5),.int .u32 (nth st 6),.int .u32 (nth st 7)] 251));generalize World.alloc _ _=w2 at hV KL ⊢;clear d0 d1 d2 d3 d4 d5 d6 d7 hS hR jP;have ph:=lq.ij KL lq.lt;have hR2:=UM.ij KL UM.lt;have lk:=rR.ij KL rR.lt;have QW:=oO.ij KL oO.lt;have vB:=nJ.trans (KL.mono (fun k (hk:k<w.heap.size)=>by omega)).below;clear lq UM rR oO nJ KL kW;generalize wr.heap.size=Bv at hV Yb ⊢;obtain⟨W,V6⟩:∃W,W=sched (load nO 16) 48:=⟨_,rfl⟩;rw[<- V6] at QW OB;have HW:=iH.mk V6;clear V6
     go_loopw [13] (fun c wr=>∃i:Nat,i <= 64 /\ c=Iq i /\ jA .u32 251 wr Bv (rounds kk W st i) /\ ib (fun k=>k≠Bv) w2 wr)
      (fun c _=>64 - (intOf c).toNat)
     case atStart=>exact⟨0,gZ,rfl,hV,ib.refl _ _⟩
     case round=>
      clear hV;obtain⟨r,hr,rfl,qX,kW⟩:=hrel;have pK:=sG kk W st r pY;obtain⟨v,HC⟩:∃v,v=rounds kk W st r:=⟨_,rfl⟩;rw[<- HC] at qX pK;have Hv:=iH.mk HC;clear HC
      by_cases am1:r<64
      ·have Qp:=lk.ij kW gZ
       have oO:=QW.ij kW gZ;have d0:=qX.cell 0 gZ;have d1:=qX.cell 1 gZ;have d2:=qX.cell 2 gZ;have d3:=qX.cell 3 gZ;have d4:=qX.cell 4 gZ;have d5:=qX.cell 5 gZ;have d6:=qX.cell 6 gZ;have d7:=qX.cell 7 gZ;have f0:=qX.free;have k0:=Qp.cell r gZ;have w0:=oO.cell r gZ
       go_wp2_with fail
       go_quiet (fail)
       go_wp2_with fail
       go_quiet ((go_at_call 168;exact rF (Ua _ _ _ gZ gZ)))
       go_wp2_with fail
       go_quiet ((go_at_call 168;exact rF (Ua _ _ _ gZ gZ)))
       go_wp2
       go_roundw
       case rel=>
        refine⟨r+1,gZ,by go_num,?_,Z7 (kW.drewN _) (fun h=>h rfl) _ _ _ _ _ _ _ _⟩;rw[rounds,<- Hv.out];exact aiG (qX.drewN _) pK _ _ _ _ _ _ _ _
       case measure=>simp[intOf];omega
      ·have e64:r=64:=gZ
       have awq:decide ((r:Int)<64)=false:=decide_eq_false gZ;have R5:jA .u32 251 wr Bv (rounds kk W st 64):=by rw[<- e64,<- Hv.out];exact qX
       have lq:=ph.ij kW gZ;have UM:=hR2.ij kW gZ;have nJ:=vB.trans (kW.mono (fun k (hk:k<w.heap.size)=>by omega)).below;have Cn:=sG kk W st 64 pY;have nw:compress kk nO st=sP st (rounds kk W st 64) 8:=by rw[HW.out];rfl
       have tq:=iH.mk nw;obtain⟨z,hz⟩:∃z,z=rounds kk W st 64:=⟨_,rfl⟩;rw[<- hz] at R5 Cn;have Hz:=iH.mk hz;clear hz nw e64 qX pK Hv HW kW ph hR2 vB QW lk OB
       go_wp2
       obtain⟨w3,mG⟩:∃w3,w3=wr:=⟨_,rfl⟩;rw[<- mG] at R5 lq UM nJ ⊢;clear mG
       go_loopw [18] (fun c wr=>∃i:Nat,i <= 8 /\ c=Iq i /\ jA .u32 251 wr w.heap.size (sP st z i) /\ ib (fun k=>k≠w.heap.size) w3 wr)
        (fun c _=>8 - (intOf c).toNat)
       case atStart=>exact⟨0,gZ,rfl,lq,ib.refl _ _⟩
       case round=>
        clear lq;obtain⟨q,hq,rfl,lq,kW⟩:=hrel;have Ls:=(uD st z q).trans pY
        by_cases h8:q<8
        ·have qX:=R5.ij kW gZ
         have s0:=lq.cell q gZ;have v0:=qX.cell q gZ;have f0:=lq.free q
         go_wp2_with fail
         go_region
         go_wp2
         go_roundw
         case rel=>exact⟨q+1,gZ,by go_num,lq.set _ _,(kW.setCell (fun h=>h rfl) _).drewN 1⟩
         case measure=>simp[intOf];omega
        ·have e8:q=8:=gZ
         have hd8:decide ((q:Int)<8)=false:=decide_eq_false gZ;obtain⟨hh,xQ⟩:∃hh,hh=compress kk nO st:=⟨_,rfl⟩;have HK:jA .u32 251 wr w.heap.size hh:=by rw[xQ,tq.out,<- Hz.out,<- e8];exact lq
         have tg:hh.length=8:=by rw[xQ,qL,pY]
         have VY:=iH.mk xQ;have amN:=UM.ij kW gZ;have Dl:=nJ.trans (kW.mono (fun k (hk:k<w.heap.size)=>by omega)).below;clear xQ e8 lq R5 tq Hz Ls UM nJ kW;have d0:=HK.cell 0 gZ;have d1:=HK.cell 1 gZ;have d2:=HK.cell 2 gZ;have d3:=HK.cell 3 gZ;have d4:=HK.cell 4 gZ;have d5:=HK.cell 5 gZ;have d6:=HK.cell 6 gZ;have d7:=HK.cell 7 gZ;have qD:wr.heap[w.heap.size+1]? = some (.cells (Z8.map (Value.int .u32)).toArray 251 (0,0)):=amN;have eq8:(#[.int .u32 (nth hh 0),.int .u32 (nth hh 1),.int .u32 (nth hh 2),.int .u32 (nth hh 3),.int .u32 (nth hh 4),.int .u32 (nth hh 5),.int .u32 (nth hh 6),.int .u32 (nth hh 7)]:Array Value)=(hh.map (Value.int .u32)).toArray:=by
          conv=>rhs;rw[eight hh tg]
          rfl
         have lx:(#[.int .u32 (nth hh 0),.int .u32 (nth hh 1),.int .u32 (nth hh 2),.int .u32 (nth hh 3),.int .u32 (nth hh 4),.int .u32 (nth hh 5),.int .u32 (nth hh 6),.int .u32 (nth hh 7)]:Array Value).all (·.oneCell')=true:=by rw[eq8];simp[Value.oneCell']
         have CN:=iH.mk lx;clear lx;have Eq8:=iH.mk eq8;have Hg1:=iH.mk qD;clear eq8 qD
         go_wp2_with (refine bL rfl 251 (.tmp 6) (.tmp 195) rfl (w.heap.size+1) (#[.int .u32 (nth hh 0),.int .u32 (nth hh 1),.int .u32 (nth hh 2),.int .u32 (nth hh 3),.int .u32 (nth hh 4),.int .u32 (nth hh 5),.int .u32 (nth hh 6),.int .u32 (nth hh 7)]) rfl rfl 251 (Z8.map (Value.int .u32)).toArray Hg1.out (by kernel_rfl) rfl CN.out ?_)
         refine cF (results_cell_row rfl _ _ (w.heap.size+1) 251 _ (0,0) _ rfl (setRow_heap _ _ _ _ _ _ Hg1.out) underlying251 rfl (by kernel_rfl)) rfl ⟨by rw[Eq8.out,VY.out],?_⟩;exact below_setRow Dl gZ _
theorem zO: Qs prog 158 5 1:=Qs.mk' (k:=.u8) (x:=0) underlying158 (by kernel_rfl)
def zs (n:Nat):List Int:=List.replicate n 0
def lenB (n:Nat):Nat -> List Int
 | 0=>[]
 | i+1=>lenB n i++[(n:Int)*8 / 2 ^ (8*(7 - i)) % 256]
theorem qG (n i:Nat): (lenB n i).length=i:=by
 induction i with
 | zero=>rfl
 | succ i ih=>simp[lenB,ih]
def lB:List Int:=List.replicate 32 0
theorem vh (w:World): (zeroValue 31).run prog w=.ok (.agg (lB.map (Value.int .u8)).toArray) w:=by kernel_rfl
def pR (n:Nat):Nat:=(119 - n % 64) % 64
theorem DB (n z:Nat) (hz:z <= pR n): ((n+1+z) % 64=56) ↔ z=pR n:=by unfold pR at *;omega
def pt (l:List Int):List Int:=l++[128]++zs (pR l.length)++lenB l.length 8
def CK (st:List Int):Nat -> List Int
 | 0=>lB
 | i+1=>(CK st i).set i (nth st (i / 4) / 2 ^ (24 - 8*(i % 4)) % 256)
theorem sQ (st:List Int) (i:Nat): (CK st i).length=32:=by
 induction i with
 | zero=>rfl
 | succ i ih=>simp[CK,ih]
def Nq (l:List Int):List Int:=CK (absorb (pt l) H0 ((pt l).length / 64)) 32
theorem Zl {k:IntKind}{e:TypeId}{base n c:Nat}(h:oa k e w base (.slice sp n c) l) (h0:0<l.length):
  ∃g,sp=some ⟨g,0,none⟩ /\ n=l.length /\ base <= g /\ g<w.heap.size /\ l.length <= c /\ c <= 9223372036854775807 /\ Row k w g 0 l:=by
 rcases h.block with⟨e1,e2⟩|⟨g,cap,rest,e1,hg,h1,h2,hb,-⟩
 ·rw[e2] at h0;simp at h0
 ·injection e1 with e1 e2 e3
  subst e1 e2 e3;exact⟨g,rfl,rfl,hg,hb.lt,h1,by unfold maxLen at h2;exact h2,h.row⟩
theorem yF {K:Nat -> Prop}{a:World}(h:ib K a w) {g:Nat}(hg:¬K g) (cs:Array Value): ib K a (w.setRow g cs) :=
 h.trans ⟨rfl,rfl,rfl,iz,fun k hk=>setRow_other w g k cs (fun e=>hg (e ▸ hk))⟩
theorem U3 {w1:World}{A:Obj}(hb:Below (w.alloc A).heap.size (w.alloc A) w1):
  w1.heap[w.heap.size]? = some A /\ iB w w1 /\ w.heap.size+1 <= w1.heap.size:=by
 have hs:(w.alloc A).heap.size=w.heap.size+1:=iz;refine⟨?_,?_,?_⟩
 ·rw[hb.block _ (by rw[hs];omega),heap_alloc_new]
 ·exact((Below.refl _ _).alloc (af _) _).trans (hb.mono (by rw[hs];omega))
 ·rw[<- hs];exact hb.size
theorem Qu (bb ob n cap bk:Nat) (st nO kk:List Int) (T':TypeId) (w:World) (hn:64 <= n) (uB:n <= 9223372036854775807) (Ji:bb<w.heap.size) (rp:Row .u8 w bb ob nO) (wH:jA .u32 T' w bk kk) (pY:st.length=8) (qB:64 <= nO.length) (nG:kk.length=64):
  Calls prog 164 #[.agg #[.int .u32 (nth st 0),.int .u32 (nth st 1),.int .u32 (nth st 2),.int .u32 (nth st 3),.int .u32 (nth st 4),.int .u32 (nth st 5),.int .u32 (nth st 6),.int .u32 (nth st 7)],.slice (some ⟨bb,ob,none⟩) n cap,iF bk] w
   fun e w'=>e=.returned (.agg ((compress kk nO st).map (Value.int .u32)).toArray) /\ iB w w':=by
 have e:(#[.int .u32 (nth st 0),.int .u32 (nth st 1),.int .u32 (nth st 2),.int .u32 (nth st 3),.int .u32 (nth st 4),.int .u32 (nth st 5),.int .u32 (nth st 6),.int .u32 (nth st 7)]:Array Value)=(st.map (Value.int .u32)).toArray:=by
  conv=>rhs;rw[eight st pY]
  rfl
 rw[e];exact V8 bb ob n cap bk st nO kk T' w hn uB Ji rp wH pY qB nG
theorem RT (v:Value) (l:List Int) (w:World) (hv:Sl .u8 w v l) (hn:l.length <= 35184372088832):
  Calls prog 152 #[v] w fun e w'=>e=.returned (.agg ((Nq l).map (Value.int .u8)).toArray) /\ iB w w':=by
 have tD:=hv;obtain⟨sp,cap,rfl,-,-,-,-⟩:=tD;have ac4:=vh;have hE0:oa .u8 5 ((w.alloc (.cells (lB.map (Value.int .u8)).toArray 31)).alloc (.cells #[] 5)) (w.heap.size+1) (.slice (some ⟨w.heap.size+1,0,none⟩) 0 0) []:=by
  have:=oa.empty (k:=.u8) (e:=5) (w:=w.alloc (.cells (lB.map (Value.int .u8)).toArray 31)) (base:=w.heap.size+1) iz
  simpa using this
 have hBe:iB w ((w.alloc (.cells (lB.map (Value.int .u8)).toArray 31)).alloc (.cells #[] 5)):=((Below.refl _ w).alloc (af _) _).alloc iz _;have QJ:=hv.ic hBe;have hHe:jA .u8 31 ((w.alloc (.cells (lB.map (Value.int .u8)).toArray 31)).alloc (.cells #[] 5)) w.heap.size lB:=jA.alloc (h_.mk w _ _) _;have hze:((w.alloc (.cells (lB.map (Value.int .u8)).toArray 31)).alloc (.cells #[] 5)).heap.size=w.heap.size+2:=iz;obtain⟨W0,hW0⟩:∃W0,W0=((w.alloc (.cells (lB.map (Value.int .u8)).toArray 31)).alloc (.cells #[] 5)):=⟨_,rfl⟩;have rL:=hE0;rw[<- hW0] at hHe hBe hze hE0 QJ;have HE1:=iH.mk rL;have HW0:=iH.mk hW0;clear rL hW0
 go_enter func152,ntmps152
 go_wp2_with (refine wY rfl (.tmp 11) (.tmp 12) 158 rfl zO (w.heap.size+1) _ [] rfl HE1.out _ l rfl (by rw[<- HW0.out];exact QJ) l.length ?h1 ?h2 ?h3 ?h4 ?h5)
 case h1=>simp
 case h2=>unfold maxLen;omega
 case h3=>omega
 case h4=>simp
 case h5=>
  intro wR c1 w1 mj ED
  try rw[aH] at mj
  rw[<- HW0.out] at ED;have pS:=ED.size
  go_wp2_with (refine wY rfl (.tmp 13) (.tmp 14) 158 rfl zO (w.heap.size+1) _ l rfl (mj.alloc _) _ [128] rfl (Sl.one .u8 w1 128 5) (l.length+1) ?h1 ?h2 ?h3 ?h4 ?h5)
  case h1=>simp
  case h2=>unfold maxLen;omega
  case h3=>omega
  case h4=>simp;omega
  case h5=>
   intro sj c2 w2 jg lk;have ajn:=(ED.trans ((ib.refl _ w1).alloc (fun k (hk:k<w.heap.size+1)=>by omega) _)).trans lk;have O6:0 <= pR l.length:=aw _;have hpz:pR l.length <= 63:=by unfold pR;omega
   clear mj ED lk pS;have abe:oa .u8 5 w2 (w.heap.size+1) (.slice sj (l.length+1) c2) (l++[128]++zs 0):=by simpa[zs] using jg
   clear jg;obtain⟨M0,hM0⟩:∃M0:List Int,M0=l++[128]:=⟨_,rfl⟩;have ajl:M0.length=l.length+1:=by rw[hM0];simp
   rw[<- hM0] at abe;have HM0:=iH.mk hM0;have ait:=iH.mk ajl;clear hM0 ajl
   go_wp2_with fail
   go_loopw [3] (fun v wr=>∃z n sp c,z <= pR l.length /\ n=l.length+1+z /\ v=.slice sp n c /\ oa .u8 5 wr (w.heap.size+1) (.slice sp n c) (M0++zs z) /\ ib (fun k=>k<w.heap.size+1) W0 wr)
    (fun v _=>l.length+65 - lenOf v)
   case atStart=>exact⟨0,_,_,_,gZ,rfl,rfl,abe,ajn⟩
   case round=>
    clear abe ajn;obtain⟨z,n,Vx,c3,hz,Cd,rfl,jC,rR⟩:=hrel;have Hn1:=iH.mk Cd;have tj:n <= l.length+64:=gZ;have OE:=rR.size
    by_cases Y_:z=pR l.length
    ·have ht:(((n:Int) % 64) != 56)=false:=by
      have:=(DB l.length z hz).2 Y_;rw[<- Cd] at this;rw[bne_eq_false_iff_eq];omega
     have uB:n=l.length+1+pR l.length:=by rw[Cd,Y_]
     have aeR:oa .u8 5 wr (w.heap.size+1) (.slice Vx n c3) (M0++zs (pR l.length)++lenB l.length 0):=by
      rw[<- Y_];simpa[lenB] using jC
     have Hn2:=iH.mk uB;have L0:(M0++zs (pR l.length)).length=n:=by rw[aa,ait.out,uB];simp[zs]
     clear Cd Y_ Hn1 jC uB;obtain⟨M1,N6⟩:∃M1:List Int,M1=M0++zs (pR l.length):=⟨_,rfl⟩;rw[<- N6] at aeR L0;have HM1:=iH.mk N6;have ai8:=iH.mk L0;clear N6 L0
     go_wp2_with fail
     go_loopw [3,5] (fun v i wr=>∃j nn sp c,j <= 8 /\ nn=n+j /\ i=Iq (7 - (j:Int)) /\ v=.slice sp nn c /\ oa .u8 5 wr (w.heap.size+1) (.slice sp nn c) (M1++lenB l.length j) /\ ib (fun k=>k<w.heap.size+1) W0 wr)
      (fun _ i _=>(intOf i+1).toNat)
     case atStart=>exact⟨0,n,Vx,c3,gZ,rfl,rfl,rfl,aeR,rR⟩
     case round=>
      clear aeR rR OE;obtain⟨j,nn,sp4,c4,hj,hnn,rfl,rfl,jC,rR⟩:=hrel;have Hnn:=iH.mk hnn;have av4:nn <= l.length+72:=gZ;have OE:=rR.size
      by_cases hj8:j<8
      ·clear hnn
       go_wp2_with (refine wY rfl (.tmp 31) (.tmp 38) 158 rfl zO (w.heap.size+1) _ (M1++lenB l.length j) rfl (jC.alloc _) _ [(l.length:Int)*8 / 2 ^ (8*(7 - j)) % 256] rfl (Sl.one .u8 wr _ 5) (nn+1) ?g1 ?g2 ?g3 ?g4 ?g5)
       case g1=>rw[aa,ai8.out,qG,Hnn.out];rfl
       case g2=>unfold maxLen;omega
       case g3=>omega
       case g4=>simp;omega
       case g5=>
        intro xy c5 w5 oY mz;have qA:oa .u8 5 w5 (w.heap.size+1) (.slice xy (nn+1) c5) (M1++lenB l.length (j+1)):=by
         rw[lenB];first|exact oY|(rw[<- ao];exact oY)
        have m5:=(rR.trans ((ib.refl _ wr).alloc (fun k (hk:k<w.heap.size+1)=>by omega) _)).trans mz;clear oY mz jC rR OE
        go_wp2_with fail
        go_roundw
        case rel=>exact⟨j+1,nn+1,xy,c5,gZ,by rw[Hnn.out];rfl,by go_num,rfl,qA,m5⟩
        case measure=>simp[intOf];omega
      ·have e8:j=8:=gZ
       have hdj:decide ((j:Int) <= 7)=false:=decide_eq_false gZ;rw[e8] at jC;clear hnn;have ahN:nn=n+8:=by rw[Hnn.out,e8]
       obtain⟨M,hM⟩:∃M:List Int,M=M1++lenB l.length 8:=⟨_,rfl⟩;rw[<- hM] at jC;have ai5:M=pt l:=by rw[hM,HM1.out,HM0.out];rfl
       have L0:M.length=nn:=by rw[hM,aa,ai8.out,qG,ahN]
       have acF:nn=64*(nn / 64):=by
        have:=(DB l.length (pR l.length) (af _)).2 rfl;have:=Hn2.out;omega
       obtain⟨q,hq⟩:∃q,q=nn / 64:=⟨_,rfl⟩;rw[<- hq] at acF;rw[<- L0] at jC;obtain⟨g,rfl,-,hgB,Ou,T_,awb,adC⟩:=Zl jC gZ;have G6:=hHe.ij rR gZ;have nJ:=hBe.trans (rR.mono (fun k (hk:k<w.heap.size)=>by omega)).below;have aiW:=iH.mk ai5;have HMl:=iH.mk L0;have ai7:=iH.mk acF;have Hq:=iH.mk hq;clear hM L0 ai5 acF hq ahN e8 jC rR OE HM0 HM1 hHe hBe QJ hE0 HE1 hv
       go_wp2_with fail
       refine(aly _).mono ?_;rintro e w6 ⟨rfl,m5⟩;obtain⟨tK,qA,Vg⟩:=U3 m5;clear m5;have adJ:=WZ
       go_wp2_with (refine bL rfl 252 (.tmp 7) (.tmp 41) rfl w6.heap.size (K.map (Value.int .u32)).toArray rfl rfl 252 _ (heap_alloc_new _ _) (by kernel_rfl) (by kernel_rfl) (by kernel_rfl) ?_)
       have Js:jA .u32 252 _ w6.heap.size K:=setRow_heap _ w6.heap.size _ (K.map (Value.int .u32)).toArray 252 (0,0) (heap_alloc_new w6 (.cells (Z64.map (Value.int .u32)).toArray 252));have qS:iB w6 ((w6.alloc (.cells (Z64.map (Value.int .u32)).toArray 252)).setRow w6.heap.size (K.map (Value.int .u32)).toArray) :=
        below_setRow ((Below.refl _ _).alloc (af _) _) (af _) _
       generalize World.setRow _ _ _=w7 at Js qS ⊢;have q_:jA .u32 251 w7 wr.heap.size H0:=(qS.block wr.heap.size gZ).trans tK;have hM7:=(adC.below qA Ou).below qS gZ;have hH7:=(G6.below qA G6.lt).below qS (by have:=G6.lt;omega);have VW:=nJ.trans ((qA.mono nJ.size).trans (qS.mono (by have:=nJ.size;omega)));have RG:g<w7.heap.size:=by have:=qS.size;omega
       have anP:=Ou;have ajd:wr.heap.size<w6.heap.size:=gZ;have aiI:=Js.lt;have hBw:w.heap.size<g:=gZ;clear tK qS adC G6 nJ qA Vg adJ ac4 Ou;generalize w6.heap.size=BK at Js ajd aiI ⊢;generalize wr.heap.size=BS at q_ anP ajd ⊢;have Hn:=HMl.out;have VM:nn <= 64*q:=by have:=ai7.out;omega
       have Ue:64*q <= nn:=by have:=ai7.out;omega
       rw[Hn] at T_;clear Hn
       go_loopw [8] (fun c wr=>∃i:Nat,i <= q /\ c=Iq (64*(i:Int)) /\ jA .u32 251 wr BS (absorb M H0 i) /\ ib (fun k=>k<w7.heap.size /\ k≠BS) w7 wr) (fun c _=>64*q - (intOf c).toNat)
       case atStart=>exact⟨0,gZ,rfl,q_,ib.refl _ _⟩
       case round=>
        clear q_;obtain⟨i,hi,rfl,lq,kW⟩:=hrel;have lU:(absorb M H0 i).length=8:=qz M H0 i;have hMr:=hM7.ij kW ⟨RG,gZ⟩;have abK:=Js.ij kW ⟨aiI,gZ⟩
        by_cases hiq:i<q
        ·have ji:=BB hMr (64*i)
         rw[a_] at ji;have j7:64 <= (M.drop (64*i)).length:=by rw[aQ,HMl.out];omega
         have b0:0 <= 64*(i:Int):=gZ;have b1:64*(i:Int)+64 <= c4:=gZ;have r9:(64*(i:Int))<(nn:Int):=gZ;have d0:=lq.cell 0 gZ;have d1:=lq.cell 1 gZ;have d2:=lq.cell 2 gZ;have d3:=lq.cell 3 gZ;have d4:=lq.cell 4 gZ;have d5:=lq.cell 5 gZ;have d6:=lq.cell 6 gZ;have d7:=lq.cell 7 gZ
         go_wp2_with fail
         refine fi 6 (by kernel_rfl) (by kernel_rfl) ?_;simp only[bY,bR,cJ,dM];rw[show({ heap:=wr.heap,tape:=wr.tape,drawn:=wr.drawn+1,os:=wr.os,output:=wr.output }:World)=wr.drew from rfl];have g1:64*(i:Int) <= 64*(i:Int)+64:=gZ;have g2:0 <= 64*(i:Int)+64:=gZ;have t1:(64*(i:Int)).toNat=64*i:=gZ;have t2:(64*(i:Int)+64).toNat=64*i+64:=gZ;have t3:¬c4=64*i:=gZ;have e1:IntKind.i64.wrap (64*(i:Int)+64)=64*(i:Int)+64:=bG _ gZ
         repeat still_step
         clear e1 t1 t2 t3
         try refine wpStill_nil ?_
         have hMd:Row .u8 wr.drew g (64*i) (M.drop (64*i)):=ji;have hKd:jA .u32 252 wr.drew BK K:=abK;have sT:g<wr.drew.heap.size:=by have:=kW.size;show g<wr.heap.size;omega
         go_wp2_with fail
         refine(Qu g (64*i) 64 (c4 - 64*i) BK (absorb M H0 i) (M.drop (64*i)) K 252 _ (af _) gZ sT hMd hKd lU j7 rfl).mono ?_;rintro e w' ⟨rfl,Hp⟩;have aqI:=lq.lt;have Fe:=lq.iP (Hp.block BS aqI);have Yx:w'.heap[BS]? = some (.cells ((absorb M H0 i).map (Value.int .u32)).toArray 251 (0,0)):=Fe;have aiH:(prog.info? 251).map (·.size)=some ((compress K (M.drop (64*i)) (absorb M H0 i)).map (Value.int .u32)).toArray.size:=by
          rw[b_,av,qL,lU];kernel_rfl
         have aiU:((absorb M H0 i).map (Value.int .u32)).toArray.size=((compress K (M.drop (64*i)) (absorb M H0 i)).map (Value.int .u32)).toArray.size:=by
          rw[b_,av,b_,av,qL]
         have lx:((compress K (M.drop (64*i)) (absorb M H0 i)).map (Value.int .u32)).toArray.all (·.oneCell')=true:=by simp[Value.oneCell']
         have HgS:=iH.mk Yx;have ahX:=iH.mk aiH;have ail:=iH.mk aiU;have CN:=iH.mk lx;have Zx:=kW.trans (((ib.refl _ wr).drewN 1).trans ((ib.ic Hp).mono (fun k hk=>by have:=kW.size;show k<wr.heap.size;omega)));clear Yx aiH aiU lx hMd hKd sT d0 d1 d2 d3 d4 d5 d6 d7 Hp ji hMr abK kW lq
         go_wp2_with (refine bL rfl 251 (.tmp 6) (.tmp 54) rfl BS _ rfl rfl 251 _ HgS.out ahX.out ail.out CN.out ?_)
         have ph:jA .u32 251 (w'.setRow BS ((compress K (M.drop (64*i)) (absorb M H0 i)).map (Value.int .u32)).toArray) BS (absorb M H0 (i+1)):=setRow_heap _ _ _ _ _ _ HgS.out;have aqA:ib (fun k=>k<w7.heap.size /\ k≠BS) w7 (w'.setRow BS ((compress K (M.drop (64*i)) (absorb M H0 i)).map (Value.int .u32)).toArray):=yF Zx (fun h=>h.2 rfl) _;clear Zx HgS ahX ail CN Fe
         go_wp2_with fail
         go_roundw
         case rel=>exact⟨i+1,gZ,by go_num,ph,aqA⟩
         case measure=>simp[intOf];omega
        ·have eiq:i=q:=gZ
         have r9:decide ((64*(i:Int))<(nn:Int))=false:=decide_eq_false gZ;rw[eiq] at lq;have G6:=hH7.ij kW ⟨hH7.lt,gZ⟩;have nJ:=VW.trans (kW.mono (fun k (hk:k<w.heap.size)=>⟨ak hk VW.size,gZ⟩)).below;obtain⟨st,pG⟩:∃st,st=absorb M H0 q:=⟨_,rfl⟩;have av8:st.length=8:=by rw[pG];exact qz M H0 q
         rw[<- pG] at lq;have nw:CK st 32=Nq l:=by
          have e1:M.length / 64=q:=by rw[HMl.out,Hq.out]
          rw[pG,<- e1,aiW.out];rfl
         have tq:=iH.mk nw;clear nw pG hMr abK kW lU eiq Js hM7 hH7 VW aiW;have ac4:=vh
         go_wp2_with fail
         clear ac4;have hO:=h_.mk wr (lB.map (Value.int .u8)) 31;have hKo:iB wr (wr.alloc (.cells (lB.map (Value.int .u8)).toArray 31)):=(Below.refl _ _).alloc (af _) _;generalize World.alloc _ _=w8 at hO hKo ⊢;have hO8:jA .u8 31 w8 wr.heap.size (CK st 0):=hO;have Hw:=lq.below hKo lq.lt;have hH8:=G6.below hKo G6.lt;have Af:=nJ.iR hKo;have hBO:=lq.lt;have hHO:=G6.lt;clear hO hKo lq G6 nJ;generalize wr.heap.size=BO at hO8 hBO hHO ⊢
         go_loopw [10] (fun c wr=>∃i:Nat,i <= 32 /\ c=Iq i /\ jA .u8 31 wr BO (CK st i) /\ ib (fun k=>k≠BO) w8 wr) (fun c _=>32 - (intOf c).toNat)
         case atStart=>exact⟨0,gZ,rfl,hO8,ib.refl _ _⟩
         case round=>
          clear hO8;obtain⟨i,hi,rfl,hOr,kW⟩:=hrel;have hol:=sQ st i
          by_cases aws:i<32
          ·have lq:=Hw.ij kW gZ
           have c0:=lq.cell (i / 4) gZ;have c1:=hOr.cell i gZ;have f1:=hOr.free i;have b4:(i:Int) / 4<8:=gZ;have b5:(i:Int) % 4 <= 3:=gZ;have b6:0 <= (i:Int) % 4:=gZ
           go_wp2_with fail
           go_roundw
           case rel=>exact⟨i+1,gZ,by go_num,hOr.set _ _,kW.setCell (fun h=>h rfl) _⟩
           case measure=>simp[intOf];omega
          ·have e9:i=32:=gZ
           have awe:decide ((i:Int)<32)=false:=decide_eq_false gZ;rw[e9,tq.out] at hOr;clear e9;obtain⟨hh,xQ⟩:∃hh,hh=Nq l:=⟨_,rfl⟩;rw[<- xQ] at hOr;have tg:hh.length=32:=by rw[xQ];exact sQ _ _
           have VY:=iH.mk xQ;have G6:=hH8.ij kW gZ;have Dl:=Af.trans (kW.mono (fun k (hk:k<w.heap.size)=>by omega)).below;have hgO:wr.heap[BO]? = some (.cells (hh.map (Value.int .u8)).toArray 31 (0,0)):=hOr;have hgH:wr.heap[w.heap.size]? = some (.cells (lB.map (Value.int .u8)).toArray 31 (0,0)):=G6;have G2:(prog.info? 31).map (·.size)=some (hh.map (Value.int .u8)).toArray.size:=by
            rw[b_,av,tg];kernel_rfl
           have aiN:(lB.map (Value.int .u8)).toArray.size=(hh.map (Value.int .u8)).toArray.size:=by
            rw[b_,av,b_,av,tg];rfl
           have lx:(hh.map (Value.int .u8)).toArray.all (·.oneCell')=true:=by simp[Value.oneCell']
           have HgO:=iH.mk hgO;have HgH:=iH.mk hgH;have Ay:=iH.mk G2;have art:=iH.mk aiN;have CN:=iH.mk lx;clear xQ hOr G6 hH8 Hw Af kW hgO hgH G2 aiN lx hol tg tq
           go_wp2_with (first|(refine fp rfl 31 (.tmp 9) rfl BO rfl 31 (hh.map (Value.int .u8)).toArray (0,0) _ HgO.out underlying31 rfl Ay.out ?_)|(refine bL rfl 31 (.tmp 2) (.tmp 72) rfl w.heap.size (hh.map (Value.int .u8)).toArray rfl rfl 31 (lB.map (Value.int .u8)).toArray HgH.out Ay.out art.out CN.out ?_))
           refine cF (results_cell_row rfl _ _ w.heap.size 31 (hh.map (Value.int .u8)).toArray (0,0) _ rfl (setRow_heap _ _ _ _ _ _ HgH.out) underlying31 rfl Ay.out) rfl ⟨by rw[VY.out],?_⟩;exact below_setRow Dl (af _) _
    ·have ht:(((n:Int) % 64) != 56)=true:=by
      have:¬n % 64=56:=fun h=>Y_ ((DB l.length z hz).1 (by rw[<- Cd];exact h));rw[bne_iff_ne];omega
     have av0:z<pR l.length:=gZ;have L0:(M0++zs z).length=n:=by rw[aa,ait.out,Cd];simp[zs]
     have HMl:=iH.mk L0;clear L0 Cd Y_
     go_wp2_with (refine wY rfl (.tmp 20) (.tmp 21) 158 rfl zO (w.heap.size+1) _ (M0++zs z) rfl (jC.alloc _) _ [0] rfl (Sl.one .u8 wr 0 5) (n+1) ?g1 ?g2 ?g3 ?g4 ?g5)
     case g1=>rw[HMl.out];rfl
     case g2=>unfold maxLen;omega
     case g3=>omega
     case g4=>simp;omega
     case g5=>
      intro xy c5 w5 oY mz;have qA:oa .u8 5 w5 (w.heap.size+1) (.slice xy (n+1) c5) (M0++zs (z+1)):=by
       have e:M0++zs (z+1)=M0++(zs z++[0]):=by unfold zs;rw[List.replicate_succ']
       rw[e];first|exact oY|(rw[<- ao];exact oY)
      have m5:=(rR.trans ((ib.refl _ wr).alloc (fun k (hk:k<w.heap.size+1)=>by omega) _)).trans mz;clear oY mz jC rR OE
      go_wp2_with fail
      go_roundw
      case rel=>exact⟨z+1,n+1,xy,c5,gZ,by rw[Hn1.out];rfl,rfl,qA,m5⟩
      case measure=>simp[lenOf];omega
theorem adh (a b:List Int) (hl:a.length=b.length) (h:∀i,i<a.length -> nth a i=nth b i): a=b:=by
 apply d_ hl
 intro i h1 h2;have:=h i h1
 simpa[nth,h1,h2] using this
theorem Zq (st:List Int) (n i:Nat) (hi:i<n) (hn:n <= 32): nth (CK st n) i=nth st (i / 4) / 2 ^ (24 - 8*(i % 4)) % 256:=by
 induction n with
 | zero=>omega
 | succ n ih=>
  rw[CK]
  by_cases h:i=n
  ·subst h;exact qw _ _ _ (by rw[sQ];omega)
  ·rw[pk _ _ _ _ h];exact ih gZ gZ
theorem My (st:List Int) (n i:Nat) (hi:i<4*n) (hn:n <= 8): nth (xo st n) i=nth st (i / 4) / 2 ^ (24 - 8*(i % 4)) % 256:=by
 induction n with
 | zero=>omega
 | succ n ih=>
  rw[xo];have hl:=sA st n
  by_cases h3:i=4*n+3
  ·subst h3
   rw[qw _ _ _ (by simp[hl];omega),show(4*n+3) / 4=n from by omega,show(4*n+3) % 4=3 from by omega];simp
  ·rw[pk _ _ _ _ h3]
   by_cases h2:i=4*n+2
   ·subst h2
    rw[qw _ _ _ (by simp[hl];omega),show(4*n+2) / 4=n from by omega,show(4*n+2) % 4=2 from by omega]
    rfl
   ·rw[pk _ _ _ _ h2]
    by_cases h1:i=4*n+1
    ·subst h1
     rw[qw _ _ _ (by simp[hl];omega),show(4*n+1) / 4=n from by omega,show(4*n+1) % 4=1 from by omega]
     rfl
    ·rw[pk _ _ _ _ h1]
     by_cases h0:i=4*n
     ·subst h0
      rw[qw _ _ _ (by simp[hl];omega),show(4*n) / 4=n from by omega,show(4*n) % 4=0 from by omega]
      rfl
     ·rw[pk _ _ _ _ h0];exact ih gZ gZ
theorem adQ (st:List Int): CK st 32=xo st 8 :=
 adh _ _ (by rw[sQ,sA]) (fun i hi=>by
  rw[sQ] at hi;rw[Zq st 32 i hi (af _),My st 8 i gZ (af _)])
theorem BU (a b:List Int) (i:Nat) (h:i<a.length): nth (a++b) i=nth a i:=by
 simp[nth,aP h]
theorem vR (a b:List Int) (i:Nat) (h:a.length <= i): nth (a++b) i=nth b (i - a.length):=by
 simp[nth,ay h]
theorem BP (a:List Int) (n i:Nat): nth (a.drop n) i=nth a (n+i):=by simp[nth]
theorem Xf (n i:Nat): nth (zs n) i=0:=by
 unfold nth zs
 by_cases h:i<n
 ·simp[h]
 ·simp[aG (show(List.replicate n (0:Int)).length <= i by simp;omega)]
theorem PA (a b:List Int) (n:Nat) (hn:n <= 16) (h:∀i,i<64 -> nth a i=nth b i): load a n=load b n:=by
 induction n with
 | zero=>rfl
 | succ n ih=>
  rw[load,load,ih gZ];unfold Xj;rw[h _ gZ,h _ gZ,h _ gZ,h _ gZ]
theorem Hk (kk a b st:List Int) (h:∀i,i<64 -> nth a i=nth b i): compress kk a st=compress kk b st:=by
 unfold compress;rw[PA a b 16 (af _) h]
theorem CF (a b st:List Int) (e:Nat) (h:∀i,i<64*e -> nth a i=nth b i): absorb a st e=absorb b st e:=by
 induction e with
 | zero=>rfl
 | succ e ih=>
  rw[absorb,absorb,ih (fun i hi=>h i gZ)];exact Hk _ _ _ _ (fun i hi=>by rw[BP,BP];exact h _ gZ)
theorem Ta (a st:List Int) (j e:Nat): absorb a st (j+e)=absorb (a.drop (64*j)) (absorb a st j) e:=by
 induction e with
 | zero=>rfl
 | succ e ih=>
  rw[<- ff,absorb,absorb,ih,dR,gW]
theorem XL (n i t:Nat) (h:t<i): nth (lenB n i) t=(n:Int)*8 / 2 ^ (8*(7 - t)) % 256:=by
 induction i with
 | zero=>omega
 | succ i ih=>
  rw[lenB]
  by_cases ht:t<i
  ·rw[BU _ _ _ (by rw[qG];exact ht)];exact ih ht
  ·have:t=i:=gZ
   subst this;rw[vR _ _ _ (by rw[qG];exact af _),qG,gm]
   rfl
theorem SP (p:List Int) (E n i x:Nat) (hE:E <= p.length) (hi:i <= E):
  nth (rG p E n i) x=if E - i <= x /\ x<E then(n:Int)*8 / 2 ^ (8*(E - 1 - x)) % 256 else nth p x:=by
 induction i with
 | zero=>rw[if_neg gZ];rfl
 | succ i ih=>
  rw[rG]
  by_cases hx:x=E - 1 - i
  ·rw[if_pos gZ,hx,qw _ _ _ (by rw[vz];omega)]
   rw[show E - 1 - (E - 1 - i)=i from by omega]
  ·rw[pk _ _ _ _ hx,ih gZ]
   by_cases h1:E - i <= x /\ x<E
   ·rw[if_pos h1,if_pos gZ]
   ·rw[if_neg h1,if_neg gZ]
theorem Dx (n:Nat): (zs n).length=n:=by simp[zs]
theorem Jr (l:List Int): (pt l).length=l.length+1+pR l.length+8:=by
 unfold pt;rw[aa,aa,aa,qG,Dx];rfl
theorem J0 (l:List Int) (y:Nat) (h:y<l.length): nth (pt l) y=nth l y:=by
 unfold pt;rw[ao,ao,BU _ _ _ h]
theorem Vr (l:List Int) (y:Nat) (h:y=l.length): nth (pt l) y=128:=by
 unfold pt;rw[ao,ao,vR _ _ _ gZ,h,gm];rfl
theorem QG (l:List Int) (y:Nat) (h:l.length<y) (h2:y<l.length+1+pR l.length): nth (pt l) y=0:=by
 unfold pt;have h1:(l++[128]).length=l.length+1:=iz;rw[ao (l++[128]),vR _ _ _ gZ,BU _ _ _ (by rw[Dx];omega),Xf]
theorem UF (l:List Int) (y t:Nat) (h:y=l.length+1+pR l.length+t) (ht:t<8): nth (pt l) y=(l.length:Int)*8 / 2 ^ (8*(7 - t)) % 256:=by
 unfold pt;have h1:(l++[128]++zs (pR l.length)).length=l.length+1+pR l.length:=by rw[aa,Dx];simp
 rw[vR _ _ _ gZ,h1,h,dp,XL _ _ _ ht]
theorem abU (l:List Int): Nq l=p7 l:=by
 have yC:(l.drop (64*(l.length / 64))).length=l.length % 64:=by rw[aQ];omega
 have mN:=Jr l;have ac9:∀i,i <= l.length / 64 -> absorb (pt l) H0 i=absorb l H0 i:=fun i hi=>
  CF _ _ _ _ (fun x hx=>J0 l x gZ)
 have key:∀e,(pt l).length / 64=l.length / 64+e -> e <= 2 -> l.length % 64+1+pR l.length+8=64*e ->
   Nq l=xo (absorb (rG ((l.drop (64*(l.length / 64))++List.replicate (128 - l.length % 64) 0).set (l.length % 64) 128) (64*e) l.length 8) (absorb l H0 (l.length / 64)) e) 8:=by
  intro e he De hlen;unfold Nq;rw[adQ,he,Ta,ac9 _ (af _)]
  congr 1
  refine CF _ _ _ _ (fun x hx=>?_);obtain⟨rl,aiJ⟩:∃rl,rl=l.drop (64*(l.length / 64)):=⟨_,rfl⟩;have hrx:∀y,nth rl y=nth l (64*(l.length / 64)+y):=fun y=>by rw[aiJ,BP]
  rw[<- aiJ] at yC ⊢;have sh:(rl++List.replicate (128 - l.length % 64) (0:Int)).length=128:=by
   rw[aa,yC,List.length_replicate];omega
  rw[BP,SP _ _ _ _ _ (by rw[aC,sh];omega) gZ]
  by_cases h1:x<l.length % 64
  ·rw[if_neg gZ,pk _ _ _ _ gZ,BU _ _ _ (by rw[yC];exact h1),hrx]
   exact J0 l _ gZ
  ·by_cases h2:x=l.length % 64
   ·rw[if_neg gZ,h2,qw _ _ _ (by rw[sh];omega)]
    exact Vr l _ gZ
   ·by_cases h3:x<64*e - 8
    ·rw[if_neg gZ,pk _ _ _ _ h2,vR _ _ _ (by rw[yC];omega),QG l _ gZ gZ]
     exact(Xf _ _).symm
    ·rw[if_pos gZ,UF l _ (x - (64*e - 8)) gZ gZ,show 7 - (x - (64*e - 8))=64*e - 1 - x from by omega]
 unfold p7;simp only[yC]
 by_cases U9:56 <= l.length % 64
 ·rw[if_pos U9]
  exact key 2 (by unfold pR at mN;omega) gZ (by unfold pR;omega)
 ·rw[if_neg U9]
  exact key 1 (by unfold pR at mN;omega) gZ (by unfold pR;omega)
theorem SW (st:List Int): ∀i,i<32 -> 0 <= nth (xo st 8) i /\ nth (xo st 8) i <= 255:=by
 intro i hi;rw[My st 8 i gZ (af _)];omega
theorem Ts (l:List Int): ∀i,i<32 -> 0 <= nth (p7 l) i /\ nth (p7 l) i <= 255:=SW _
theorem ZY (v:Value) (l:List Int) (w:World) (hv:Sl .u8 w v l) (hn:l.length <= 35184372088832):
  Calls prog 152 #[v] w fun e w'=>e=.returned (.agg ((p7 l).map (Value.int .u8)).toArray) /\ iB w w':=by
 rw[<- abU];exact RT v l w hv hn
theorem TV (v:Value) (l:List Int) (w:World) (hv:Sl .u8 w v l) (hn:l.length <= 35184372088832):
  Calls prog 157 #[v] w fun e w'=>e=.returned (.agg ((p7 l).map (Value.int .u8)).toArray) /\ iB w w' :=
 aeD v l w hv gZ
end Dig
theorem Mz {P:Program}(w:World) {e:TypeId}{k:IntKind}(he:P.underlying e=some (.int k)) (l:List Int) (i:Nat) (hi:i<l.length):
  (part e (l.map (Value.int k)).toArray i).run P w=.ok (.int k (nth l i)) w:=by
 have Tj:(isAgg e).run P w=.ok false w:=by
  unfold isAgg;rw[bA,run_underlying he w];rfl
 have hc:(l.map (Value.int k)).toArray[i]? = some (.int k (nth l i)):=by simp[nth,hi]
 simp[part,bA,Tj,hc]
theorem Cy {P:Program}(w:World) (d:Nat) {e:TypeId}{k:IntKind}(he:P.underlying e=some (.int k)) (xs ys:List Int) :
  ∀is:List Nat,(∀i∈is,i<xs.length /\ i<ys.length) -> (Op.eqItems (d+1) e 1 (xs.map (Value.int k)).toArray (ys.map (Value.int k)).toArray is).run P w=.ok (is.all fun i=>nth xs i == nth ys i) w
 | [],_=>by simp[Op.eqItems]
 | i :: is,h=>by
  obtain⟨h1,h2⟩:=h i iz;have ih:=Cy w d he xs ys is (fun j hj=>h j (by simp[hj]));simp only[Op.eqItems,bA,cP,Mz w he xs i h1,Mz w he ys i h2,bm,run_equalIn_int w d e k k (nth xs i) (nth ys i) he,gO]
  by_cases hx:(nth xs i == nth ys i)=true
  ·simp[hx,ih]
  ·simp[hx]
theorem adS (xs ys:List Int) (n:Nat) (ha:xs.length=n) (hb:ys.length=n): ((List.range n).all fun i=>nth xs i == nth ys i)=decide (xs=ys):=by
 rw[fq];simp only[bT,bO,beq_iff_eq,decide_eq_true_eq]
 constructor
 ·intro h
  apply d_ (ha.trans hb.symm)
  intro i h1 h2;have:=h i gZ
  simpa[nth,h1,h2] using this
 ·intro h i _;rw[h]
theorem Lx {P:Program}(w:World) {t e:TypeId}{k:IntKind}{n:Nat}{i:TypeInfo}(hu:P.underlying t=some (.array n e)) (he:P.underlying e=some (.int k)) (hi:P.info? e=some i) (hs:i.size=1) (xs ys:List Int) (ha:xs.length=n) (hb:ys.length=n):
  (binOp .eql t (.agg (xs.map (Value.int k)).toArray) (.agg (ys.map (Value.int k)).toArray)).run P w=.ok (.bool (decide (xs=ys))) w:=by
 have hc:P.cellsOf e=1:=by simp[Program.cellsOf,hi,hs]
 have h1:(Op.equalIn (9999+1) t (.agg (xs.map (Value.int k)).toArray) (.agg (ys.map (Value.int k)).toArray)).run P w=.ok (decide (xs=ys)) w:=by
  rw[run_equalIn_array w 9999 _ _ hu hi,hc,Cy w 9998 he xs ys (List.range n) (fun j hj=>by simp at hj;omega),adS xs ys n ha hb]
 have hg:(binOp .eql t (.agg (xs.map (Value.int k)).toArray) (.agg (ys.map (Value.int k)).toArray)).run P w=((Op.equalIn 10000 t (.agg (xs.map (Value.int k)).toArray) (.agg (ys.map (Value.int k)).toArray)).run P w).andThen fun b w'=>.ok (.bool b) w':=gA w t _ _;rw[hg,h1];rfl
namespace K
abbrev jq (h:List Int):List Value:=h.map (Value.int .u8)
theorem Me (a b:List Int) (ha:a.length=32) (hb:b.length=32) (W:World): (binOp .eql 31 (.agg (jq a).toArray) (.agg (jq b).toArray)).run prog W=.ok (.bool (decide (a=b))) W:=by
 have hq:(prog.info? 5).map (fun i=>(i.zero,i.size,i.bytes))=some (some (.int .u8 0),1,1):=by kernel_rfl
 obtain⟨ie,A0,he⟩:=cH.1 hq;obtain⟨-,De⟩:=fL he;exact Lx W underlying31 underlying5 A0 (fL De).1 a b ha hb
theorem Rz (x y:Operand) (a b:Array Value) (W:World): (eqGuard .eql 31 x y (.agg a) (.agg b)).run prog W=.ok () W:=by
 have h:prog.eqGuardType prog.depth 31=false:=by kernel_rfl
 simp[eqGuard,h]
section
variable {n:NN}{Q:Exit -> Act -> World -> Prop}{l:Env}{w w':World}{ops:Array Oper}{o:Oper}{rest:List Oper}{d:Nat}
theorem WL.ahB {a b:List Int}(hg:o.guard=none) (hd:o.dst=some d) (hn:Nat.blt d n.n=true) (ho:o.op=.binOp .eql 31 x y t2) (hx:jw l x=some (.agg (jq a).toArray)) (hy:jw l y=some (.agg (jq b).toArray)) (ha:a.length=32) (hb:b.length=32) (h:WL n ops Q rest ((d,.bool (decide (a=b))) :: l) w): WL n ops Q (o :: rest) l w :=
 WL.step hg hd hn (fun c hc=>by
  unfold execOp;rw[ho];simp only[hc.eval hx,hc.eval hy,bA,Rz,bm,Me a b ha hb w]
  rfl) h
end
theorem X8 {v:Value}(hv:Sl .u8 w v l) (hn:l.length <= 17592186044416):
  Calls prog 146 #[v] w fun e w'=>e=.returned (.agg (jq (Dig.p7 (0 :: l))).toArray) /\ iB w w':=by
 refine iY func146 ntmps146 ?_;refine gY ?_;refine ix (z:=.agg (jq Dig.lB).toArray) (Dig.vh) fun g w1 hf=>?_;have jx:jl w g w1 31 (jq Dig.lB):=hf;clear hf;have hz:=jx.size;have he:=jx.eq;refine gY ?_;refine WL.lit rfl rfl rfl rfl rfl rfl rfl fun b2 w2 jg lk lN=>?_;have lQ:=jx.below.trans (lk.mono gZ);refine gY ?_;refine WL.app rfl rfl rfl rfl rfl jg rfl (hv.ic lQ) (by simp only[aj,aF];omega) fun b3 w3 jF mP=>?_;have mM:=lk.trans (mP.old lk.size lN);refine i_ func157 (Dig.TV b3 _ w3 jF.sl (by rw[aa];simp only[aj,aF];omega)) ?_;rintro w4 m8
 have Qa:=mM.iR m8;have B4:=jx.blk.below Qa jx.blk.lt;have hlen:(jq (Dig.p7 (0 :: l))).length=32:=by rw[av];exact Dig.oD _
 refine ir (hm:=hlen) (hold:=(by rfl)) B4 (kj.int _ _) ?_;refine gY ?_;exact WQ.tl rfl rfl rfl hlen (B4.setRow _) ⟨rfl,below_setRow (jx.below.trans (Qa.mono gZ)) gZ _⟩
def kB (v:V):List Int:=if(kL v).2≠0 then Dig.lB else Dig.p7 (0 :: (kL v).1)
theorem pC (v:V): (kB v).length=32:=by unfold kB;split;rfl;exact Dig.oD _
def Nl (w:World) (v:V) (e:Ending) (w':World):Prop:=e=.returned (.tuple #[.agg (jq (kB v)).toArray,Iq (kL v).2]) /\ iB w w'
theorem ZM {v:V}(h:kH f w v cs) (hlen:chk 16 v=0 -> (encV 16 v).length <= 70368744177664):
  Calls prog 119 #[.agg cs.toArray] w (Nl w v):=by
 have hcs:=h.len;refine iY (args:=[.agg cs.toArray]) func119 ntmps119 ?_;refine gY ?_;refine iC fun g w1 hf=>?_;have jx:jl w g w1 25 cs:=hf;clear hf;refine ix (z:=.agg (jq Dig.lB).toArray) (Dig.vh) fun g2 w2 lI=>?_;have kM:jl w1 g2 w2 31 (jq Dig.lB):=lI;clear lI;have zY:=jx.size;have vJ:=kM.size;have ZS:=jx.eq;have De:=kM.eq;have lQ:=jx.below.trans (kM.below.mono gZ);have B1:=jx.blk.below kM.below jx.blk.lt;refine gY ?_;refine ig (h_.rangeAt B1) hcs ?_;refine il func123 (GS (h.below lQ) hlen) ?_;rintro _ w3 ⟨b,rfl,hb,mM,-⟩;refine⟨_,rfl,?_⟩;have mG:=lQ.trans (mM.mono gZ);have Aa:=kM.blk.below mM kM.blk.lt;have Oa:=mM.size
 by_cases he:(kL v).2=0
 ·have hR:kB v=Dig.p7 (0 :: (kL v).1):=by unfold kB;rw[if_neg (by simpa using he)]
  have IC:=(vS he).2.1;rw[<- (vS he).2.2] at IC;refine gY ?_;refine i_ func146 (X8 hb.sl gZ) ?_;rintro w4 m8
  have Db:(jq (Dig.p7 (0 :: (kL v).1))).length=32:=by rw[av];exact Dig.oD _
  have B24:=Aa.below m8 Aa.lt;refine ir (hm:=Db) (hold:=(by rfl)) B24 (kj.int _ _) ?_;refine gY ?_;exact WQ.AH rfl rfl rfl rfl Db (B24.setRow _) ⟨by rw[hR,he],below_setRow (mG.trans (m8.mono gZ)) gZ _⟩
 ·have hR:kB v=Dig.lB:=by unfold kB;rw[if_pos he]
  refine gY ?_;refine iE (jq Dig.lB) (by kernel_rfl) ?_;refine gY ?_;refine ir (hm:=(by rfl)) (hold:=(by rfl)) Aa (kj.int _ _) ?_;refine gY ?_;exact WQ.AH rfl rfl rfl rfl (by rfl) (Aa.setRow _) ⟨by rw[hR];rfl,below_setRow mG gZ _⟩
structure En where
 kind:Int
 text:ByteArray
 table:Int
 doc:Int
 iZ:Int
 data:V
 hash:List Int
 gone:Bool
 ab:Int
 ae:Int
def jo:En:=⟨0,jz,0,0,0,zV,Dig.lB,false,0,0⟩
structure Bk where
 index:Int
 time:Int
 rh:Int
 prev:List Int
 iv:List En
def X5:Bk:=⟨0,0,0,Dig.lB,[]⟩
def mR (e:En):Prop:=e.text.size=0 /\ e.table=0 /\ e.doc=0 /\ e.iZ=0 /\ e.data=zV /\ e.hash=Dig.lB /\ e.gone=false /\ e.ab=0 /\ e.ae=0
def jS (e:En):Prop :=
 if e.kind=1 then 1 <= e.text.size /\ e.text.size <= 4096 /\ mR { e with text:=jz }
 else if e.kind=2 then(1 <= e.table /\ e.table <= 64) /\ (1 <= e.doc /\ e.doc <= 65536) /\ (0 <= e.iZ /\ e.iZ <= 2147483648) /\ mR { e with data:=zV,hash:=Dig.lB,gone:=false,table:=0,doc:=0,iZ:=0 } /\ (e.gone=true -> e.data=zV)
 else if e.kind=3 then(1 <= e.table /\ e.table <= 64) /\ (1 <= e.doc /\ e.doc <= 65536) /\ (1 <= e.iZ /\ e.iZ <= 2147483648) /\ mR { e with table:=0,doc:=0,iZ:=0 }
 else if e.kind=4 then(0 <= e.ab /\ e.ab <= 2147483648) /\ (0 <= e.ae /\ e.ae <= 2147483648) /\ mR { e with ab:=0,ae:=0 }
 else if e.kind=5 \/ e.kind=7 then(1 <= e.table /\ e.table <= 64) /\ 1 <= e.text.size /\ e.text.size <= 40 /\ mR { e with table:=0,text:=jz }
 else if e.kind=6 then(1 <= e.table /\ e.table <= 64) /\ mR { e with table:=0 }
 else False
open Classical in
noncomputable def kY (e:En):Int :=
 if jS e then(if e.kind≠2 \/ e.gone=true then 0 else if(kL e.data).2≠0 then(kL e.data).2 else if kB e.data=e.hash then 0 else 18) else 3
def oM (e:En):List Int :=
 e.kind :: (jK e.table.toNat++(jK e.doc.toNat++(jK e.iZ.toNat++(jK e.text.size++(vA e.text++(jK e.ab.toNat++(jK e.ae.toNat++(if e.kind=2 then e.hash else[]))))))))
def ow (data:Bool) (e:En):List Int :=
 if e.kind=2 then(if e.gone=true \/ data=false then[0] else 1 :: (jK (kL e.data).1.length++(kL e.data).1)) else[]
def rQ (b:Bk):List Int:=jK b.index.toNat++(jK b.time.toNat++(jK b.rh.toNat++b.prev))
def wU (data:Bool) (b:Bk):List Int:=rQ b++(jK b.iv.length++b.iv.flatMap fun e=>oM e++ow data e)
noncomputable def oL (b:Bk):Int :=
 if(0 <= b.index /\ b.index <= 2147483648) /\ (0 <= b.time /\ b.time <= 9007199254740992) /\ (0 <= b.rh /\ b.rh <= 9007199254740992) /\ (1 <= b.iv.length /\ b.iv.length <= 200) then
  (if firstBad (b.iv.map kY)≠0 then firstBad (b.iv.map kY) else if 262144<(wU true b).length then 5 else 0) else 1
theorem tI {e:En}(h:jS e): (1 <= e.kind /\ e.kind <= 7) /\ (0 <= e.table /\ e.table <= 64) /\ (0 <= e.doc /\ e.doc <= 65536) /\ (0 <= e.iZ /\ e.iZ <= 2147483648) /\ e.text.size <= 4096 /\ (0 <= e.ab /\ e.ab <= 2147483648) /\ (0 <= e.ae /\ e.ae <= 2147483648) /\
  (e.kind≠2 -> e.data=zV /\ e.hash=Dig.lB /\ e.gone=false) /\ (e.gone=true -> e.data=zV):=by
 unfold jS mR at h
 by_cases k1:e.kind=1
 ·rw[if_pos k1] at h
  obtain⟨h1,h2,h3,h4,h5,h6,h7,h8,h9,yE,B0⟩:=h;simp only at h3 h4 h5 h6 h7 h8 h9 yE B0;exact⟨gZ,gZ,gZ,gZ,gZ,gZ,gZ,fun _=>⟨h7,h8,h9⟩,fun h=>by rw[h9] at h;cases h⟩
 rw[if_neg k1] at h
 by_cases k2:e.kind=2
 ·rw[if_pos k2] at h
  obtain⟨a1,a2,a3,⟨h3,h4,h5,h6,h7,h8,h9,yE,B0⟩,h12⟩:=h;simp only at h3 h4 h5 h6 h7 h8 h9 yE B0;exact⟨gZ,gZ,gZ,gZ,gZ,gZ,gZ,fun h=>absurd k2 h,h12⟩
 rw[if_neg k2] at h
 by_cases k3:e.kind=3
 ·rw[if_pos k3] at h
  obtain⟨a1,a2,a3,h3,h4,h5,h6,h7,h8,h9,yE,B0⟩:=h;simp only at h3 h4 h5 h6 h7 h8 h9 yE B0;exact⟨gZ,gZ,gZ,gZ,gZ,gZ,gZ,fun _=>⟨h7,h8,h9⟩,fun h=>by rw[h9] at h;cases h⟩
 rw[if_neg k3] at h
 by_cases k4:e.kind=4
 ·rw[if_pos k4] at h
  obtain⟨a1,a2,h3,h4,h5,h6,h7,h8,h9,yE,B0⟩:=h;simp only at h3 h4 h5 h6 h7 h8 h9 yE B0;exact⟨gZ,gZ,gZ,gZ,gZ,gZ,gZ,fun _=>⟨h7,h8,h9⟩,fun h=>by rw[h9] at h;cases h⟩
 rw[if_neg k4] at h
 by_cases k5:e.kind=5 \/ e.kind=7
 ·rw[if_pos k5] at h
  obtain⟨a1,h1,h2,h3,h4,h5,h6,h7,h8,h9,yE,B0⟩:=h;simp only at h3 h4 h5 h6 h7 h8 h9 yE B0;exact⟨gZ,gZ,gZ,gZ,gZ,gZ,gZ,fun _=>⟨h7,h8,h9⟩,fun h=>by rw[h9] at h;cases h⟩
 rw[if_neg k5] at h
 by_cases k6:e.kind=6
 ·rw[if_pos k6] at h
  obtain⟨a1,h3,h4,h5,h6,h7,h8,h9,yE,B0⟩:=h;simp only at h3 h4 h5 h6 h7 h8 h9 yE B0;exact⟨gZ,gZ,gZ,gZ,gZ,gZ,gZ,fun _=>⟨h7,h8,h9⟩,fun h=>by rw[h9] at h;cases h⟩
 rw[if_neg k6] at h;exact h.elim
theorem KT {e:En}(h:kY e=0): jS e /\ (e.kind=2 -> e.gone=false -> (kL e.data).2=0 /\ kB e.data=e.hash):=by
 unfold kY at h
 by_cases hf:jS e
 ·rw[if_pos hf] at h
  refine⟨hf,fun hk hg=>?_⟩;rw[if_neg (by simp[hk,hg])] at h
  by_cases h2:(kL e.data).2=0
  ·rw[if_neg (by simpa using h2)] at h
   by_cases h3:kB e.data=e.hash
   ·exact⟨h2,h3⟩
   ·rw[if_neg h3] at h;cases h
  ·rw[if_pos h2] at h;exact absurd h h2
 ·rw[if_neg hf] at h;cases h
def aq1 (e:En):Prop:=(∃f,Rng f e.data) /\ e.hash.length=32
end K
namespace Vw
open K (En Bk zV)
open Cat (Tb kt mW ju)
structure Rw where
 lj:Int
 doc:Int
 iZ:Int
 data:V
 gone:Bool
 del:Bool
 blk:Int
 ni:Int
 pO:Int
def jf:Rw:=⟨0,0,0,zV,false,false,0,0,0⟩
abbrev Rw.key (r:Rw):Int × Int:=(r.lj,r.doc)
abbrev Rw.lG (r:Rw):Int × Int:=(r.blk,r.ni)
structure St where
 cat:List Tb
 rows:List Rw
 n:Nat
 red:Int × Int -> Bool
def r_:St:=⟨[],[],0,fun _=>false⟩
def of (L:List Rw) (k:Int × Int):List Rw:=L.filter fun r=>decide (r.key=k)
def iQ (t:Int) (L:List Rw):Nat:=(L.filter fun r=>decide (r.lj=t) && decide (r.iZ=0)).length
def next (s:St) (t:Int):Int:=if(ju s.cat t).2.2=0 then(iQ t s.rows:Int)+1 else 0
def fits (s:St) (e:En):Bool :=
 if e.iZ=0 then decide (e.doc=next s e.table)
 else match(of s.rows (e.table,e.doc)).getLast? with
  | some r=>!r.del && decide (r.iZ+1=e.iZ)
  | none=>false
def rowOf (e:En) (bi k pO:Int):Rw:=⟨e.table,e.doc,e.iZ,e.data,e.gone,decide (e.kind=3),bi,k,pO⟩
def wM (s:St) (a:Int × Int) (r:Rw):Bool:=decide (r.blk=a.1) && decide (r.ni=a.2) && !r.del && !s.red a
def shut (r:Rw):Rw:={ r with gone:=true,data:=zV }
def vH (f:Int × Int -> Bool) (a:Int × Int):Int × Int -> Bool:=fun x=>if x=a then true else f x
def entR (s:St) (e:En) (bi k pO:Int):Int × St :=
  if kt s.cat e.kind e.text e.table≠0 then(kt s.cat e.kind e.text e.table, s)
  else if e.kind=2 \/ e.kind=3 then
    (if(ju s.cat e.table).2.2≠0 \/ (ju s.cat e.table).2.1.dropped=true \/ fits s e=false then(3, s)
     else(0, { s with rows := s.rows++[rowOf e bi k pO]}))
  else if e.kind=4 then
    (match s.rows.findIdx? (wM s (e.ab, e.ae)) with
     | some i=>(0, { s with rows := s.rows.set i (shut (s.rows.getD i jf)), red := vH s.red (e.ab, e.ae)})
     | none=>(3, s))
  else(0, { s with cat := mW s.cat e.kind e.text e.table })
def runR (b:Bk):List En -> Nat -> St -> Int × St
 | [],_,s=>(0,s)
 | e :: r,k,s=>if(entR s e b.index k b.time).1=0 then runR b r (k+1) (entR s e b.index k b.time).2 else((entR s e b.index k b.time).1,(entR s e b.index k b.time).2)
open Classical in
noncomputable def kV (s:St) (b:Bk):Int × St :=
 if b.index≠s.n then(3,s) else if K.oL b≠0 then(K.oL b,s)
 else if(runR b b.iv 0 s).1=0 then(0,{ (runR b b.iv 0 s).2 with n:=s.n+1 }) else((runR b b.iv 0 s).1,s)
theorem jW {α:Type}{l:List α}{d:α}(h:i<l.length): l.getD i d=l[i]:=by rw[ag,ah h];rfl
theorem acq {L:List Rw}{k:Int × Int}(hi:i<L.length) (hk:(L.getD i jf).key=k) (hn:∀j,i<j -> j<L.length -> (L.getD j jf).key≠k): (of L k).getLast? = some (L.getD i jf):=by
 have e:L=L.take i++(L.getD i jf :: L.drop (i+1)):=by
  rw[jW hi,<- bp hi,aL]
 have hd:(L.drop (i+1)).filter (fun r=>decide (r.key=k))=[]:=by
  rw[cz];intro r hr;obtain⟨j,hj,rfl⟩:=dT.1 hr;rw[aQ] at hj;have:=hn (i+1+j) gZ gZ;rw[jW gZ] at this;simp only[List.getElem_drop,decide_eq_true_eq];exact this
 unfold of;rw[e,bW,cA,if_pos (by simpa using hk),hd,<- e];simp
theorem aei {L:List Rw}{k:Int × Int}(hn:∀j,j<L.length -> (L.getD j jf).key≠k): of L k=[]:=by
 unfold of;rw[cz];intro r hr;obtain⟨j,hj,rfl⟩:=dT.1 hr;have:=hn j hj;rw[jW hj] at this
 simpa using this
theorem XI {L:List Rw}{t:Int}(hi:i<L.length): iQ t (L.take (i+1))=iQ t (L.take i)+if(L.getD i jf).lj=t /\ (L.getD i jf).iZ=0 then 1 else 0:=by
 unfold iQ;rw[aJ,ah hi,jW hi,bW,aa]
 congr 1
 simp only[dx,cA,List.filter_nil]
 by_cases h:L[i].lj=t /\ L[i].iZ=0
 ·rw[if_pos (by simpa using h),if_pos h];rfl
 ·rw[if_neg (by simpa using h),if_neg h];rfl
theorem tX (t:Int) (L:List Rw): iQ t L <= L.length:=cY _ _
theorem adN (t:Int) (L:List Rw) (_h:i <= L.length): iQ t (L.take i) <= i:=by
 have:=tX t (L.take i);rw[aE] at this;omega
def Gn (s:St) (t:Int):Bool:=decide ((ju s.cat t).2.2=0) && !(ju s.cat t).2.1.dropped
def kQ (s:St) (k:Int × Int):Option Rw :=
 if Gn s k.1=true then(match(Vw.of s.rows k).getLast? with|some r=>if r.del=false /\ r.gone=false then some r else none|none=>none) else none
def qv (s:St) (t:Int):List Rw:=(List.range (iQ t s.rows)).filterMap fun(i:Nat)=>kQ s (t,(i:Int)+1)
def qq (s:St) (t:Int):List Rw:=(List.range (iQ t s.rows)).flatMap fun(i:Nat)=>Vw.of s.rows (t,(i:Int)+1)
theorem Wy (s:St) (e:En) (bi k pO:Int): (entR s e bi k pO).2.n=s.n:=by
 unfold entR
 split
 ·rfl
 ·split
  ·split<;>rfl
  ·split
   ·split<;>rfl
   ·rfl
theorem IM (b:Bk):∀(l:List En) (k:Nat) (s:St),(runR b l k s).2.n=s.n
 | [],_,_=>rfl
 | e :: r,k,s=>by
  unfold runR
  split
  ·rw[IM b r];exact Wy _ _ _ _ _
  ·exact Wy _ _ _ _ _
theorem Xn {b:Bk}{l:List En}{k:Nat}{s t:St}{c:Int}(h:runR b l k s=(c,t)): t.n=s.n:=by
 have:=IM b l k s;rw[h] at this;exact this
end Vw
namespace K
abbrev jX (x:Int):Prop:=-9223372036854775808 <= x /\ x <= 9223372036854775807
def iU (e:En) (dc:List Value):List Value :=
 Iq e.kind :: .string e.text :: Iq e.table :: Iq e.doc :: Iq e.iZ :: (dc++(jq e.hash++[.bool e.gone,Iq e.ab,Iq e.ae]))
def nN (P:V -> List Value -> Prop) (e:En) (cs:List Value):Prop :=
 ∃dc,cs=iU e dc /\ P e.data dc /\ dc.length=6 /\ kj dc /\ e.hash.length=32 /\ Yk e.hash /\ e.text.size <= 140737488355328 /\ (jX e.kind /\ jX e.table /\ jX e.doc /\ jX e.iZ /\ jX e.ab /\ jX e.ae)
theorem nN.mono {P P':V -> List Value -> Prop}(hP:∀v cs,P v cs -> P' v cs) {e:En}(h:nN P e cs): nN P' e cs:=by
 obtain⟨dc,h1,h2,h3⟩:=h;exact⟨dc,h1,hP _ _ h2,h3⟩
theorem nN.len {P:V -> List Value -> Prop}{e:En}(h:nN P e cs): cs.length=46:=by
 obtain⟨dc,rfl,-,h1,-,h2,-⟩:=h;simp[iU,h1,h2]
theorem nN.one {P:V -> List Value -> Prop}{e:En}(h:nN P e cs): kj cs:=by
 obtain⟨dc,rfl,-,-,h1,-⟩:=h;intro u hu;unfold iU at hu;simp only[ar,aq,aR,dG] at hu;rcases hu with rfl|rfl|rfl|rfl|rfl|hu|hu|rfl|rfl|rfl
 all_goals first|rfl|exact h1 u hu|exact kj.int _ _ u hu
abbrev uE (f:Nat) (w:World):En -> List Value -> Prop:=nN (kH f w)
abbrev Ip (O:Nat -> Prop) (f:Nat) (w:World):En -> List Value -> Prop:=nN (jE O f w)
def oH (b:Bk) (se:Value):List Value:=Iq b.index :: Iq b.time :: Iq b.rh :: (jq b.prev++[se])
def O9 (P:En -> List Value -> Prop) (O:Nat -> Prop) (w:World) (b:Bk) (cs:List Value):Prop :=
 ∃se,cs=oH b se /\ lA 46 jo P O w se b.iv /\ b.prev.length=32 /\ Yk b.prev /\ (jX b.index /\ jX b.time /\ jX b.rh)
theorem O9.len {P:En -> List Value -> Prop}{b:Bk}(h:O9 P O w b cs): cs.length=36:=by
 obtain⟨se,rfl,-,h2,-⟩:=h;simp[oH,h2]
theorem O9.one {P:En -> List Value -> Prop}{b:Bk}(h:O9 P O w b cs): kj cs:=by
 obtain⟨se,rfl,⟨sp,cap,rfl,-⟩,-⟩:=h;intro u hu;unfold oH at hu;simp only[ar,aq,aR,dG] at hu;rcases hu with rfl|rfl|rfl|hu|rfl
 all_goals first|rfl|exact kj.int _ _ u hu
abbrev CP (f:Nat) (w:World):Bk -> List Value -> Prop:=O9 (uE f w) (fun _=>True) w
abbrev m6 (O:Nat -> Prop) (f:Nat) (w:World):Bk -> List Value -> Prop:=O9 (Ip O f w) O w
theorem uE.below (hb:iB w w') {e:En}(h:uE f w e cs): uE f w' e cs:=nN.mono (fun _ _ h=>h.below hb) h
theorem CP.below (hb:iB w w') {b:Bk}(h:CP f w b cs): CP f w' b cs:=by
 obtain⟨se,h1,h2,h3⟩:=h;exact⟨se,h1,h2.ij (ib.ic hb) (fun b _ hl=>hl) (fun _ h=>h) fun _ _ h=>uE.below hb h,h3⟩
theorem h_.part (h:h_ T w b cs) (a:List Value) (m:List Value) (z:List Value) (e:cs=a++(m++z)): w.rangeAt b a.length m:=by
 intro j u hj;have:=h_.rangeAt h (a.length+j) u (by rw[e,ay gZ,dp];rw[aP];exact hj;rcases aO j m.length with h|h;exact h;rw[aG h] at hj;cases hj)
 rwa [a_] at this
theorem YU {e:En}(h:h_ T w b (iU e dc)): w.rangeAt b 5 dc :=
 h_.part h [Iq e.kind,.string e.text,Iq e.table,Iq e.doc,Iq e.iZ] dc _ rfl
theorem ZF {e:En}(h:h_ T w b (iU e dc)) (hd:dc.length=6): w.rangeAt b 11 (jq e.hash):=by
 have:=h_.part h (Iq e.kind :: .string e.text :: Iq e.table :: Iq e.doc :: Iq e.iZ :: dc) (jq e.hash) [.bool e.gone,Iq e.ab,Iq e.ae] (by simp[iU])
 simpa[hd] using this
theorem Ft {e:En}(hd:dc.length=6) (hh:e.hash.length=32): (iU e dc)[43]? = some (.bool e.gone) /\ (iU e dc)[44]? = some (Iq e.ab) /\ (iU e dc)[45]? = some (Iq e.ae):=by
 have h1:iU e dc=(.int .i64 e.kind :: .string e.text :: .int .i64 e.table :: .int .i64 e.doc :: .int .i64 e.iZ :: (dc++jq e.hash))++[.bool e.gone,.int .i64 e.ab,.int .i64 e.ae]:=by simp[iU]
 have h2:(Value.int IntKind.i64 e.kind :: .string e.text :: .int .i64 e.table :: .int .i64 e.doc :: .int .i64 e.iZ :: (dc++jq e.hash)).length=43:=by simp[hd,hh]
 rw[h1];refine⟨?_,?_,?_⟩<;>rw[ay (by omega),h2]<;>rfl
structure jT (T b:Nat) (w:World) (e:En) (dc:List Value):Prop where
 blk:h_ T w b (iU e dc)
 dl:dc.length=6
 hl:e.hash.length=32
section
variable {T b:Nat}{w w':World}{e:En}{dc:List Value}
theorem jT.kind (h:jT T b w e dc): w.cell? ⟨b,0,none⟩=some (Iq e.kind):=h.blk.cell 0 (by simp[iU])
theorem jT.text (h:jT T b w e dc): w.cell? ⟨b,1,none⟩=some (.string e.text):=h.blk.cell 1 (by simp[iU])
theorem jT.table (h:jT T b w e dc): w.cell? ⟨b,2,none⟩=some (Iq e.table):=h.blk.cell 2 (by simp[iU])
theorem jT.doc (h:jT T b w e dc): w.cell? ⟨b,3,none⟩=some (Iq e.doc):=h.blk.cell 3 (by simp[iU])
theorem jT.iZ (h:jT T b w e dc): w.cell? ⟨b,4,none⟩=some (Iq e.iZ):=h.blk.cell 4 (by simp[iU])
theorem jT.data (h:jT T b w e dc): w.rangeAt b 5 dc:=YU h.blk
theorem jT.hash (h:jT T b w e dc): w.rangeAt b 11 (jq e.hash):=ZF h.blk h.dl
theorem jT.len (h:jT T b w e dc): (iU e dc).length=46:=by simp[iU,h.dl,h.hl]
theorem jT.gone (h:jT T b w e dc): w.cell? ⟨b,43,none⟩=some (.bool e.gone):=by
 have:=h.blk.cell 43 (by rw[h.len];omega);rw[this,ag,(Ft h.dl h.hl).1];rfl
theorem jT.ab (h:jT T b w e dc): w.cell? ⟨b,44,none⟩=some (Iq e.ab):=by
 have:=h.blk.cell 44 (by rw[h.len];omega);rw[this,ag,(Ft h.dl h.hl).2.1];rfl
theorem jT.ae (h:jT T b w e dc): w.cell? ⟨b,45,none⟩=some (Iq e.ae):=by
 have:=h.blk.cell 45 (by rw[h.len];omega);rw[this,ag,(Ft h.dl h.hl).2.2];rfl
theorem jT.yV (h:jT T b w e dc): w.rangeAt b 44 [Iq e.ab,Iq e.ae]:=by
 intro j u hj
 match j,hj with
 | 0,hj=>cases hj;exact h.ab
 | 1,hj=>cases hj;exact h.ae
theorem jT.ij (h:jT T b w e dc) {K:Nat -> Prop}(hk:ib K w w') (hb:K b): jT T b w' e dc:=⟨h_.ij h.blk hk hb,h.dl,h.hl⟩
theorem jT.below (h:jT T b w e dc) (hk:iB w w'): jT T b w' e dc:=⟨h_.below h.blk hk h.blk.lt,h.dl,h.hl⟩
end
section
variable {n:NN}{Q:Exit -> Act -> World -> Prop}{l:Env}{w w':World}{ops:Array Oper}{o:Oper}{rest:List Oper}{d:Nat}
theorem WL.ain {s:Operand}{t e sz:Nat}{xp:Option Addr}{cap xc:Nat}(hg:o.guard=none) (hd:o.dst=some d) (hn:Nat.blt d n.n=true) (ho:o.op=.call { callee:=.builtin .append,args:=#[s,x],argTypes:=#[t,t]}) (ht:tyOf ty t=some (.slice e sz)) (hs:jw l s=some (.slice sp m cap)) (hc:m <= cap) (hx:jw l x=some (.slice xp 0 xc)) (h:WL n ops Q rest ((d,.slice sp m cap) :: l) w): WL n ops Q (o :: rest) l w :=
 WL.step hg hd hn (fun a ha=>by
  obtain⟨hu,j5⟩:=m_.of mV ht;have Pu:(sizeOf e).run prog w=.ok sz w:=by
   cases hq:prog.info? e with
   | none=>rw[hq] at j5;cases j5
   | some q=>rw[hq] at j5;simp at j5;simp[sizeOf,typeInfo,hq,j5]
  unfold execOp;simp only[ho,resolve,invoke,builtin,bA,eJ,bm,cn,aM,cT,ha.eval hs,ha.eval hx];have kz:(Builtin.append_ #[t,t] o.type #[.slice sp m cap,.slice xp 0 xc]).run prog w=.ok (.slice sp m cap) w:=by
   cases sp<;>cases xp<;>simp[Builtin.append_,run_underlying hu,Pu,Builtin.lenOf,Builtin.firstCells,hc,loadCells,loadCellsFrom,storeCells]
  rw[kz]
  rfl) h
end
theorem Nv {v:Value}{l:List ByteArray}(h:Bi w v l) (h0:0<l.length): n_ w (fun _=>True) 1 v l.length (l.map Value.string):=by
 obtain⟨sp,cap,rfl,h1,h2,-,h4⟩:=h;obtain⟨b,o,rfl,hb,hr⟩:=h4 h0;refine⟨iz,kj.str l,_,cap,rfl,h1,h2,(fun h=>by cases h),fun _=>⟨b,o,rfl,hb,trivial,fun j hj=>?_⟩⟩;rw[av] at hj;rw[hr j hj];simp[hj]
theorem L3 {v:Value}{l:List ByteArray}(h:iK 9 1 w O v l.length (l.map Value.string)) (hz:∀s∈l,s.size <= 140737488355328): lA 1 jz EM O w v l:=by
 obtain⟨q1,q2,sp,cap,rfl,h4,h5,h6,h7⟩:=h.DC;refine⟨sp,cap,rfl,h4,h5,h6,fun h0=>?_⟩;obtain⟨b,o,e,hb,hO,hr⟩:=h7 h0;refine⟨b,o,e,hb,hO,fun j hj=>⟨[.string (l.getD j jz)],rfl,⟨rfl,?_⟩,fun i u hu=>?_⟩⟩
 ·exact hz _ (by simp[hj])
 ·cases i with
  | zero=>
   have:=hr j (by simpa using hj);simp at hu
   rw[cP,dX,this,<- hu];simp[hj]
  | succ i=>simp at hu
def Sm (B:Nat):Nat -> V -> Prop
 | 0,_=>False
 | f+1,v=>v.names.length <= B /\ v.kids.length <= B /\ ∀x∈v.kids,Sm B f x
theorem Si {B f:Nat}(ih:∀(v:V) (n:Nat),o_ f v -> grt B f v n <= B -> n+1 <= grt B f v n /\ Sm B f v):∀(l:List V) (n:Nat),(∀x∈l,o_ f x) -> grtK B (grt B f) l n <= B -> n+l.length <= grtK B (grt B f) l n /\ ∀x∈l,Sm B f x
 | [],n,_,_=>⟨by simp[grtK],fun x hx=>by cases hx⟩
 | k :: r,n,h,hB=>by
  unfold grtK at hB ⊢
  by_cases hn:n <= B
  ·rw[if_pos hn] at hB ⊢
   have hle:grt B f k n <= B:=by
    rcases aO B (grt B f k n) with h1|h1
    ·rw[I1 r h1] at hB;omega
    ·exact h1
   have h1:=ih k n (h k iz) hle;have h2:=Si ih r (grt B f k n) (fun x hx=>h x (az _ hx)) hB;refine⟨by simp only[aj];omega,fun x hx=>?_⟩;rcases ar.1 hx with rfl|hx
   ·exact h1.2
   ·exact h2.2 x hx
  ·rw[if_neg hn] at hB;omega
theorem H7 {B:Nat}:∀(f:Nat) (v:V) (n:Nat),o_ f v -> grt B f v n <= B -> n+1 <= grt B f v n /\ Sm B f v
 | 0,_,_,h,_=>h.elim
 | f+1,v,n,h,hB=>by
  unfold grt at hB ⊢;have:=Si (H7 f) v.kids _ h.2.2 hB;exact⟨gZ,gZ,gZ,this.2⟩
theorem yG {B:Nat}(hB:B <= 1000000):∀(f:Nat) {w:World}{v:V}{cs:List Value},kH f w v cs -> Sm B f v ->
  Calls prog 112 #[.agg cs.toArray] w fun e w'=>iB w w' /\ ∃yo,e=.returned (.agg yo.toArray) /\ jE (fun b=>w.heap.size <= b) f w' v yo
 | 0,_,_,_,h,_=>h.elim
 | f+1,w,v,cs,h,hm=>by
  obtain⟨sn,sk,rfl,wk,wn,ws,wt,qJ,tM⟩:=h;obtain⟨xF,OT,LN⟩:=hm;obtain⟨sp,cap,rfl,uG,oG,ji⟩:=tM;refine iY (args:=[.agg (lW v sn (.slice sp v.kids.length cap)).toArray]) func112 ntmps112 ?_;refine gY ?_;refine iC fun g1 w1 nh=>?_;have mJ:jl w g1 w1 25 (lW v sn (.slice sp v.kids.length cap)):=nh;clear nh;refine ix (z:=.agg iy.toArray) (fun _=>by kernel_rfl) fun g2 w2 lI=>?_;have kM:jl w1 g2 w2 25 iy:=lI;clear lI;have zY:=mJ.size;have vJ:=kM.size;have ZS:=mJ.eq;have De:=kM.eq;have lQ:=mJ.below.trans (kM.below.mono mJ.below.size);have B1:=mJ.blk.below kM.below mJ.blk.lt;have B2:=kM.blk;clear mJ kM;refine ku ?_;refine WL.sa (fun _:Value=>[(1,iF g1),(2,iF g2)]) (fun sx wx=>h_ 25 wx g1 (lW v sx (.slice sp v.kids.length cap)) /\ h_ 25 wx g2 iy /\ iB w wx /\
   lA 1 jz EM (fun b=>w.heap.size <= b /\ b≠g1 /\ b≠g2) wx sx v.names /\ sx.oneCell'=true) rfl ?_ ?_
  ·refine WL.empty rfl rfl rfl rfl rfl fun g5 w3 tS=>?_
   have yt:jl w2 g5 w3 9 []:=tS;clear tS;have Oa:=yt.size;have he3:=yt.eq;have jF:=yt.blk;have mG:=lQ.iR yt.below;have Lv:=B1.below yt.below B1.lt;have Aa:=B2.below yt.below B2.lt;clear yt
   -- the store behind the append
   have go:∀ {wx:World}{sx:Value},jv w3 (.slice (some ⟨g5,0,none⟩) 0 0) wx sx -> h_ 25 wx g1 (lW v sn (.slice sp v.kids.length cap)) /\ h_ 25 (wx.setCell ⟨g1,4,none⟩ sx) g1 (lW v sx (.slice sp v.kids.length cap)) /\ h_ 25 (wx.setCell ⟨g1,4,none⟩ sx) g2 iy /\ iB w (wx.setCell ⟨g1,4,none⟩ sx):=fun {wx sx} h=>by
    have hk:ib (fun b=>b<g5) w3 wx:=ib.mono h.1 fun b hb=>⟨gZ,fun e=>by have:g5=b:=au e;omega⟩;have b1:=Lv.ij hk gZ;refine⟨b1,b1.set 4 sx,(Aa.ij hk gZ).other _ _ (by show g2≠g1;omega),ib.below (ib.setCell (ib.ic (mG.trans (ib.below (ib.mono hk fun b (hb:b<w.heap.size)=>by omega)))) (fun hk=>by simp only at hk;omega) _)⟩
   obtain⟨np,nc,rfl,nl,nm,nz,nr⟩:=qJ;refine gY ?_;refine ia (Lv.cell 4 iz) ?_
   by_cases HP:v.names.length=0
   ·refine WL.as 7 (.slice np 0 nc) rfl (by show Value.slice np v.names.length nc=_;rw[HP]) ?_
    refine WL.ain rfl rfl rfl rfl rfl rfl (af 0) rfl ?_;obtain⟨b1,b2,b3,b4⟩:=go (jv.refl w3 (.slice (some ⟨g5,0,none⟩) 0 0));refine gY ?_;refine iD (b1.cell 4 iz) (b1.free 4) ?_;refine WL.nil ?_;exact WQ.meet (.slice (some ⟨g5,0,none⟩) 0 0) iW ⟨b2,b3,b4,⟨_,0,by rw[HP],gZ,gZ,(fun h=>by cases h),fun h=>by omega⟩,rfl⟩
   ·have iJ:iK 9 1 w3 (fun g=>g=g5) (.slice (some ⟨g5,0,none⟩) 0 0) 0 []:=⟨⟨iz,.inr ⟨g5,0,#[],rfl,aw _,jF,af _,by unfold maxLen;omega,iz,iz⟩⟩,fun _ h=>(aR h).elim,fun g h=>by cases h;rfl⟩
    have lU:=Nv (w:=w3) (v:=.slice np v.names.length nc) (l:=v.names) (Bi.below (w:=w) ⟨np,nc,rfl,nl,nm,nz,nr⟩ mG) gZ;refine WL.qO rfl rfl rfl rfl WW rfl iJ rfl lU gZ gZ fun sx wx ho hg=>?_;obtain⟨b1,b2,b3,b4⟩:=go hg;have lx:sx.oneCell'=true:=by obtain⟨_,_,rfl,-⟩:=ho.slice;rfl
    refine gY ?_;refine iD (hv:=lx) (b1.cell 4 iz) (b1.free 4) ?_;refine WL.nil ?_;refine WQ.meet sx iW ⟨b2,b3,b4,?_,lx⟩;have oy:ib (fun b=>b≠g1) wx (wx.setCell ⟨g1,4,none⟩ sx):=(ib.refl _ wx).setCell (fun hk=>hk rfl) _;simp only[a_,aH] at ho;refine(L3 (O:=fun b=>w.heap.size <= b /\ b≠g1 /\ b≠g2) (ho.mono fun b hb=>by omega) fun s hs=>?_).ij oy (fun b hb _=>hb.2.1) (fun b hb=>hb) fun _ _ h=>h;obtain⟨j,hj,rfl⟩:=bn hs
    simpa[hj] using nz j hj
  rintro sx w5 ⟨C1,C2,nY,m4,hsx⟩;have hz5:=nY.size;have hgg:g1≠g2:=gZ;have SO:=C1.lt;have PC:=C2.lt;refine gY ?_;refine WC.loop (fun i:Nat × Value=>[(1,iF g1),(2,iF g2),(3,i.2),(4,Iq i.1)])
   (fun i wr=>i.1 <= v.kids.length /\ iB w5 wr /\ ∃q:Nat -> Prop,jk 25 6 lH (jE q f wr) (fun b=>w5.heap.size <= b) wr i.2 (v.kids.take i.1) /\ ∀b,q b -> w5.heap.size <= b /\ b<wr.heap.size /\ i.2.ownBlock≠some b) (fun i=>v.kids.length - i.1) (0,.slice none 0 0)
   iW ⟨aw _,Below.refl _ _,fun _=>False,jk.nil _ _ _ _ _ _,fun b h=>h.elim⟩ ?_
  rintro⟨i,vk⟩ wr ⟨hi,jC,q,sI,hq⟩;simp only at hi jC sI hq ⊢;have D1:=C1.below jC SO;have D2:=C2.below jC PC;have tQ:=nY.trans (jC.mono hz5);have hzr:=jC.size;refine gY ?_;refine ia (D1.cell 5 iz) ?_
  by_cases je:i<v.kids.length
  ·obtain⟨kb,ko,rfl,oN,kA⟩:=ji gZ
   obtain⟨c,mO,pj,mo⟩:=kA i je;refine gY ?_;refine ia (D1.cell 5 iz) ?_;refine gY ?_;refine iG i (ko+i*6) je ?_;refine ig (fun j u hu=>(tQ.cell (p:=⟨kb,ko+i*6+j,none⟩) oN).trans (mo j u hu)) mO ?_;refine il func112 (yG hB f (pj.below tQ) (LN _ (by simp[je]))) ?_;rintro _ w6 ⟨qA,c6,rfl,Ch⟩;refine⟨_,rfl,?_⟩;have Vg:=qA.size;refine jR (hcs:=Ch.len) (hs:=⟨gZ,gZ⟩) fun g7 w7 uy=>?_;have hz7:=uy.size;have tF:=qA.trans (uy.below.mono Vg);have Ah:jk 25 6 lH (jE (fun b=>q b \/ (wr.heap.size <= b /\ b<w7.heap.size)) f w7) (fun b=>w5.heap.size <= b) w7 vk (v.kids.take i) :=
    sI.ij (ib.ic tF) (fun g hg=>sI.lt hg) (fun _ h=>h) fun x cs hx=>hx.ij (ib.ic tF) (fun b hb _=>(hq b hb).2.1) fun b hb=>.inl hb
   have HJ:jE (fun b=>q b \/ (wr.heap.size <= b /\ b<w7.heap.size)) f w7 (v.kids.getD i lH) c6:=Ch.there.ij (ib.ic uy.below) (fun b _ h=>h) fun b hb=>.inr ⟨hb.1,gZ⟩;have iS:(v.kids.take i).length <= i:=by rw[aE];omega
   refine WL.snoc rfl rfl rfl rfl Pn rfl Ah rfl uy.blk Ch.one Ch.len HJ gZ gZ fun vk8 w8 xC nP=>?_;have Af:=(jC.trans (tF.mono hzr)).trans (nP.old gZ fun g hg=>Ah.own hg);have Px:∀b,(q b \/ (wr.heap.size <= b /\ b<w7.heap.size)) -> w5.heap.size <= b /\ b<w7.heap.size /\ vk.ownBlock≠some b:=fun b hb=>hb.elim (fun h=>by
     obtain⟨h1,h2,h3⟩:=hq b h;exact⟨h1,gZ,h3⟩) fun h=>⟨gZ,h.2,fun e=>by have:=sI.lt e;omega⟩
   have wo:v.kids.take (i+1)=v.kids.take i++[v.kids.getD i lH]:=by
    rw[aJ];simp[je]
   refine gY ?_;refine WQ.again (i+1,vk8) iW ⟨je,Af,(fun b=>q b \/ (wr.heap.size <= b /\ b<w7.heap.size)),?_,fun b hb=>?_⟩ (by show v.kids.length - (i+1)<v.kids.length - i;omega)
   ·show jk _ _ _ _ _ _ _ (v.kids.take (i+1))
    rw[wo];exact xC.ij (ib.refl (fun _=>True) w8) (fun _ _=>trivial) (fun b hb=>by omega) fun x cs hx=>hx.ij nP.1 (fun b hb _=>(Px b hb).2) fun b hb=>hb
   ·obtain⟨h1,h2,h3⟩:=Px b hb
    exact⟨h1,ak h2 nP.1.size,fun e=>(nP.2 b e).elim h3 fun h4=>by omega⟩
  ·obtain rfl:i=v.kids.length:=gZ
   rw[aI] at sI;have hvk:=sI.one;have oy:ib (fun b=>b≠g1) wr (wr.setCell ⟨g1,5,none⟩ vk):=(ib.refl _ wr).setCell (fun hk=>hk rfl) _;refine gY ?_;refine iD (hv:=hvk) (D1.cell 5 iz) (D1.free 5) ?_;have E1:=D1.set 5 vk;have E2:h_ 25 (wr.setCell ⟨g1,5,none⟩ vk) g2 iy:=D2.other _ _ (by show g2≠g1;omega);have PT:iB w (wr.setCell ⟨g1,5,none⟩ vk):=ib.below (ib.setCell (ib.ic tQ) (fun hk=>by simp only at hk;omega) _);have PD:=(m4.there (fun _ _ h=>h)).ij (O':=fun b=>(w.heap.size <= b /\ b≠g1 /\ b≠g2)) (ib.ic jC) (fun b hb iS=>iS) (fun b hb=>hb.1) fun _ _ h=>h;have GB:=PD.ij oy (fun b hb _=>hb.2.1) (fun b hb=>hb) fun _ _ h=>h;have GA:lA 6 lH (jE (fun b=>w5.heap.size <= b) f (wr.setCell ⟨g1,5,none⟩ vk)) (fun b=>w5.heap.size <= b) (wr.setCell ⟨g1,5,none⟩ vk) vk v.kids :=
    sI.jt.ij oy (fun b hb _=>by omega) (fun b hb=>hb) fun x cs hx=>hx.ij oy (fun b hb _=>by have:=(hq b hb).1;omega) fun b hb=>(hq b hb).1
   generalize wr.setCell ⟨g1,5,none⟩ vk=w9 at E1 E2 PT GB GA;simp only[dy,fC] at E1;refine gY ?_;refine ig (h_.rangeAt E1) rfl ?_;have lx:kj [Value.int .i64 v.k,Iq v.n,Iq v.s,.string v.t,sx,vk]:=by
    intro u hu;simp at hu
    rcases hu with rfl|rfl|rfl|rfl|rfl|rfl<;>first|rfl|assumption
   refine ir E2 lx ?_;refine gY ?_;have rS:∀a,ib (fun b=>b≠g2) w9 (w9.setRow g2 a):=fun a=>ib.setRow (ib.refl _ w9) (fun hk=>hk rfl) a;refine WQ.tl rfl rfl rfl rfl (E2.setRow _) ⟨ib.below (ib.setRow (ib.ic PT) (fun hk=>by omega) _),_,rfl,sx,vk,rfl,wk,wn,ws,wt,GB.ij (rS _) (fun b hb _=>hb.2.2) (fun b hb=>hb.1) fun _ _ h=>h,?_⟩;exact GA.ij (rS _) (fun b hb _=>by omega) (fun b hb=>by omega) fun x cs hx=>hx.ij (rS _) (fun b hb _=>by omega) fun b hb=>gZ
variable {n:NN}{Q:Exit -> Act -> World -> Prop}{l:Env}{w w':World}{ops:Array Oper}{o:Oper}{rest:List Oper}{d:Nat}
theorem WL.tN {t off:Nat}{m:List Value}(hg:o.guard=none) (hd:o.dst=none) (ho:o.op=.store t x y) (hx:jw l x=some (.pointer (some ⟨b,off,none⟩))) (hy:jw l y=some (.agg m.toArray)) (ht:cellsN (tyOf ty t)=some mm) (hb:h_ T w b cs) (hm:m.length=mm) (hfit:off+mm <= cs.length) (h1:kj m) (h:WL n ops Q rest l (w.setRow b (cs.take off++m++cs.drop (off+mm)).toArray)): WL n ops Q (o :: rest) l w :=
 WL.T6 hg hd (fun a ha=>by
  obtain⟨_,-,-,j5⟩:=rK mV ht;have hs:(sizeOf t).run prog w=.ok mm w:=by
   cases hq:prog.info? t with
   | none=>rw[hq] at j5;cases j5
   | some q=>rw[hq] at j5;simp at j5;simp[sizeOf,typeInfo,hq,j5]
  have kz:=run_storeCells_at (P:=prog) b off T m 0 cs.toArray w hb (by simp only[b_];omega) h1;simp only[dX] at kz;subst hm;unfold execOp;rw[ho];simp[ha.eval hx,ha.eval hy,Instr.storeAt,Instr.sureAddr,storeVar,hs,Value.cells,kz]) h
theorem P8 {t e s off:Nat}(ho:o.op=.slice t x none none none) (ht:tyOf ty t=some (.arr m e s)) (hx:a.eval x=.pointer (some ⟨b,off,none⟩)): (execOp a.eval o).run prog w=.ok (.value (.slice (some ⟨b,off,none⟩) m m)) w:=by
 obtain⟨hu,qH,-⟩:=m_.of mV ht;have h1:prog.elem t=e:=by simp[Program.elem,hu]
 have h2:prog.arrayLen t=m:=by simp[Program.arrayLen,hu]
 have hs:(sizeOf e).run prog w=.ok s w:=by
  cases hq:prog.info? e with
  | none=>rw[hq] at qH;cases qH
  | some q=>rw[hq] at qH;simp at qH;simp[sizeOf,typeInfo,hq,qH]
 have hr:=run_sliceAt_array_all (P:=prog) w t ⟨b,off,none⟩ (by rw[h1,h2];exact hu);unfold execOp;rw[ho];have ha:slicedAt ⟨b,off,none⟩ 0 m m s=.slice (some ⟨b,off,none⟩) m m:=by
  unfold slicedAt
  by_cases h0:m=0
  ·rw[if_pos h0];simp
  ·rw[if_neg h0,gU];rfl
 simp[hx,hr,h1,h2,hs,ha]
theorem WL.all {t e s off:Nat}(hg:o.guard=none) (hd:o.dst=some d) (hn:Nat.blt d n.n=true) (ho:o.op=.slice t x none none none) (ht:tyOf ty t=some (.arr m e s)) (hx:jw l x=some (.pointer (some ⟨b,off,none⟩))) (h:WL n ops Q rest ((d,.slice (some ⟨b,off,none⟩) m m) :: l) w): WL n ops Q (o :: rest) l w:=WL.step hg hd hn (fun _ ha=>P8 ho ht (ha.eval hx)) h
theorem WL.elem {t e:Nat}{i:Operand}{k:IntKind}{v:Value}(j:Nat) (hg:o.guard=none) (hd:o.dst=some d) (hn:Nat.blt d n.n=true) (ho:o.op=.index t x i) (ht:tyOf ty t=some (.arr m e 1)) (he:Ke (tyOf ty e)=true) (hx:jw l x=some (.agg cs.toArray)) (hi:jw l i=some (.int k (j:Int))) (hj:j<m) (hv:cs[j]? = some v) (h:WL n ops Q rest ((d,v) :: l) w): WL n ops Q (o :: rest) l w :=
 WL.step hg hd hn (fun a ha=>by
  obtain⟨hu,qH,-⟩:=m_.of mV ht;obtain⟨ie,A0,j5⟩:=cH.1 qH;have hd:∃d,prog.underlying e=some d /\ (match d with|.struct _|.array _ _=>false|_=>true)=true:=by
   cases hq:tyOf ty e with
   | none=>rw[hq] at he;cases he
   | some z=>
    rw[hq] at he;have hz:=m_.of mV hq;cases z with
    | int k=>exact⟨_,hz,rfl⟩
    | str=>exact⟨_,hz,rfl⟩
    | bool=>exact⟨_,hz,rfl⟩
    | ptr e=>exact⟨_,hz,rfl⟩
    | map k e=>exact⟨_,hz,rfl⟩
    | slice e s=>exact⟨_,hz.1,rfl⟩
    | struct m fs=>cases he
    | arr m e s=>cases he
  obtain⟨dd,h1,h2⟩:=hd;have:=Az (P:=prog) w t e m dd ie hu A0 j5 h1 (by cases dd<;>first|rfl|exact absurd h2 iz) cs.toArray k j hj v (by simpa using hv);unfold execOp;rw[ho];simp[ha.eval hx,ha.eval hi,this]) h
section
variable {S:World -> Prop}{m fuel:Nat}{iw:Array Bool}
theorem WD.all {t e s off:Nat}(i:Nat) (hi:ops[i]? = some oi) (hs:uw ops iw i m=true) (hd:oi.dst=some d) (hn:Nat.blt d n.n=true) (hQ:Passes Q) (hw:wants ops l oi=some true) (ho:oi.op=.slice t x none none none) (ht:tyOf ty t=some (.arr mm e s)) (hx:jw l x=some (.pointer (some ⟨b,off,none⟩))) (hS:iw.getD m false=true \/ S w) (h:WD n ops Q S m fuel (iw.setIfInBounds i true) ((d,.slice (some ⟨b,off,none⟩) mm mm) :: l) w): WD n ops Q S m (fuel+1) iw l w :=
 WD.first i hi hs hd hn hQ (fun _ ha=>.inl ⟨m0 ha hw,fun _ _=>P8 ho ht (ha.eval hx)⟩) hS h
end
variable {n:NN}{Q:Exit -> Act -> World -> Prop}{l:Env}{w w':World}{ops:Array Oper}{o:Oper}{rest:List Oper}{d:Nat}
theorem CW {t e s:Nat}(ht:tyOf ty t=some (.arr m e s)): prog.underlying t=some (.array (prog.arrayLen t) (prog.elem t)) /\ prog.arrayLen t=m /\ ∀w,(sizeOf (prog.elem t)).run prog w=.ok s w:=by
 obtain⟨hu,qH,-⟩:=m_.of mV ht;have h1:prog.elem t=e:=by simp[Program.elem,hu]
 have h2:prog.arrayLen t=m:=by simp[Program.arrayLen,hu]
 refine⟨by rw[h1,h2];exact hu,h2,fun w=>?_⟩;rw[h1];cases hq:prog.info? e with
 | none=>rw[hq] at qH;cases qH
 | some q=>rw[hq] at qH;simp at qH;simp[sizeOf,typeInfo,hq,qH]
theorem Nk {t e s off:Nat}{i:Operand}{k:IntKind}(ho:o.op=.indexAddr t x i) (ht:tyOf ty t=some (.arr m e s)) (hx:a.eval x=.pointer (some ⟨b,off,none⟩)) (hi:a.eval i=.int k z) (hz:z=(j:Int)) (hj:j<m):
  (execOp a.eval o).run prog w=.ok (.value (.pointer (some ⟨b,off+j*s,none⟩))) w:=by
 obtain⟨hu,hm,hs⟩:=CW ht;unfold execOp;rw[ho];simp only[hx,hi,bA,run_indexAt_array w t _ k z hu];rw[if_pos (by rw[hm];omega),hs,hz];simp[dY]
theorem WL.abi {t e s off:Nat}{i:Operand}{k:IntKind}(j q:Nat) (hg:o.guard=none) (hd:o.dst=some d) (hn:Nat.blt d n.n=true) (ho:o.op=.indexAddr t x i) (ht:tyOf ty t=some (.arr m e s)) (hx:jw l x=some (.pointer (some ⟨b,off,none⟩))) (hi:jw l i=some (.int k z)) (hz:z=(j:Int)) (hj:j<m) (hq:off+j*s=q) (h:WL n ops Q rest ((d,.pointer (some ⟨b,q,none⟩)) :: l) w): WL n ops Q (o :: rest) l w :=
 WL.step hg hd hn (fun _ ha=>by rw[<- hq];exact Nk ho ht (ha.eval hx) (ha.eval hi) hz hj) h
theorem _root_.Go.Proofs.YtlenklobbngopaaGreat.j_ {t e s off:Nat}{i:Operand}{k:IntKind}(j:Nat) (q:Nat) (h:WL n ops Q rest ((d,.pointer (some ⟨b,q,none⟩)) :: l) w) (hg:o.guard=none:=by exact rfl) (hd:o.dst=some d:=by exact rfl) (hn:Nat.blt d n.n=true:=by exact rfl) (ho:o.op=.indexAddr t x i:=by exact rfl) (ht:tyOf ty t=some (.arr m e s):=by exact rfl) (hx:jw l x=some (.pointer (some ⟨b,off,none⟩)):=by exact rfl) (hi:jw l i=some (.int k z):=by exact rfl) (hz:z=(j:Int):=by exact rfl) (hj:j<m:=by omega) (hq:off+j*s=q:=by omega): WL n ops Q (o :: rest) l w:=WL.abi j q hg hd hn ho ht hx hi hz hj hq h
section
variable {S:World -> Prop}{m fuel:Nat}{iw:Array Bool}
theorem WD.abi {t e s off:Nat}{k:IntKind}(i j q:Nat) (hi:ops[i]? = some oi) (hs:uw ops iw i m=true) (hd:oi.dst=some d) (hn:Nat.blt d n.n=true) (hQ:Passes Q) (hw:wants ops l oi=some true) (ho:oi.op=.indexAddr t x i') (ht:tyOf ty t=some (.arr mm e s)) (hx:jw l x=some (.pointer (some ⟨b,off,none⟩))) (DL:jw l i'=some (.int k z)) (hz:z=(j:Int)) (hj:j<mm) (hq:off+j*s=q) (hS:iw.getD m false=true \/ S w) (h:WD n ops Q S m fuel (iw.setIfInBounds i true) ((d,.pointer (some ⟨b,q,none⟩)) :: l) w): WD n ops Q S m (fuel+1) iw l w :=
 WD.first i hi hs hd hn hQ (fun _ ha=>.inl ⟨m0 ha hw,fun _ _=>by rw[<- hq];exact Nk ho ht (ha.eval hx) (ha.eval DL) hz hj⟩) hS h
theorem _root_.Go.Proofs.YtlenklobbngopaaGreat.jr {t e s off:Nat}{k:IntKind}(i:Nat) (j:Nat) (q:Nat) (hS:iw.getD m false=true \/ S w) (h:WD n ops Q S m fuel (iw.setIfInBounds i true) ((d,.pointer (some ⟨b,q,none⟩)) :: l) w) (hi:ops[i]? = some oi:=by exact rfl) (hs:uw ops iw i m=true:=by kernel_rfl) (hd:oi.dst=some d:=by exact rfl) (hn:Nat.blt d n.n=true:=by exact rfl) (hQ:Passes Q:=by exact fun _ _ _ _ _ h=>h) (hw:wants ops l oi=some true:=by exact rfl) (ho:oi.op=.indexAddr t x i':=by exact rfl) (ht:tyOf ty t=some (.arr mm e s):=by exact rfl) (hx:jw l x=some (.pointer (some ⟨b,off,none⟩)):=by exact rfl) (DL:jw l i'=some (.int k z):=by exact rfl) (hz:z=(j:Int):=by exact rfl) (hj:j<mm:=by omega) (hq:off+j*s=q:=by omega): WD n ops Q S m (fuel+1) iw l w:=WD.abi i j q hi hs hd hn hQ hw ho ht hx DL hz hj hq hS h
end
theorem UQ {t e off dc sl sc:Nat}(y9:Nat) (ht:tyOf ty t=some (.slice e 1)) (hb:h_ T w b cs) (hn:vs.length=min sl dl) (hr:w.rangeAt b2 PK vs) (hfit:off+vs.length <= cs.length) (h1:kj vs):
  (Builtin.copy_ #[t,t] y9 #[.slice (some ⟨b,off,none⟩) dl dc,.slice (some ⟨b2,PK,none⟩) sl sc]).run prog w=.ok (Iq vs.length) (w.setRow b (cs.take off++vs++cs.drop (off+vs.length)).toArray):=by
 obtain⟨hu,j5⟩:=m_.of mV ht;have:=run_copy_row prog w t t y9 e b off dl dc ⟨b2,PK,none⟩ sl sc cs.toArray T vs hu j5 hb hn (fun j v hj=>by
  have:=hr j v hj
  simpa[dY] using this) (by simpa using hfit) h1
 refine this.trans ?_
 rfl
theorem WL.copyV {t e off dc sl sc:Nat}(hg:o.guard=none) (hd:o.dst=some d) (hn:Nat.blt d n.n=true) (ho:o.op=.call { callee:=.builtin .copy,args:=#[x,y],argTypes:=#[t,t]}) (ht:tyOf ty t=some (.slice e 1)) (hx:jw l x=some (.slice (some ⟨b,off,none⟩) dl dc)) (hy:jw l y=some (.slice (some ⟨b2,PK,none⟩) sl sc)) (hb:h_ T w b cs) (hm:vs.length=min sl dl) (hr:w.rangeAt b2 PK vs) (hfit:off+vs.length <= cs.length) (h1:kj vs) (h:WL n ops Q rest ((d,Iq vs.length) :: l) (w.setRow b (cs.take off++vs++cs.drop (off+vs.length)).toArray)): WL n ops Q (o :: rest) l w:=by
 have kz:=UQ o.type ht hb hm hr hfit h1 (dc:=dc) (sc:=sc);refine WL.step hg hd hn (fun a ha=>?_) h;unfold execOp;simp only[ho,resolve,invoke,builtin,bA,eJ,bm,cn,aM,cT,ha.eval hx,ha.eval hy,kz]
end K
namespace Tre
open Go.Op
abbrev Ky:=ByteArray
theorem H9:∀x:List UInt8,bytesLess x x=false
 | []=>rfl
 | a :: r=>by
  unfold bytesLess;have:¬a<a:=by rw[bF];omega
  simp[this,H9 r]
theorem FR:∀ {x y z:List UInt8},bytesLess x y=true -> bytesLess y z=true -> bytesLess x z=true
 | x,[],_,h,_=>by
  have e:bytesLess x []=false:=by cases x<;>rfl
  rw[e] at h;cases h
 | _,_ :: _,[],_,h=>by cases h
 | [],_ :: _,_ :: _,_,_=>rfl
 | a :: x,b :: y,c :: z,h1,h2=>by
  unfold bytesLess at h1 h2 ⊢;simp only[ey,aA,decide_eq_true_eq,beq_iff_eq,bF] at h1 h2 ⊢;rcases h1 with h1|⟨rfl,h1⟩
  ·rcases h2 with h2|⟨rfl,h2⟩
   ·left;omega
   ·left;exact h1
  ·rcases h2 with h2|⟨rfl,h2⟩
   ·left;exact h2
   ·right;exact⟨rfl,FR h1 h2⟩
theorem NR:∀ {x y:List UInt8},bytesLess x y=false -> bytesLess y x=false -> x=y
 | [],[],_,_=>rfl
 | [],_ :: _,h,_=>by cases h
 | _ :: _,[],_,h=>by cases h
 | a :: x,b :: y,h1,h2=>by
  unfold bytesLess at h1 h2;simp only[gB,gu,decide_eq_false_iff_not,beq_eq_false_iff_ne,bF] at h1 h2;have e:a=b:=UInt8.toNat_inj.1 gZ;subst e;have h3:bytesLess x y=false:=by rcases h1.2 with h|h;exact absurd rfl h;exact h
  have h4:bytesLess y x=false:=by rcases h2.2 with h|h;exact absurd rfl h;exact h
  rw[NR h3 h4]
def kl (a b:Ky):Bool:=bytesLess a.toList b.toList
theorem JN {a b:Ky}(h:a.toList=b.toList): a=b:=by
 rw[aD,aD] at h;exact gP (Array.toList_inj.1 h)
theorem zE (a:Ky): kl a a=false:=H9 _
theorem tH {a b c:Ky}(h1:kl a b=true) (h2:kl b c=true): kl a c=true:=FR h1 h2
theorem BG {a b:Ky}(h1:kl a b=false) (h2:kl b a=false): a=b:=JN (NR h1 h2)
theorem vp {a b:Ky}(h:kl a b=true): kl b a=false:=by
 cases h2:kl b a with
 | false=>rfl
 | true=>have:=tH h h2;rw[zE] at this;cases this
theorem zD {a b:Ky}(h:kl a b=true): a≠b:=fun e=>by subst e;rw[zE] at h;cases h
theorem Bt {a b c:Ky}(h1:kl a b=true) (h2:kl c b=false): kl a c=true:=by
 cases h3:kl b c with
 | true=>exact tH h1 h3
 | false=>rw[<- BG h3 h2];exact h1
theorem YV {a b c:Ky}(h1:kl b a=false) (h2:kl c b=false): kl c a=false:=by
 cases h3:kl c a with
 | false=>rfl
 | true=>rw[Bt h3 h1] at h2;cases h2
def xm (a b:Ky):Ky:=if kl b a then b else a
abbrev KV:=Ky × Int
def qc (l:List KV):Prop:=l.Pairwise fun a b=>kl a.1 b.1=true
def Lo (l:List KV) (k:Ky):Prop:=∀e∈l,kl e.1 k=true
def Hi (l:List KV) (k:Ky):Prop:=∀e∈l,kl k e.1=true
theorem Lo.app {a b:List KV}{k:Ky}: Lo (a++b) k ↔ Lo a k /\ Lo b k:=by
 unfold Lo;simp only[aq];exact⟨fun h=>⟨fun e he=>h e (.inl he),fun e he=>h e (.inr he)⟩,fun h e he=>he.elim (h.1 e) (h.2 e)⟩
theorem Hi.app {a b:List KV}{k:Ky}: Hi (a++b) k ↔ Hi a k /\ Hi b k:=by
 unfold Hi;simp only[aq];exact⟨fun h=>⟨fun e he=>h e (.inl he),fun e he=>h e (.inr he)⟩,fun h e he=>he.elim (h.1 e) (h.2 e)⟩
theorem Lo.nil {k:Ky}: Lo [] k:=fun _ h=>by cases h
theorem Hi.nil {k:Ky}: Hi [] k:=fun _ h=>by cases h
def getL (k:Ky):List KV -> Option Int
 | []=>none
 | (a,m) :: r=>if a=k then some m else getL k r
def kT (k:Ky) (n:Int):List KV -> List KV
 | []=>[(k,n)]
 | (a,m) :: r=>if kl a k then(a,m) :: kT k n r else if a=k then(k,n) :: r else(k,n) :: (a,m) :: r
def lP (k:Ky) (l:List KV):List KV:=l.filter fun p=>decide (p.1≠k)
theorem JR {k:Ky}:∀ {a b:List KV},Lo a k -> getL k (a++b)=getL k b
 | [],_,_=>rfl
 | (x,m) :: a,b,h=>by
  have hx:=h (x,m) iz;simp only[aT,getL];rw[if_neg (zD hx)];exact JR fun e he=>h e (by simp[he])
theorem Ag {k:Ky}:∀ {a b:List KV},Hi b k -> getL k (a++b)=getL k a
 | [],[],_=>rfl
 | [],(x,m) :: b,h=>by
  have hx:=h (x,m) iz;simp only[aH,getL];rw[if_neg (fun e=>zD hx e.symm)];have:=Ag (a:=[]) (b:=b) fun e he=>h e (by simp[he])
  simpa[getL] using this
 | (x,m) :: a,b,h=>by
  simp only[aT,getL];rw[Ag h]
theorem TH {k:Ky}{n:Int}:∀ {a b:List KV},Lo a k -> kT k n (a++b)=a++kT k n b
 | [],_,_=>rfl
 | (x,m) :: a,b,h=>by
  have hx:=h (x,m) iz;simp only[aT,kT];rw[if_pos hx,TH fun e he=>h e (by simp[he])]
theorem Qt {k:Ky}{n:Int}:∀ {a b:List KV},Hi b k -> kT k n (a++b)=kT k n a++b
 | [],[],_=>rfl
 | [],(x,m) :: b,h=>by
  have hx:=h (x,m) iz;simp only[aH,kT];rw[if_neg (by rw[vp hx];exact dw),if_neg (fun e=>zD hx e.symm)]
  rfl
 | (x,m) :: a,b,h=>by
  simp only[aT,kT]
  split
  ·rw[Qt h];rfl
  ·split<;>rfl
theorem MQ {k:Ky}{a b:List KV}: lP k (a++b)=lP k a++lP k b:=by unfold lP;rw[bW]
theorem adi {k:Ky}{a:List KV}(h:Lo a k): lP k a=a:=by
 unfold lP;rw[dm];intro e he;exact decide_eq_true (zD (h e he))
theorem Ks {k:Ky}{a:List KV}(h:Hi a k): lP k a=a:=by
 unfold lP;rw[dm];intro e he;exact decide_eq_true (fun e2=>zD (h e he) e2.symm)
theorem Ms {k:Ky}{n:Int}:∀ {l:List KV}{e:KV},e∈kT k n l -> e=(k,n) \/ e∈l
 | [],e,h=>by simp[kT] at h;exact .inl h
 | (a,m) :: r,e,h=>by
  unfold kT at h
  split at h
  ·rcases ar.1 h with h|h
   ·exact .inr (by simp[h])
   ·rcases Ms h with h|h
    ·exact .inl h
    ·exact .inr (by simp[h])
  ·split at h
   ·rcases ar.1 h with h|h
    ·exact .inl h
    ·exact .inr (by simp[h])
   ·rcases ar.1 h with h|h
    ·exact .inl h
    ·exact .inr h
theorem Gf {k:Ky}{n:Int}:∀ {l:List KV},qc l -> qc (kT k n l)
 | [],_=>by simp[kT,qc]
 | (a,m) :: r,h=>by
  obtain⟨h1,h2⟩:=bH.1 h;unfold kT
  split
  ·rename_i hk
   refine bH.2 ⟨fun e he=>?_,Gf h2⟩;rcases Ms he with rfl|he
   ·exact hk
   ·exact h1 e he
  ·rename_i hk
   split
   ·rename_i he
    subst he;exact bH.2 ⟨h1,h2⟩
   ·rename_i kD
    have uz:kl k a=true:=by
     cases hq:kl k a with
     | true=>rfl
     | false=>exact absurd (BG (by simpa using hk) hq) kD
    refine bH.2 ⟨fun e he=>?_,h⟩;rcases ar.1 he with rfl|he
    ·exact uz
    ·exact tH uz (h1 e he)
theorem Nt {k:Ky}{l:List KV}(h:qc l): qc (lP k l):=gC _ h
theorem pJ {a b:List KV}: qc (a++b) ↔ qc a /\ qc b /\ ∀x∈a,∀y∈b,kl x.1 y.1=true:=gD
theorem J9 {k:Ky}:∀ {l:List KV},getL k l=none -> ∀e∈l,e.1≠k
 | [],_,_,h=>by cases h
 | (a,m) :: r,h,e,he=>by
  unfold getL at h
  split at h
  ·cases h
  ·rename_i kD
   rcases ar.1 he with rfl|he
   ·exact kD
   ·exact J9 h e he
theorem Vp {k:Ky}{l:List KV}(h:getL k l=none): lP k l=l:=by
 unfold lP;rw[dm];intro e he;exact decide_eq_true (J9 h e he)
def plc (k:Ky):List Ky -> Nat
 | []=>0
 | a :: r=>if kl a k then plc k r+1 else 0
theorem Ei (k:Ky):∀l,plc k l <= l.length
 | []=>af _
 | a :: r=>by unfold plc;split<;>simp[Ei k r]
theorem Pj {k:Ky}:∀ {l:List Ky}{i:Nat},i <= l.length -> (∀j,j<i -> kl (l.getD j ByteArray.empty) k=true) -> (i<l.length -> kl (l.getD i ByteArray.empty) k=false) -> plc k l=i
 | [],i,h,_,_=>by simp at h;subst h;rfl
 | a :: r,0,_,_,h2=>by
  have:=h2 iz;simp only[al] at this;unfold plc;rw[this];rfl
 | a :: r,i+1,h,h1,h2=>by
  have h0:=h1 0 gZ;simp only[al] at h0;unfold plc;rw[if_pos h0,Pj (i:=i) (by simpa using h) (fun j hj=>by have:=h1 (j+1) gZ;simpa using this) (fun hi=>by have:=h2 (by simpa using hi);simpa using this)]
theorem NJ {k:Ky}{n:Int}:∀ {l:List KV},qc l ->
  kT k n l=l.take (plc k (l.map Prod.fst))++(k,n) :: l.drop (if(l.map Prod.fst)[plc k (l.map Prod.fst)]? = some k then plc k (l.map Prod.fst)+1 else plc k (l.map Prod.fst))
 | [],_=>by simp[kT,plc]
 | (a,m) :: r,h=>by
  obtain⟨h1,h2⟩:=bH.1 h;simp only[aM];unfold kT plc
  split
  ·rw[NJ h2]
   simp only[bY,cg,aT]
   congr 2
   split<;>simp
  ·simp only[bR,aH,eH,cG]
   split<;>simp
theorem An {k:Ky}:∀ {l:List KV},qc l -> getL k l=if(l.map Prod.fst)[plc k (l.map Prod.fst)]? = some k then(l[plc k (l.map Prod.fst)]?).map Prod.snd else none
 | [],_=>by simp[getL,plc]
 | (a,m) :: r,h=>by
  obtain⟨h1,h2⟩:=bH.1 h;simp only[aM];unfold getL plc
  by_cases hk:kl a k=true
  ·rw[if_neg (zD hk),if_pos hk,An h2]
   simp only[cg]
  ·rw[if_neg hk]
   simp only[eH,cG]
   by_cases e:a=k
   ·rw[if_pos e,if_pos e];rfl
   ·rw[if_neg e,if_neg e]
    have uz:kl k a=true:=by
     cases hq:kl k a with
     | true=>rfl
     | false=>exact absurd (BG (by simpa using hk) hq) e
    have hh:Hi r k:=fun e he=>tH uz (h1 e he);have:=Ag (a:=[]) hh
    simpa[getL] using this
theorem Pg {k:Ky}:∀ {l:List KV},qc l -> lP k l=if(l.map Prod.fst)[plc k (l.map Prod.fst)]? = some k then l.take (plc k (l.map Prod.fst))++l.drop (plc k (l.map Prod.fst)+1) else l
 | [],_=>by simp[lP]
 | (a,m) :: r,h=>by
  obtain⟨h1,h2⟩:=bH.1 h;simp only[aM];unfold plc
  by_cases hk:kl a k=true
  ·have hd:lP k ((a,m) :: r)=(a,m) :: lP k r:=by
    unfold lP;rw[cA,if_pos (decide_eq_true (zD hk))]
   rw[if_pos hk,hd,Pg h2];simp only[cg]
   split<;>simp
  ·rw[if_neg hk]
   simp only[eH,cG,bR,aH]
   by_cases e:a=k
   ·subst e
    have hd:lP a ((a,m) :: r)=lP a r:=by unfold lP;rw[List.filter_cons_of_neg iz]
    rw[if_pos rfl,hd,Ks (fun e he=>h1 e he)];simp
   ·rw[if_neg e]
    have uz:kl k a=true:=by
     cases hq:kl k a with
     | true=>rfl
     | false=>exact absurd (BG (by simpa using hk) hq) e
    exact Ks (fun x hx=>by
     rcases ar.1 hx with rfl|hx
     ·exact uz
     ·exact tH uz (h1 x hx))
end Tre
namespace K
variable {n:NN}{Q:Exit -> Act -> World -> Prop}{l:Env}{w w':World}{ops:Array Oper}{o:Oper}{rest:List Oper}{d:Nat}
def iN (m i off s:Nat):Nat:=if m=i then off else off+i*s
theorem Zp {t e s off:Nat}{y:Int}(ho:o.op=.slice t x (some lo) (some hi) none) (ht:tyOf ty t=some (.arr m e s)) (hx:a.eval x=.pointer (some ⟨b,off,none⟩)) (rM:a.eval lo=.int k1 y) (qx:a.eval hi=.int k2 z) (hy:y=(i:Int)) (hz:z=(j:Int)) (h1:i <= j) (h2:j <= m): (execOp a.eval o).run prog w=.ok (.value (.slice (some ⟨b,iN m i off s,none⟩) (j - i) (m - i))) w:=by
 obtain⟨hu,hm,hs⟩:=CW ht;have hr:=run_sliceAt_array_lh (P:=prog) w t ⟨b,off,none⟩ hu k1 k2 y z gZ gZ (by rw[hm];omega);unfold execOp;rw[ho];subst hy;subst hz;unfold iN
 by_cases kD:m=i
 ·subst kD
  simp[hx,rM,qx,hr,hs,hm,slicedAt]
 ·simp[hx,rM,qx,hr,hs,hm,slicedAt,kD,dY]
theorem X4 {t e s off:Nat}{y:Int}(ho:o.op=.slice t x (some lo) none none) (ht:tyOf ty t=some (.arr m e s)) (hx:a.eval x=.pointer (some ⟨b,off,none⟩)) (rM:a.eval lo=.int k1 y) (hy:y=(i:Int)) (h1:i <= m): (execOp a.eval o).run prog w=.ok (.value (.slice (some ⟨b,iN m i off s,none⟩) (m - i) (m - i))) w:=by
 obtain⟨hu,hm,hs⟩:=CW ht;have hr:=run_sliceAt_array_l (P:=prog) w t ⟨b,off,none⟩ hu k1 y gZ (by rw[hm];omega);unfold execOp;rw[ho];subst hy;unfold iN
 by_cases kD:m=i
 ·subst kD
  simp[hx,rM,hr,hs,hm,slicedAt]
 ·simp[hx,rM,hr,hs,hm,slicedAt,kD,dY]
section
variable {S:World -> Prop}{m fuel:Nat}{iw:Array Bool}
theorem WD.Ed {t e s off:Nat}{y:Int}(i p q:Nat) (hi0:ops[i]? = some oi) (hs:uw ops iw i m=true) (hd:oi.dst=some d) (hn:Nat.blt d n.n=true) (hQ:Passes Q) (hw:wants ops l oi=some true) (ho:oi.op=.slice t x (some lo) (some hi) none) (ht:tyOf ty t=some (.arr mm e s)) (hx:jw l x=some (.pointer (some ⟨b,off,none⟩))) (rM:jw l lo=some (.int k1 y)) (qx:jw l hi=some (.int k2 z)) (hy:y=(p:Int)) (hz:z=(q:Int)) (h1:p <= q) (h2:q <= mm) (hS:iw.getD m false=true \/ S w) (h:WD n ops Q S m fuel (iw.setIfInBounds i true) ((d,.slice (some ⟨b,iN mm p off s,none⟩) (q - p) (mm - p)) :: l) w): WD n ops Q S m (fuel+1) iw l w :=
 WD.first i hi0 hs hd hn hQ (fun _ ha=>.inl ⟨m0 ha hw,fun _ _=>Zp ho ht (ha.eval hx) (ha.eval rM) (ha.eval qx) hy hz h1 h2⟩) hS h
theorem WD.abc {t e s off:Nat}{y:Int}(i p:Nat) (hi0:ops[i]? = some oi) (hs:uw ops iw i m=true) (hd:oi.dst=some d) (hn:Nat.blt d n.n=true) (hQ:Passes Q) (hw:wants ops l oi=some true) (ho:oi.op=.slice t x (some lo) none none) (ht:tyOf ty t=some (.arr mm e s)) (hx:jw l x=some (.pointer (some ⟨b,off,none⟩))) (rM:jw l lo=some (.int k1 y)) (hy:y=(p:Int)) (h1:p <= mm) (hS:iw.getD m false=true \/ S w) (h:WD n ops Q S m fuel (iw.setIfInBounds i true) ((d,.slice (some ⟨b,iN mm p off s,none⟩) (mm - p) (mm - p)) :: l) w): WD n ops Q S m (fuel+1) iw l w :=
 WD.first i hi0 hs hd hn hQ (fun _ ha=>.inl ⟨m0 ha hw,fun _ _=>X4 ho ht (ha.eval hx) (ha.eval rM) hy h1⟩) hS h
end
theorem ahQ: ∀(a p:List UInt8),(Op.bytesLess a p || a == p) = !Op.bytesLess p a:=fun a p=>by
 cases h:Op.bytesLess p a with
 | true=>
  have h2:Op.bytesLess a p=false:=by
   cases h3:Op.bytesLess a p with
   | false=>rfl
   | true=>have:=Tre.FR h h3;rw[Tre.H9] at this;cases this
  have h4:(a == p)=false:=by
   rw[beq_eq_false_iff_ne];intro e;subst e;rw[Tre.H9] at h;cases h
  rw[h2,h4];rfl
 | false=>
  cases h2:Op.bytesLess a p with
  | true=>rfl
  | false=>rw[Tre.NR h2 h];simp
theorem XM {P:Program}(ts:Array TypeId) (t:TypeId) (x y:ByteArray) (w:World): (Builtin.min_ ts t #[.string x,.string y]).run P w=.ok (.string (Tre.xm x y)) w:=by
 unfold Tre.xm Tre.kl;have e:=ahQ x.toList y.toList;cases h:Op.bytesLess y.toList x.toList with
 | true=>
  rw[h] at e;simp only[gQ,gB] at e;simp[Builtin.min_,Builtin.min2,Op.stringOp,asBool,e]
 | false=>
  rw[h] at e;simp only[Bool.not_false,ey] at e;rcases e with e|e<;>simp[Builtin.min_,Builtin.min2,Op.stringOp,asBool,e]
theorem WL.ao5 {ts:Array TypeId}{a b:ByteArray}(hg:o.guard=none) (hd:o.dst=some d) (hn:Nat.blt d n.n=true) (ho:o.op=.call { callee:=.builtin .min,args:=#[x,y],argTypes:=ts }) (hx:jw l x=some (.string a)) (hy:jw l y=some (.string b)) (h:WL n ops Q rest ((d,.string (Tre.xm a b)) :: l) w): WL n ops Q (o :: rest) l w :=
 WL.step hg hd hn (fun c hc=>by
  unfold execOp;simp only[ho,resolve,invoke,builtin,bA,eJ,bm,cn,aM,cT,hc.eval hx,hc.eval hy,XM]) h
theorem EC {P:Program}(op:BinOp) (t:TypeId) (x y:Operand) (p q:Option Addr) (w:World): (eqGuard op t x y (.pointer p) (.pointer q)).run P w=.ok () w:=by
 cases op<;>simp[eqGuard]
theorem WL.ank {t e:Nat}(hg:o.guard=none) (hd:o.dst=some d) (hn:Nat.blt d n.n=true) (ho:o.op=.binOp .eql t x (.const (.pointer none)) t2) (ht:tyOf ty t=some (.ptr e)) (hx:jw l x=some (.pointer p)) (_hgd:prog.eqGuardType prog.depth t=false) (h:WL n ops Q rest ((d,.bool p.isNone) :: l) w): WL n ops Q (o :: rest) l w :=
 WL.step hg hd hn (fun a ha=>by
  have hu:prog.underlying t=some (.pointer e):=m_.of mV ht;have he:prog.pointee t=e:=by simp[Program.pointee,hu]
  have hy:a.eval (.const (.pointer none))=.pointer none:=rfl;unfold execOp;rw[ho];simp[ha.eval hx,hy,EC _ _ _ _ _ _ _,run_eql_pointer_nil w t p (by rw[he];exact hu)]) h
theorem _root_.Go.Proofs.YtlenklobbngopaaGreat.jc {t e:Nat}(h:WL n ops Q rest ((d,.bool p.isNone) :: l) w) (hg:o.guard=none:=by exact rfl) (hd:o.dst=some d:=by exact rfl) (hn:Nat.blt d n.n=true:=by exact rfl) (ho:o.op=.binOp .eql t x (.const (.pointer none)) t2:=by exact rfl) (ht:tyOf ty t=some (.ptr e):=by exact rfl) (hx:jw l x=some (.pointer p):=by exact rfl) (_hgd:prog.eqGuardType prog.depth t=false:=by kernel_rfl): WL n ops Q (o :: rest) l w:=WL.ank hg hd hn ho ht hx _hgd h
theorem WL.qp {t e:Nat}(hg:o.guard=none) (hd:o.dst=some d) (hn:Nat.blt d n.n=true) (ho:o.op=.binOp .neq t x (.const (.pointer none)) t2) (ht:tyOf ty t=some (.ptr e)) (hx:jw l x=some (.pointer p)) (_hgd:prog.eqGuardType prog.depth t=false) (h:WL n ops Q rest ((d,.bool (!p.isNone)) :: l) w): WL n ops Q (o :: rest) l w :=
 WL.step hg hd hn (fun a ha=>by
  have hu:prog.underlying t=some (.pointer e):=m_.of mV ht;have he:prog.pointee t=e:=by simp[Program.pointee,hu]
  have hy:a.eval (.const (.pointer none))=.pointer none:=rfl;unfold execOp;rw[ho];simp[ha.eval hx,hy,EC _ _ _ _ _ _ _,run_neq_pointer_nil w t p (by rw[he];exact hu)]) h
end K
end Go.Proofs.YtlenklobbngopaaGreat
