/- Texts for IxB, part 10 of 11. -/
import Derived.Test.YtlenklobbngopaaGreatZIxB9
set_option maxHeartbeats 64000000
set_option maxRecDepth 100000
set_option linter.all false
namespace Go.Proofs.YtlenklobbngopaaGreat
open _root_.Go.Proofs.Tryz
open Go.RowKit Go.Maps
variable {a:Int × Int}{w:World}{vb f cp mr md mp mn N i fuel:Nat}{M D Oc E:Nat -> Prop}{F:Int × Int -> Option Value}{cs bc:List Value}{h:List Int}
namespace Vw
open K
def ab6 (w:World) (vb:Nat) (M D:Nat -> Prop) (f:Nat) (c:Int) (s':St) (N:Nat) (e:Ending) (w':World):Prop :=
 e=.returned (Iq c) /\ ib (fun b=>b<w.heap.size /\ ¬M b) w w' /\ (c=0 -> ∃M' D',pD w' vb M' D' f s' N /\ (∀b,M' b -> M b \/ w.heap.size <= b) /\ ∀b,D' b -> D b \/ w.heap.size <= b)
theorem yg: (3:Int)≠0:=by decide
theorem Bf {a b:Int}: kj [Value.int .i64 a,Iq b]:=acS
theorem JU (a b c g h i:Int) (d e:Bool) (v1 v2 v3:Int) (t:ByteArray) (sp sq:Option Addr) (n1 n2 c1 c2:Nat):
  prog.built te [(0,Iq a),(1,Iq b),(2,Iq c),(3,.agg #[Iq v1,Iq v2,Iq v3,.string t,.slice sp n1 c1,.slice sq n2 c2]),(4,.bool d),(5,.bool e),(6,Iq g),(7,Iq h),(8,Iq i)] =
   some [Value.int .i64 a,Iq b,Iq c,Iq v1,Iq v2,Iq v3,.string t,.slice sp n1 c1,.slice sq n2 c2,.bool d,.bool e,Iq g,Iq h,Iq i].toArray:=by kernel_rfl
theorem TW (L:List Rw) (r:Rw): uv (L++[r])=if r.iZ=0 then nH (uv L) r.lj (Iq ((iQ r.lj L:Int)+1)) else uv L:=by
 funext t
 by_cases h0:r.iZ=0
 ·rw[if_pos h0]
  unfold nH
  by_cases ht:t=r.lj
  ·subst ht
   rw[if_pos rfl];unfold uv;have e1:iQ r.lj (L++[r])=iQ r.lj L+1:=by rw[yw,if_pos ⟨rfl,h0⟩]
   rw[e1,if_neg gZ]
   rfl
  ·rw[if_neg ht]
   unfold uv;have e1:iQ t (L++[r])=iQ t L:=by rw[yw,if_neg (fun q=>ht q.1.symm),dX]
   rw[e1]
 ·rw[if_neg h0]
  unfold uv;have e1:iQ t (L++[r])=iQ t L:=by rw[yw,if_neg (fun q=>h0 q.2),dX]
  rw[e1]
theorem V7 (L:List Rw) (r:Rw) (uL:∀x∈L,x.lG≠r.lG): ql (L++[r])=if r.del=true then ql L else nH (ql L) r.lG (lR r.key):=by
 funext a
 unfold ql;rw[eS]
 by_cases ha:a=r.lG
 ·subst ha
  have hn:L.find? (fun x=>decide (x.lG=r.lG) && !x.del)=none:=by
   rw[cX];intro x hx;simp[uL x hx]
  rw[hn];cases hd:r.del with
  | true=>
   rw[if_pos rfl]
   show _=Option.map _ (L.find? (fun x=>decide (x.lG=r.lG) && !x.del))
   rw[hn];simp[hd]
  | false=>rw[if_neg j9];simp[hd,nH]
 ·have hr:[r].find? (fun x=>decide (x.lG=a) && !x.del)=none:=by
   rw[cX];intro x hx;rw[aZ.1 hx];simp[show ¬r.lG=a from fun q=>ha q.symm]
  rw[hr,Option.or_none];cases hd:r.del with
  | true=>rw[if_pos rfl]
  | false=>rw[if_neg j9];unfold nH;rw[if_neg ha]
theorem PG.W7 {n:Nat}{cat:List Cat.Tb}{A:Int × Int -> List Rw}{dF dF':Int -> Option Value}{pF nF:Int × Int -> Option Value}{k:Nat}(h:PG w vb M D f n cat A dF pF nF cp Oc mr md mp mn k F) (e:dF'=dF): PG w vb M D f n cat A dF' pF nF cp Oc mr md mp mn k F:=e ▸ h
theorem WB {g:Nat}{T m:Nat}(hf:h_ T w g cs) (h1:kj cs) (hc:cs.length=m): n_ w (fun b=>b=g) m (.slice (some ⟨g,0,none⟩) 1 1) 1 cs :=
 ⟨by rw[hc,Nat.one_mul],h1,_,1,rfl,af _,gZ,(fun h=>by cases h),fun _=>⟨g,0,rfl,hf.lt,rfl,CJ.Eo hf⟩⟩
theorem PY {s:St}(h0:pD w vb M D f s N) (hN:N+4 <= 1000000) (hI:Inv s) {b:Bk}(hb:m6 E f w b bc) (k:Nat) (m5:k <= 1000000) (hU:EU s b.index k) {e:En}{ec:List Value}(hEM:∀x, E x -> ¬M x) (u6:nN (jE E f w) e ec) (jM:jS e) (lX:Sm 3000 f e.data):
    Calls prog 54 #[iF vb, .agg ec.toArray, .agg bc.toArray, Iq k] w (ab6 w vb M D f (entR s e b.index k b.time).1 (entR s e b.index k b.time).2 (N+4)) := by
  obtain⟨cp, Oc, mr, md, mp, mn, kc, F, h⟩ := id h0; obtain⟨se, rfl, mH, mN, uK, Vi, XQ, -⟩ := hb; have hE := WI u6; obtain⟨dc, rfl, Au, j7, tO, tg, hhb, rT, El⟩ := u6; have kU:(iU e dc).length=46 := by simp[iU, j7, tg]
  have iS := h.lt; have kK := h.ok; have rk:jX (k:Int) := ⟨gZ, gZ⟩; refine iY (args := [iF vb, .agg (iU e dc).toArray, .agg (oH b se).toArray, Iq k]) func54 ntmps54 ?_; refine ku ?_; refine iC fun g5 w1 f1=>?_; refine iC fun g6 w2 f2=>?_; have E5:jT zr g5 w2 e dc := ⟨h_.below f1.blk f2.below f1.blk.lt, j7, tg⟩; have B6:lM wK g6 w2 b se := ⟨f2.blk, mN⟩; have b2 := f1.below.trans (f2.below.mono f1.below.size); have q5:w.heap.size <= g5 /\ w.heap.size <= g6 := ⟨by have := f1.eq; omega, by have := f2.eq; have := f1.below.size; omega⟩; clear f1 f2; have ci := B6.index; refine iu ?_; refine iE [Value.int .i64 b.index, Iq k] (Il _ _) ?_; refine ix (z := .agg [Value.int .i64 0, Iq 0].toArray) (fun _=>by kernel_rfl) fun g9 w3 f3=>?_; refine ir f3.blk Bf ?_; obtain⟨v9, b3, e9, -⟩ := mh [Value.int .i64 b.index, Iq k] (Below.refl w2.heap.size w2) f3; have q9:w.heap.size <= g9 := by have := f3.eq; have := b2.size; omega
  generalize w3.setRow g9 _=w4 at v9 b3 ⊢; clear f3 e9 ci; have l5 := h_.lt E5.blk; have l6 := h_.lt B6.blk; replace E5 := E5.ij (ib.ic b3) l5; replace B6:lM wK g6 w4 b se := ⟨h_.below B6.blk b3 l6, mN⟩; replace b2 := b2.iR b3; clear l5 l6 b3 w3 w2 w1; have ct := E5.table; have cd := E5.doc; refine iu ?_; refine iE [Value.int .i64 e.table, Iq e.doc] (Ek _ _) ?_; refine ix (z := .agg [Value.int .i64 0, Iq 0].toArray) (fun _=>by kernel_rfl) fun AU w5 f5=>?_; refine ir f5.blk Bf ?_; obtain⟨v10, b3, e9, -⟩ := mh [Value.int .i64 e.table, Iq e.doc] (Below.refl w4.heap.size w4) f5; have q10:w.heap.size <= AU := by have := f5.eq; have := b2.size; omega
  generalize w5.setRow AU _=w1 at v10 b3 ⊢; clear f5 e9 ct cd; have l5 := h_.lt E5.blk; have l6 := h_.lt B6.blk; have l9 := h_.lt v9; replace E5 := E5.ij (ib.ic b3) l5; replace B6:lM wK g6 w1 b se := ⟨h_.below B6.blk b3 l6, mN⟩; replace v9 := h_.below v9 b3 l9; have b1 := b2.iR b3; clear l5 l6 l9 b3 b2 w5 w4; have l5 := h_.lt E5.blk; have l6 := h_.lt B6.blk; have l9 := h_.lt v9; have FC := h_.lt v10; have h1 := h.below b1; have z1 := b1.size; have Gt := Au.ij (O' := E) (ib.ic b1) (fun x _ h=>h) (fun x h=>h); have c0 := h1.pM.cell 0 iz; have c1 := h1.pM.cell 1 iz; have c2 := h1.pM.cell 2 iz; have c3 := h1.pM.cell 3 iz; have c4 := h1.pM.cell 4 iz; simp only[ax, al] at c0 c1 c2 c3 c4; have tZ := h1.lt vb (.inl h1.tG); have ck := E5.kind; have bad:∀ {c:Int}{s':St}{wx:World}, c≠0 -> ib (fun x=>x<w.heap.size /\ ¬M x) w wx -> ab6 w vb M D f c s' (N+4) (.returned (Iq c)) wx := fun hc hk=>⟨rfl, hk, fun q=>absurd q hc⟩; have kb:∀ {wx:World}, iB w1 wx -> ib (fun x=>x<w.heap.size /\ ¬M x) w wx := fun hx=>(ib.ic (b1.trans (hx.mono z1))).mono fun x hx=>hx.1; refine iu ?_
  by_cases Fp:e.kind=2 \/ e.kind=3
  case pos=>
    obtain⟨Gs, av3, NO, h3v⟩ := FB jM Fp; have rt:jX e.table := ⟨gZ, gZ⟩; have rd:jX e.doc := ⟨gZ, gZ⟩; obtain⟨ha0, -⟩ := BV (L := s.cat) (kind := e.kind) (txt := e.text) (tbl := e.table) gZ gZ gZ; have hR:entR s e b.index k b.time=if(Cat.ju s.cat e.table).2.2≠0 \/ (Cat.ju s.cat e.table).2.1.dropped=true \/ fits s e=false then(3, s) else(0, { s with rows := s.rows++[rowOf e b.index k b.time]}) := by
      unfold entR; rw[if_neg (by simpa using ha0), if_pos Fp]
    rw[hR, hI.fit jM Fp]; refine WC.sa (fun _:Unit=>[(0, iF vb), (3, Iq k), (5, iF g5), (6, iF g6), (9, iF g9), (10, iF AU), (37, .bool true)]) (fun _ w'=>w'=w1) rfl ?_ ?_
    · rcases Fp with e2|e3
      · refine WC.qg rfl e2 ?_
        refine gY ?_; exact WQ.meet () ⟨rfl, rfl, rfl, rfl, rfl, rfl, congrArg (fun z=>some (Value.bool z)) (decide_eq_true e2), trivial⟩ rfl
      · refine WC.pE rfl gZ ?_
        refine gY ?_; exact WQ.meet () iW rfl
    rintro⟨⟩ w1 rfl; refine gY ?_; refine WC.sa (fun g:Nat=>[(0, iF vb), (3, Iq k), (5, iF g5), (6, iF g6), (9, iF g9), (10, iF AU), (11, iF g), (12, Iq (Cat.ju s.cat e.table).2.2)])
      (fun g w'=>iB w1 w' /\ g<w'.heap.size /\ w'.cell? ⟨g, 2, none⟩=some (.bool (Cat.ju s.cat e.table).2.1.dropped)) rfl ?_ ?_
    · refine WC.drawn 6 (iB w1) fun wa jh=>?_
      have hS:iB w1 wa := jh.below _; refine iq [0, 1, 2, 4] hS ?_; refine ik 3 [6, 7, 8, 9, 11, 12] (jZ tZ c0) hS ?_; refine ik 5 [6, 7, 8, 9, 11, 12] (fun wx hx=>(hx.cell (p := ⟨g5, 2, none⟩) l5).trans E5.table) hS ?_; refine WD.two 6 10 (by kernel_rfl) rfl rfl ?_ ?_
      · skip
        refine il func82 (Cat.vN (h1.below hS).cat e.table) ?_; rintro _ wb ⟨sp, c, rfl, ho, oR⟩; refine⟨_, rfl, ?_⟩; refine iO ?_
        (refine js 7 rfl (q := ?_); refine js 8 rfl (q := ?_); refine js 9 rfl (q := ?_))
        refine iI 10 ?_; refine ix (z := .agg Cr.qP.toArray) EK fun gt wc f9=>?_; refine iO ?_; refine iI 11 ?_; refine ir f9.blk (Cr.pw rfl) ?_; obtain⟨vf, bf, -, -⟩ := mh [Value.int .i64 (Cat.ju s.cat e.table).1, .string (Cat.ju s.cat e.table).2.1.name, .bool (Cat.ju s.cat e.table).2.1.dropped, .slice sp (Cat.ju s.cat e.table).2.1.fs.length c] oR f9; replace bf := hS.iR bf; refine iO ?_
        (refine js 12 rfl (q := ?_))
        refine im ?_; refine gY ?_; exact WQ.meet gt iW ⟨bf, vf.lt, vf.cell 2 iz⟩
      · skip
        refine ix (z := .agg Cr.qP.toArray) EK fun gt wc f9=>?_; have uJ := hS.iR f9.below; refine km uJ ?_; refine iI 6 ?_; refine il func82 (Cat.vN (h1.below uJ).cat e.table) ?_; rintro _ wb ⟨sp, c, rfl, ho, oR⟩; refine⟨_, rfl, ?_⟩; refine iO ?_
        (refine js 7 rfl (q := ?_); refine js 8 rfl (q := ?_); refine js 9 rfl (q := ?_))
        refine iI 11 ?_; have vt9 := h_.below f9.blk oR f9.blk.lt; refine ir vt9 (Cr.pw rfl) ?_; have vf := vt9.setRow [Value.int .i64 (Cat.ju s.cat e.table).1, .string (Cat.ju s.cat e.table).2.1.name, .bool (Cat.ju s.cat e.table).2.1.dropped, .slice sp (Cat.ju s.cat e.table).2.1.fs.length c]; have Zm := f9.eq; have hgz := hS.size; have bf := (Cr.kC (K := fun x=>x<w1.heap.size) (g := gt) (ib.ic (uJ.iR oR)) (fun hh=>by omega) [Value.int .i64 (Cat.ju s.cat e.table).1, .string (Cat.ju s.cat e.table).2.1.name, .bool (Cat.ju s.cat e.table).2.1.dropped, .slice sp (Cat.ju s.cat e.table).2.1.fs.length c].toArray).below; refine iO ?_
        (refine js 12 rfl (q := ?_))
        refine im ?_; refine gY ?_; exact WQ.meet gt iW ⟨bf, vf.lt, vf.cell 2 iz⟩
    rintro Qd w3 ⟨b3, aqe, cdr⟩; have h3 := h1.below b3; replace E5 := E5.ij (ib.ic b3) l5; replace B6:lM wK g6 w3 b se := ⟨h_.below B6.blk b3 l6, mN⟩; replace v9 := h_.below v9 b3 l9; replace v10 := h_.below v10 b3 FC; replace Gt := Gt.ij (O' := E) (ib.ic b3) (fun x _ h=>h) (fun x h=>h); replace c1 := (b3.cell (p := ⟨vb, 1, none⟩) tZ).trans c1; replace c2 := (b3.cell (p := ⟨vb, 2, none⟩) tZ).trans c2; replace c3 := (b3.cell (p := ⟨vb, 3, none⟩) tZ).trans c3; have z3 := b3.size; replace kb:∀ {wx:World}, iB w3 wx -> ib (fun x=>x<w.heap.size /\ ¬M x) w wx := fun hx=>kb (b3.trans (hx.mono z3)); have bw3 := b1.trans (b3.mono z1); replace l5 := h_.lt E5.blk; replace l6 := h_.lt B6.blk; replace l9 := h_.lt v9; replace FC := h_.lt v10; replace tZ := h3.lt vb (.inl h3.tG); have awi:w.heap.size <= w3.heap.size := gZ; clear h1 b1 b3 z1 z3 c0 c4 ck hR; have atx:∀q, q=(Cat.ju s.cat e.table).2.2 -> q=0 -> (Cat.ju s.cat e.table).2.2=0 := fun q h1 h2=>h1.symm.trans h2; generalize DI:(Cat.ju s.cat e.table).2.2=code; generalize (Cat.ju s.cat e.table).2.1.dropped=dr at cdr ⊢
    by_cases c9:code=0
    case neg=>
      rw[if_pos (.inl c9)]; refine gY ?_; exact g_ (bad yg (kb (Below.refl _ _)))
    case pos=>
    cases dr with
    | true=>
      rw[if_pos (.inr (.inl rfl))]; refine iu ?_; exact g_ (bad yg (kb (Below.refl _ _)))
    | false=>
    have u7:∀ {wx:World}, iB w3 wx -> (Instr.lookup 127 (.map (some mr)) (lR (e.table, e.doc)) false).run prog wx=.ok ((F (e.table, e.doc)).getD (.slice none 0 0)) wx := fun hx=>(h3.below hx).T8 rt rd; have Xz := h3.jt (e.table, e.doc); have EA := N7 s.rows (e.table, e.doc); generalize hFe:(F (e.table, e.doc)).getD (.slice none 0 0)=sv at u7 Xz; have hfit:IX s e=if e.kind=2 /\ e.iZ=0 then decide (e.doc=next s e.table) else match(Vw.of s.rows (e.table, e.doc)).getLast? with|some r=>!r.del && decide (e.iZ=(Vw.of s.rows (e.table, e.doc)).length)|none=>false := rfl
    generalize hLe:Vw.of s.rows (e.table, e.doc)=L at Xz EA hfit; obtain⟨sp, cap, rfl, aaG, ao0, av1, -⟩ := id Xz; refine iu ?_; refine WC.drawn 6 (iB w3) fun wa jh=>?_; have hS:iB w3 wa := jh.below _; clear jh; refine iq [0, 1, 2] hS ?_; refine ik 3 [5, 6] (jZ tZ c1) hS ?_; refine jG 4 [5, 6] (fun wx hx=>h_.rangeAt (h_.below v10 hx FC)) hS ?_; refine WD.look 5 [6] rfl (by kernel_rfl) rfl rfl (fun _ _ _ _ _ h=>h) rfl rfl rfl rfl (fun wx hx=>u7 hx) hS ?_; refine iI 6 ?_; refine iA ?_; refine iO ?_; refine im ?_
    repeat (first|refine WC.seq ?_|refine WQ.then rfl ?_)
    have hSz := hS.size; refine WC.sa (fun _:Unit=>[(0, iF vb), (3, Iq k), (5, iF g5), (6, iF g6), (9, iF g9), (10, iF AU), (13, .slice sp L.length cap), (14, .bool (decide (e.kind=2 /\ e.iZ=0)))]) (fun _ w'=>w'=wa) rfl ?_ ?_
    · have ck := (hS.cell (p := ⟨g5, 0, none⟩) l5).trans E5.kind
      have cv := (hS.cell (p := ⟨g5, 4, none⟩) l5).trans E5.iZ
      by_cases k2:e.kind=2
      · refine iu ?_
        exact WQ.meet () ⟨rfl, rfl, rfl, rfl, rfl, rfl, rfl, congrArg (fun z=>some (Value.bool z)) (cq.2 ⟨fun q=>⟨k2, q⟩, fun q=>q.2⟩), trivial⟩ rfl
      · refine iu ?_
        exact WQ.meet () ⟨rfl, rfl, rfl, rfl, rfl, rfl, rfl, congrArg (fun z=>some (Value.bool z)) (decide_eq_false fun q=>k2 q.1).symm, trivial⟩ rfl
    rintro⟨⟩ wa rfl; refine gY ?_; refine WC.sa (fun _:Unit=>[(0, iF vb), (3, Iq k), (5, iF g5), (6, iF g6), (9, iF g9), (10, iF AU), (13, .slice sp L.length cap), (14, .bool (decide (e.kind=2 /\ e.iZ=0))), (104, .bool (!IX s e))]) (fun _ w'=>iB w3 w') rfl ?_ ?_
    · by_cases zP:e.kind=2 /\ e.iZ=0
      case pos=>
        rw[if_pos zP] at hfit; have hfd := decide_eq_true zP; rw[hfd]
        by_cases NA:e.doc=next s e.table
        · refine WC.drawn 34 (iB w3) fun wb AZ=>?_
          have rP := hS.trans (AZ.below _); clear hS; have hS := rP; refine iq [0, 1, 2] hS ?_; refine ik 3 [8, 9, 10, 11, 12, 13, 14, 15, 16, 17, 18, 19, 20, 21, 22, 23, 24, 25, 26, 27, 28, 29, 30, 31, 32, 33, 34] (fun wx hx=>(hx.cell (p := ⟨g5, 3, none⟩) l5).trans E5.doc) hS ?_; refine iq [4, 5] hS ?_; refine ik 6 [7, 8, 9, 10, 11, 12, 13, 14, 15, 16, 17, 18, 19, 20, 21, 22, 23, 24, 25, 26, 27, 28, 29, 30, 31, 32, 33, 34] (fun wx hx=>(hx.cell (p := ⟨g5, 2, none⟩) l5).trans E5.table) hS ?_; refine iI 7 ?_; refine WL.on rfl rfl ?_; refine i_ func83 (Kd (pD.below ⟨_, _, _, _, _, _, _, _, h3⟩ hS) rt) ?_; rintro wc bc
          replace hS := hS.iR bc; refine km hS ?_; refine iq [8, 9, 10, 11, 12, 13, 14, 15, 16, 17, 18, 19, 20, 21] hS ?_; refine iq [22] hS ?_; refine iq [23] hS ?_; refine iq [24] hS ?_; refine iq [25, 26, 27] hS ?_; refine iq [28] hS ?_; refine iq [29, 30, 31, 32, 33] hS ?_; refine iI 34 ?_; refine iA ?_; refine iO ?_; refine im ?_; refine gY ?_; exact WQ.meet () ⟨rfl, rfl, rfl, rfl, rfl, rfl, rfl, rfl, congrArg (fun z=>some (Value.bool z)) (by rw[hfit, decide_eq_true NA]; rfl), trivial⟩ hS
        · refine WC.drawn 34 (iB w3) fun wb AZ=>?_
          have rP := hS.trans (AZ.below _); clear hS; have hS := rP; refine iq [0, 1, 2] hS ?_; refine ik 3 [8, 9, 10, 11, 12, 13, 14, 15, 16, 17, 18, 19, 20, 21, 22, 23, 24, 25, 26, 27, 28, 29, 30, 31, 32, 33, 34] (fun wx hx=>(hx.cell (p := ⟨g5, 3, none⟩) l5).trans E5.doc) hS ?_; refine iq [4, 5] hS ?_; refine ik 6 [7, 8, 9, 10, 11, 12, 13, 14, 15, 16, 17, 18, 19, 20, 21, 22, 23, 24, 25, 26, 27, 28, 29, 30, 31, 32, 33, 34] (fun wx hx=>(hx.cell (p := ⟨g5, 2, none⟩) l5).trans E5.table) hS ?_; refine iI 7 ?_; refine WL.on rfl rfl ?_; refine i_ func83 (Kd (pD.below ⟨_, _, _, _, _, _, _, _, h3⟩ hS) rt) ?_; rintro wc bc
          replace hS := hS.iR bc; refine km hS ?_; refine iq [8, 9, 10, 11, 12, 13, 14, 15, 16, 17, 18, 19, 20, 21] hS ?_; refine iq [22] hS ?_; refine iq [23] hS ?_; refine iq [24] hS ?_; refine iq [25, 26, 27] hS ?_; refine iq [28] hS ?_; refine iq [29, 30, 31, 32, 33] hS ?_; refine iI 34 ?_; refine iA ?_; refine iO ?_; refine im ?_; refine gY ?_; exact WQ.meet () ⟨rfl, rfl, rfl, rfl, rfl, rfl, rfl, rfl, congrArg (fun z=>some (Value.bool z)) (by rw[hfit, decide_eq_false NA]; rfl), trivial⟩ hS
      case neg=>
        rw[if_neg zP] at hfit; have hfd := decide_eq_false zP; rw[hfd]
        by_cases HP:L.length=0
        case pos=>
          obtain rfl:L=[] := bj HP; refine WC.drawn 34 (iB w3) fun wb AZ=>?_; have rP := hS.trans (AZ.below _); clear hS; have hS := rP; refine iq [0, 1, 2] hS ?_; refine iq [3] hS ?_; refine iq [4, 5] hS ?_; refine iq [6] hS ?_; refine iq [7] hS ?_; refine iq [8, 9, 10, 11, 12, 13, 14, 15, 16, 17, 18, 19, 20, 21] hS ?_; refine iq [22] hS ?_; refine iq [23] hS ?_; refine iq [24] hS ?_; refine iq [25, 26, 27] hS ?_; refine iq [28] hS ?_; refine iq [29, 30, 31, 32, 33] hS ?_; refine iI 34 ?_; refine iA ?_; refine iO ?_; refine im ?_; refine gY ?_; exact WQ.meet () ⟨rfl, rfl, rfl, rfl, rfl, rfl, rfl, rfl, congrArg (fun z=>some (Value.bool z)) (by rw[hfit]; rfl), trivial⟩ hS
        case neg=>
        have hi:L.length - 1<L.length := gZ; have qW:L.getLast? = some (L.getD (L.length - 1) jf) := by rw[fJ, ag, ah hi]; rfl
        rw[qW] at hfit; obtain⟨b9, o9, pr, CZ, es, qU, -, R9, -, -, -⟩ := mw Xz hi; obtain⟨rfl, rfl⟩:sp=some ⟨b9, o9, none⟩ /\ cap=pr := by simpa using es
        clear es; have AV := R9.del; have eNi:((L.length:Int) - 1)=((L.length - 1:Nat):Int) := gZ; cases Ae:(L.getD (L.length - 1) jf).del with
        | true=>
          rw[Ae] at AV; have NX:IX s e=false := by rw[hfit]; simp only; rw[Ae]; rfl
          rw[NX]; refine WC.drawn 34 (iB w3) fun wb AZ=>?_; have rP := hS.trans (AZ.below _); clear hS; have hS := rP; refine iq [0, 1, 2] hS ?_; refine iq [3] hS ?_; refine iq [4, 5] hS ?_; refine iq [6] hS ?_; refine iq [7] hS ?_; refine iq [8, 9, 10, 11, 12, 13, 14, 15, 16, 17, 18, 19, 20, 21] hS ?_; refine jV (hz := gZ) 22 (L.length - 1) (o9+(L.length - 1)*14) hi (.inr hS) ?_; refine iq [23] hS ?_; refine ik 24 [25, 26, 27, 28, 29, 30, 31, 32, 33, 34] (jZ qU AV) hS ?_; refine iq [25, 26, 27] hS ?_; refine iq [28] hS ?_; refine iq [29, 30, 31, 32, 33] hS ?_; refine iI 34 ?_; refine iA ?_; refine iO ?_; refine im ?_; refine gY ?_; exact WQ.meet () iW hS
        | false=>
          rw[Ae] at AV; have NX:IX s e=decide (e.iZ=L.length) := by rw[hfit]; simp only; rw[Ae]; rfl
          rw[NX]
          by_cases hvl:e.iZ=L.length
          · rw[decide_eq_true hvl]
            refine WC.drawn 34 (iB w3) fun wb AZ=>?_; have rP := hS.trans (AZ.below _); clear hS; have hS := rP; refine iq [0, 1, 2] hS ?_; refine iq [3] hS ?_; refine iq [4, 5] hS ?_; refine iq [6] hS ?_; refine iq [7] hS ?_; refine iq [8, 9, 10, 11, 12, 13, 14, 15, 16, 17, 18, 19, 20, 21] hS ?_; refine jV (hz := gZ) 22 (L.length - 1) (o9+(L.length - 1)*14) hi (.inr hS) ?_; refine iq [23] hS ?_; refine ik 24 [25, 26, 27, 28, 29, 30, 31, 32, 33, 34] (jZ qU AV) hS ?_; refine iq [25, 26, 27] hS ?_; refine ik 28 [31, 32, 33, 34] (fun wx hx=>(hx.cell (p := ⟨g5, 4, none⟩) l5).trans E5.iZ) hS ?_; refine iq [29, 30, 31, 32, 33] hS ?_; refine iI 34 ?_; refine iA ?_; refine iO ?_; refine im ?_; refine gY ?_; exact WQ.meet () iW hS
          · rw[decide_eq_false hvl]
            refine WC.drawn 34 (iB w3) fun wb AZ=>?_; have rP := hS.trans (AZ.below _); clear hS; have hS := rP; refine iq [0, 1, 2] hS ?_; refine iq [3] hS ?_; refine iq [4, 5] hS ?_; refine iq [6] hS ?_; refine iq [7] hS ?_; refine iq [8, 9, 10, 11, 12, 13, 14, 15, 16, 17, 18, 19, 20, 21] hS ?_; refine jV (hz := gZ) 22 (L.length - 1) (o9+(L.length - 1)*14) hi (.inr hS) ?_; refine iq [23] hS ?_; refine ik 24 [25, 26, 27, 28, 29, 30, 31, 32, 33, 34] (jZ qU AV) hS ?_; refine iq [25, 26, 27] hS ?_; refine ik 28 [31, 32, 33, 34] (fun wx hx=>(hx.cell (p := ⟨g5, 4, none⟩) l5).trans E5.iZ) hS ?_; refine iq [29, 30, 31, 32, 33] hS ?_; refine iI 34 ?_; refine iA ?_; refine iO ?_; refine im ?_; refine gY ?_; exact WQ.meet () iW hS
    rintro⟨⟩ w4 b4; cases sF:IX s e with
    | false=>
      rw[if_pos (.inr (.inr rfl))]; refine gY ?_; exact g_ (bad yg (kb b4))
    | true=>
    rw[if_neg (fun q=>by rcases q with q|q|q <;> (first|exact q c9|cases q))]
    have HD:e.iZ=0 -> e.kind=2 := fun q=>Fp.elim id fun x=>by have := h3v x; omega
    have uL:∀x∈s.rows, x.lG≠(b.index, (k:Int)) := fun x hx q=>by
      have q1:x.blk=b.index := congrArg Prod.fst q; have q2:x.ni=(k:Int) := congrArg Prod.snd q; have := hU x hx; omega
    have KU := TW s.rows (rowOf e b.index k b.time); have WE := V7 s.rows (rowOf e b.index k b.time) uL; have h4 := h3.below b4; have z4 := b4.size; replace E5 := E5.ij (ib.ic b4) l5; replace B6:lM wK g6 w4 b se := ⟨h_.below B6.blk b4 l6, mN⟩; replace v9 := h_.below v9 b4 l9; replace v10 := h_.below v10 b4 FC; replace Gt := Gt.ij (O' := E) (ib.ic b4) (fun x _ h=>h) (fun x h=>h); replace c1 := (b4.cell (p := ⟨vb, 1, none⟩) tZ).trans c1; replace c2 := (b4.cell (p := ⟨vb, 2, none⟩) tZ).trans c2; replace c3 := (b4.cell (p := ⟨vb, 3, none⟩) tZ).trans c3; replace l5 := h_.lt E5.blk; replace l6 := h_.lt B6.blk; replace l9 := h_.lt v9; replace FC := h_.lt v10; have k4 := kb b4; have lmd := iS md (.inl h.yy); have lmr := iS mr (.inl h.xK); have lmp := iS mp (.inl h.yJ); have api := iS vb (.inl h.tG); have zz4:w.heap.size <= w4.heap.size := gZ; have hlD := h4.KH (t := e.table) rt; have P9 := h4.pg.sU; have Ot := h4.pg; have Ww := h4.ok; have air:∀ {wx:World}, iB w4 wx -> (Instr.lookup 128 (.map (some md)) (Iq e.table) false).run prog wx=.ok (Iq (iQ e.table s.rows:Nat)) wx := fun hx=>(h4.below hx).KH rt; have mg := tX e.table s.rows; clear h3 b4 kb u7 cdr hlD bw3 aqe h4 hS hSz z4; refine gY ?_; refine WC.sa (fun _:Unit=>[(0, iF vb), (3, Iq k), (5, iF g5), (6, iF g6), (9, iF g9), (10, iF AU), (13, .slice sp L.length cap)]) (fun _ w'=>ib (fun x=>x<w4.heap.size /\ x≠md) w4 w' /\ PG w' vb M D f s.n s.cat (Vw.of s.rows) (uv (s.rows++[rowOf e b.index k b.time])) (ql s.rows) (As s.red) cp Oc mr md mp mn (kc+1) F) rfl ?_ ?_
    · by_cases zP:e.kind=2 /\ e.iZ=0
      · refine WC.qg rfl zP ?_
        rw[if_pos (show(rowOf e b.index k b.time).iZ=0 from zP.2)] at KU; refine ku ?_; refine WC.drawn 8 (iB w4) fun wb jh=>?_; have hS:iB w4 wb := jh.below _; clear jh; refine iq [0, 1, 2] hS ?_; refine ik 3 [6, 7, 8] (fun wx hx=>(hx.cell (p := ⟨vb, 2, none⟩) (show vb<w4.heap.size by omega)).trans c2) hS ?_; refine iq [4] hS ?_; refine ik 5 [6, 7, 8] (fun wx hx=>(hx.cell (p := ⟨g5, 2, none⟩) l5).trans E5.table) hS ?_; refine WD.look 6 [7, 8] rfl (by kernel_rfl) rfl rfl (fun _ _ _ _ _ h=>h) rfl rfl rfl rfl (fun wx hx=>air hx) hS ?_; refine iq [7] hS ?_; refine iI 8 ?_; obtain⟨w', Uz, AK, U2⟩ := (Ot.below hS).aoZ gZ rt (Iq ((iQ e.table s.rows:Int)+1)); refine WL.kv rfl rfl rfl rfl rfl rfl Uz ?_; refine iO ?_; refine im ?_; refine gY ?_; exact WQ.meet () iW ⟨((ib.ic hS).mono fun x hx=>hx.1).trans (AK.mono fun x hx=>hx.2), U2.W7 KU⟩
      · refine WC.pE rfl zP ?_
        rw[if_neg (show ¬(rowOf e b.index k b.time).iZ=0 from fun q=>zP ⟨HD q, q⟩)] at KU; refine gY ?_; exact WQ.meet () iW ⟨ib.refl _ _, (Ot.abT (bJ kc)).W7 KU⟩
    rintro⟨⟩ w5 ⟨k5, hG5⟩; clear KU air Ot; have z5 := k5.size; replace E5 := E5.ij k5 ⟨l5, gZ⟩; replace B6:lM wK g6 w5 b se := ⟨B6.blk.ij k5 ⟨l6, gZ⟩, mN⟩; replace v9 := v9.ij k5 ⟨l9, gZ⟩; replace v10 := v10.ij k5 ⟨FC, gZ⟩; replace Gt := Gt.ij (O' := E) k5 (fun x hx hl=>⟨hl, fun q=>hEM x hx (q ▸ h.yy)⟩) (fun x h=>h); replace c1 := (k5.cell (p := ⟨vb, 1, none⟩) ⟨by show vb<w4.heap.size; omega, P9.2.1.symm⟩).trans c1; replace c3 := (k5.cell (p := ⟨vb, 3, none⟩) ⟨by show vb<w4.heap.size; omega, P9.2.1.symm⟩).trans c3; replace l5 := h_.lt E5.blk; replace l6 := h_.lt B6.blk; replace l9 := h_.lt v9; replace FC := h_.lt v10; replace k4 := k4.trans (k5.mono fun x hx=>⟨gZ, fun q=>hx.2 (q ▸ h.yy)⟩); clear k5 c2; have apQ:∀ {wx:World}{yo:List Value}{P:Nat -> Prop}, jE P f wx e.data yo -> lC P f wx (rowOf e b.index k b.time) (jQ (rowOf e b.index k b.time) yo) := fun zq=>⟨_, rfl, zq, ⟨El.2.1, El.2.2.1, El.2.2.2.1, Vi, rk, XQ⟩, lX⟩; refine gY ?_; refine WC.sa (fun x:Nat × List Value=>[(0, iF vb), (3, Iq k), (5, iF g5), (6, iF g6), (9, iF g9), (10, iF AU), (13, .slice sp L.length cap), (15, .pointer (some ⟨x.1, 0, none⟩))])
      (fun x w'=>iB w5 w' /\ h_ te w' x.1 (jQ (rowOf e b.index k b.time) x.2) /\ jE (fun y=>w5.heap.size <= y /\ y<w'.heap.size) f w' e.data x.2) rfl ?_ ?_
    · refine WC.drawn 21 (iB w5) fun wa2 jh=>?_
      have hS:iB w5 wa2 := jh.below _; clear jh; refine iq [0] hS ?_; refine ik 1 [19, 21] (fun wx hx=>(hx.cell (p := ⟨g5, 2, none⟩) l5).trans E5.table) hS ?_; refine iq [2] hS ?_; refine ik 3 [19, 21] (fun wx hx=>(hx.cell (p := ⟨g5, 3, none⟩) l5).trans E5.doc) hS ?_; refine iq [4] hS ?_; refine ik 5 [19, 21] (fun wx hx=>(hx.cell (p := ⟨g5, 4, none⟩) l5).trans E5.iZ) hS ?_; refine iq [6] hS ?_; refine jG (hm := j7) 7 [8, 19, 21] (fun wx hx=>(E5.ij (ib.ic hx) l5).data) hS ?_; refine iq [9] hS ?_; refine ik 10 [19, 21] (fun wx hx=>(hx.cell (p := ⟨g5, 43, none⟩) l5).trans E5.gone) hS ?_; refine iq [11] hS ?_; refine ik 12 [13, 19, 21] (fun wx hx=>(hx.cell (p := ⟨g5, 0, none⟩) l5).trans E5.kind) hS ?_; refine iq [13, 14] hS ?_; refine ik 15 [19, 21] (fun wx hx=>(hx.cell (p := ⟨g6, 0, none⟩) l6).trans B6.index) hS ?_; refine iq [16, 17] hS ?_; refine ik 18 [19, 21] (fun wx hx=>(hx.cell (p := ⟨g6, 1, none⟩) l6).trans B6.time) hS ?_; have zS := hS.size; refine WD.two 8 20 (by kernel_rfl) rfl rfl ?_ ?_
      · skip
        refine il func84 (BD (B := 3000) gZ f (Gt.ij (O' := E) (ib.ic hS) (fun x _ h=>h) (fun x h=>h)).td lX) ?_; rintro _ wb ⟨oR, yo, rfl, zq⟩; refine⟨_, rfl, ?_⟩; obtain⟨sL, yL, xP, xD, qe, py, rfl⟩ := yQ zq; have zb := oR.size; have rP := hS; replace hS := hS.trans (oR.mono zS); refine km hS ?_; refine Cr.uh (jQ (rowOf e b.index k b.time) [Iq e.data.k, Iq e.data.n, Iq e.data.s, .string e.data.t, .slice sL xP qe, .slice yL xD py]) 19 rfl (by kernel_rfl) rfl rfl (fun _ _ _ _ _ h=>h) rfl rfl rfl (JU _ _ _ _ _ _ _ _ _ _ _ _ _ _ _ _ _ _) (.inr hS) ?_; refine iI 20 ?_; refine ix (z := .agg (jQ jf iy).toArray) (fun _=>by kernel_rfl) fun Km wc f9=>?_; have bc := f9.below; have eg := f9.eq; have ph := hS.iR bc; refine km ph ?_; refine iI 21 ?_; refine ir f9.blk (lF zq.one) ?_; have Ef := h_.setRow f9.blk (jQ (rowOf e b.index k b.time) [Iq e.data.k, Iq e.data.n, Iq e.data.s, .string e.data.t, .slice sL xP qe, .slice yL xD py]); have Ub:ib (fun x=>x<wb.heap.size) wb (wc.setRow Km (jQ (rowOf e b.index k b.time) [Iq e.data.k, Iq e.data.n, Iq e.data.s, .string e.data.t, .slice sL xP qe, .slice yL xD py]).toArray) := Cr.kC (ib.ic bc) (fun hh=>by omega) _; have zz := Ub.size; have aeg := zq.there.ij (O' := fun y=>w5.heap.size <= y /\ y<(wc.setRow Km (jQ (rowOf e b.index k b.time) [Iq e.data.k, Iq e.data.n, Iq e.data.s, .string e.data.t, .slice sL xP qe, .slice yL xD py]).toArray).heap.size) Ub (fun x hx _=>hx.2) (fun x hx=>⟨gZ, gZ⟩); refine iO ?_; refine im ?_; refine gY ?_; exact WQ.meet (Km, _) iW ⟨hS.trans ((Ub.below).mono hS.size), Ef, aeg⟩
      · skip
        refine ix (z := .agg (jQ jf iy).toArray) (fun _=>by kernel_rfl) fun Km wc f9=>?_; have bc := f9.below; have eg := f9.eq; have ph := hS.trans (bc.mono zS); have zc := bc.size; have sc := f9.size; refine km ph ?_; refine iI 8 ?_; refine il func84 (BD (B := 3000) gZ f (Gt.ij (O' := E) (ib.ic ph) (fun x _ h=>h) (fun x h=>h)).td lX) ?_; rintro _ wb ⟨oR, yo, rfl, zq⟩; refine⟨_, rfl, ?_⟩; obtain⟨sL, yL, xP, xD, qe, py, rfl⟩ := yQ zq; have zb := oR.size; have rP := hS; replace hS := ph.iR oR; refine km hS ?_; refine Cr.uh (jQ (rowOf e b.index k b.time) [Iq e.data.k, Iq e.data.n, Iq e.data.s, .string e.data.t, .slice sL xP qe, .slice yL xD py]) 19 rfl (by kernel_rfl) rfl rfl (fun _ _ _ _ _ h=>h) rfl rfl rfl (JU _ _ _ _ _ _ _ _ _ _ _ _ _ _ _ _ _ _) (.inr hS) ?_; refine iI 21 ?_; have Ef := h_.below f9.blk oR f9.blk.lt; refine ir Ef (lF zq.one) ?_; replace Ef := h_.setRow Ef (jQ (rowOf e b.index k b.time) [Iq e.data.k, Iq e.data.n, Iq e.data.s, .string e.data.t, .slice sL xP qe, .slice yL xD py]); have Ub:ib (fun x=>x≠Km) wb (wb.setRow Km (jQ (rowOf e b.index k b.time) [Iq e.data.k, Iq e.data.n, Iq e.data.s, .string e.data.t, .slice sL xP qe, .slice yL xD py]).toArray) := Cr.kC (ib.refl _ _) iz _; have zz := Ub.size; have aeg := zq.there.ij (O' := fun y=>w5.heap.size <= y /\ y<(wb.setRow Km (jQ (rowOf e b.index k b.time) [Iq e.data.k, Iq e.data.n, Iq e.data.s, .string e.data.t, .slice sL xP qe, .slice yL xD py]).toArray).heap.size) Ub (fun x hx _=>by have := hx.1; omega) (fun x hx=>⟨gZ, gZ⟩); refine iO ?_; refine im ?_; refine gY ?_; exact WQ.meet (Km, _) iW ⟨((ib.ic hS).trans (Ub.mono fun x (hx:x<w5.heap.size)=>by omega)).below, Ef, aeg⟩
    rintro⟨Km, yl⟩ w6 ⟨b6, Ef, zq⟩; simp only at Ef zq; have z6 := b6.size; have U5 := hG5.below b6; replace c1 := (b6.cell (p := ⟨vb, 1, none⟩) (show vb<w5.heap.size by omega)).trans c1; replace c3 := (b6.cell (p := ⟨vb, 3, none⟩) (show vb<w5.heap.size by omega)).trans c3; replace E5 := E5.ij (ib.ic b6) l5; replace v9 := h_.below v9 b6 l9; replace v10 := h_.below v10 b6 FC; replace l5 := h_.lt E5.blk; replace l9 := h_.lt v9; replace FC := h_.lt v10; have l15 := h_.lt Ef; have Be := zq.len; have zw6:w.heap.size <= w6.heap.size := gZ; replace k4 := k4.trans ((ib.ic b6).mono fun x hx=>by show x<w5.heap.size; omega); have Gv := apQ zq; have JV:lA 14 jf (lC D f w6) D w6 (.slice sp L.length cap) L := by
      have := U5.jt (e.table, e.doc); rw[hLe] at this
      rwa [hFe] at this
    have aiQ:0<L.length -> ∃b o, sp=some ⟨b, o, none⟩ := fun q=>by
      obtain⟨b9, o9, pr, CZ, es, -⟩ := mw JV q; exact⟨b9, o9, (by simpa using es:sp=some ⟨b9, o9, none⟩ /\ cap=pr).1⟩
    refine gY ?_; refine WC.sa (fun _:Unit=>[(0, iF vb), (3, Iq k), (5, iF g5), (6, iF g6), (9, iF g9), (10, iF AU)]) (fun _ w'=>∃D' F', ib (fun x=>x<w6.heap.size /\ x≠mr) w6 w' /\ (∀x, D' x -> D x \/ w.heap.size <= x) /\ PG w' vb M D' f s.n s.cat (fun y=>if y=(e.table, e.doc) then L++[rowOf e b.index k b.time] else Vw.of s.rows y) (uv (s.rows++[rowOf e b.index k b.time])) (ql s.rows) (As s.red) cp Oc mr md mp mn (kc+2) F') rfl ?_ ?_
    · refine WC.drawn 14 (iB w6) fun wa2 jh=>?_
      have hS:iB w6 wa2 := jh.below _; clear jh; refine iq [0, 1, 2] hS ?_; refine ik 3 [14] (fun wx hx=>(hx.cell (p := ⟨vb, 1, none⟩) (show vb<w6.heap.size by omega)).trans c1) hS ?_; refine jG 4 [14] (fun wx hx=>h_.rangeAt (h_.below v10 hx FC)) hS ?_; refine iq [5, 6, 7, 8, 9] hS ?_; refine jG (hm := (jO Be)) 11 [12, 13, 14] (fun wx hx=>h_.rangeAt (h_.below Ef hx l15)) hS ?_; refine WD.two 10 12 (by kernel_rfl) rfl rfl ?_ ?_
      · skip
        refine WL.clip rfl rfl rfl rfl rfl rfl rfl rfl aaG aiQ ?_; refine km hS ?_; refine iI 12 ?_; refine jR (hcs := (jO Be)) (cs := jQ (rowOf e b.index k b.time) yl) fun gl w7 f7=>?_; have b7 := f7.below; have q_ := hS.iR b7; have z7 := q_.size; refine km q_ ?_; refine iI 13 ?_; obtain⟨lO, kl, kat, ksl⟩ := F6 (JV.ij (P' := lC D f w7) (ib.ic q_) (fun x _ hl=>hl) (fun _ hx=>hx) fun _ _ hp=>hp.ij (ib.ic q_) (fun x hx _=>U5.lt x (.inr hx)) (fun _ hx=>hx)) (fun _ _ hp=>hp.one); refine WL.abW rfl rfl rfl rfl Fi rfl ksl rfl (WB f7.blk Gv.one Gv.len) gZ gZ gZ fun v8 w8 xC b8=>?_; have Hw := q_.trans (b8.mono z7); have z8 := b8.size; refine km Hw ?_; refine iI 14 ?_; have QQ := U5.below Hw; have Cn := QQ.lt; have abV := fun x hx=>iS x (.inl hx); have abB := QQ.more (D' := fun x=>D x \/ (w5.heap.size <= x /\ x<w8.heap.size)) (fun x hx=>.inl hx) (fun x hx=>hx.elim (fun q=>Cn x (.inr q)) fun q=>q.2) (fun x hx q=>q.elim (h.sep x hx) fun q=>by have := abV x hx; omega); have Ly:jk te 14 jf (lC (fun x=>D x \/ (w5.heap.size <= x /\ x<w8.heap.size)) f w8) (fun x=>w7.heap.size <= x) w8 v8 (L++[rowOf e b.index k b.time]) :=
          IG kl (fun j hj=>⟨(kat j hj).1, (kat j hj).2.ij (ib.ic b8) (fun x hx hl=>hl) fun x hx=>.inl hx⟩) Gv.len (Gv.ij (ib.ic Hw) (fun x hx _=>hx.2) fun x hx=>.inr ⟨hx.1, gZ⟩) xC
        have adt:lA 14 jf (lC (fun x=>D x \/ (w5.heap.size <= x /\ x<w8.heap.size)) f w8) (fun x=>D x \/ (w5.heap.size <= x /\ x<w8.heap.size)) w8 v8 (L++[rowOf e b.index k b.time]) := by
          obtain⟨a1, a2, a3, a4, a5, a6, a7⟩ := ox Ly; refine⟨a1, a2, a3, a4, a5, a6, fun q=>?_⟩; obtain⟨y1, y2, y3, y4, y5, y6⟩ := a7 q; exact⟨y1, y2, y3, y4, .inr ⟨gZ, y4⟩, y6⟩
        obtain⟨w9, Vo, FO, Sb⟩ := abB.abx gZ (x := (e.table, e.doc)) rt rd adt; refine WL.kv rfl rfl rfl rfl rfl rfl Vo ?_; refine iO ?_; refine im ?_; refine gY ?_; exact WQ.meet () iW ⟨_, _, ((ib.ic Hw).mono fun x hx=>hx.1).trans (FO.mono fun x hx=>hx.2), fun x hx=>hx.elim .inl fun q=>.inr gZ, Sb⟩
      · skip
        refine jR (hcs := (jO Be)) (cs := jQ (rowOf e b.index k b.time) yl) fun gl w7 f7=>?_; have hSx := hS.iR f7.below; refine km hSx ?_; refine iI 10 ?_; refine WL.clip rfl rfl rfl rfl rfl rfl rfl rfl aaG aiQ ?_; have b7 := f7.below; have q_ := hS.iR b7; have z7 := q_.size; refine km q_ ?_; refine iI 13 ?_; obtain⟨lO, kl, kat, ksl⟩ := F6 (JV.ij (P' := lC D f w7) (ib.ic q_) (fun x _ hl=>hl) (fun _ hx=>hx) fun _ _ hp=>hp.ij (ib.ic q_) (fun x hx _=>U5.lt x (.inr hx)) (fun _ hx=>hx)) (fun _ _ hp=>hp.one); refine WL.abW rfl rfl rfl rfl Fi rfl ksl rfl (WB f7.blk Gv.one Gv.len) gZ gZ gZ fun v8 w8 xC b8=>?_; have Hw := q_.trans (b8.mono z7); have z8 := b8.size; refine km Hw ?_; refine iI 14 ?_; have QQ := U5.below Hw; have Cn := QQ.lt; have abV := fun x hx=>iS x (.inl hx); have abB := QQ.more (D' := fun x=>D x \/ (w5.heap.size <= x /\ x<w8.heap.size)) (fun x hx=>.inl hx) (fun x hx=>hx.elim (fun q=>Cn x (.inr q)) fun q=>q.2) (fun x hx q=>q.elim (h.sep x hx) fun q=>by have := abV x hx; omega); have Ly:jk te 14 jf (lC (fun x=>D x \/ (w5.heap.size <= x /\ x<w8.heap.size)) f w8) (fun x=>w7.heap.size <= x) w8 v8 (L++[rowOf e b.index k b.time]) :=
          IG kl (fun j hj=>⟨(kat j hj).1, (kat j hj).2.ij (ib.ic b8) (fun x hx hl=>hl) fun x hx=>.inl hx⟩) Gv.len (Gv.ij (ib.ic Hw) (fun x hx _=>hx.2) fun x hx=>.inr ⟨hx.1, gZ⟩) xC
        have adt:lA 14 jf (lC (fun x=>D x \/ (w5.heap.size <= x /\ x<w8.heap.size)) f w8) (fun x=>D x \/ (w5.heap.size <= x /\ x<w8.heap.size)) w8 v8 (L++[rowOf e b.index k b.time]) := by
          obtain⟨a1, a2, a3, a4, a5, a6, a7⟩ := ox Ly; refine⟨a1, a2, a3, a4, a5, a6, fun q=>?_⟩; obtain⟨y1, y2, y3, y4, y5, y6⟩ := a7 q; exact⟨y1, y2, y3, y4, .inr ⟨gZ, y4⟩, y6⟩
        obtain⟨w9, Vo, FO, Sb⟩ := abB.abx gZ (x := (e.table, e.doc)) rt rd adt; refine WL.kv rfl rfl rfl rfl rfl rfl Vo ?_; refine iO ?_; refine im ?_; refine gY ?_; exact WQ.meet () iW ⟨_, _, ((ib.ic Hw).mono fun x hx=>hx.1).trans (FO.mono fun x hx=>hx.2), fun x hx=>hx.elim .inl fun q=>.inr gZ, Sb⟩
    rintro⟨⟩ w8 ⟨D', F', k8, hD', QQ⟩; have z8 := k8.size; replace E5 := E5.ij k8 ⟨l5, gZ⟩; replace v9 := v9.ij k8 ⟨l9, gZ⟩; replace v10 := v10.ij k8 ⟨FC, gZ⟩; replace c3 := (k8.cell (p := ⟨vb, 3, none⟩) ⟨by show vb<w6.heap.size; omega, P9.1.symm⟩).trans c3; replace l9 := h_.lt v9; replace FC := h_.lt v10; replace k4 := k4.trans (k8.mono fun x hx=>⟨gZ, fun q=>hx.2 (q ▸ h.xK)⟩); have ck := E5.kind; have hA:∀x, Vw.of (s.rows++[rowOf e b.index k b.time]) x=if x=(e.table, e.doc) then L++[rowOf e b.index k b.time] else Vw.of s.rows x := fun x=>by
      rw[EY]
      by_cases q:x=(e.table, e.doc)
      · subst q
        rw[if_pos rfl, hLe, if_pos (show(rowOf e b.index k b.time).key=(e.table, e.doc) from rfl)]
      · rw[if_neg q, if_neg (show ¬(rowOf e b.index k b.time).key=x from fun y=>q y.symm), aS]
    have ahY:({ s with rows := s.rows++[rowOf e b.index k b.time]}:St).n <= N+4 /\ ({ s with rows := s.rows++[rowOf e b.index k b.time]}:St).rows.length <= N+4 /\ kc+3 <= N+4 /\ N+4 <= 1000000 := by
      refine⟨by show s.n <= _; omega, ?_, gZ, hN⟩
      show(s.rows++[rowOf e b.index k b.time]).length <= _
      rw[aa, dH]; omega
    by_cases k2:e.kind=2
    · have apR:(rowOf e b.index k b.time).del=false := decide_eq_false gZ
      rw[apR, if_neg j9] at WE; refine iu ?_; refine WC.drawn 6 (iB w8) fun wa2 jh=>?_; have hS:iB w8 wa2 := jh.below _; clear jh; refine iq [0, 1, 2] hS ?_; refine ik 3 [6] (fun wx hx=>(hx.cell (p := ⟨vb, 3, none⟩) (show vb<w8.heap.size by omega)).trans c3) hS ?_; refine jG 4 [6] (fun wx hx=>h_.rangeAt (h_.below v9 hx l9)) hS ?_; refine jG 5 [6] (fun wx hx=>h_.rangeAt (h_.below v10 hx FC)) hS ?_; refine iI 6 ?_; obtain⟨w9, Vo, FO, hG9⟩ := (QQ.below hS).aqH gZ (x := (b.index, (k:Int))) Vi rk (lR (e.table, e.doc)); refine WL.kv rfl rfl rfl rfl rfl rfl Vo ?_; refine iO ?_; refine im ?_; refine gY ?_; exact g_ ⟨rfl, (k4.trans ((ib.ic hS).mono fun x hx=>by show x<w8.heap.size; omega)).trans (FO.mono fun x hx q=>hx.2 (q ▸ h.yJ)), fun _=>⟨M, D', ⟨cp, Oc, mr, md, mp, mn, kc+3, F', hG9.pv rfl rfl hA (fun _=>rfl) (fun x=>congrFun WE x) (fun _=>rfl) ahY⟩, fun x hx=>.inl hx, hD'⟩⟩
    · have ana:(rowOf e b.index k b.time).del=true := decide_eq_true gZ
      rw[ana, if_pos rfl] at WE; refine iu ?_; exact g_ ⟨rfl, k4, fun _=>⟨M, D', ⟨cp, Oc, mr, md, mp, mn, kc+3, F', (QQ.abT (bJ _)).pv rfl rfl hA (fun _=>rfl) (fun x=>congrFun WE x) (fun _=>rfl) ahY⟩, fun x hx=>.inl hx, hD'⟩⟩
  case neg=>
  by_cases h4:e.kind=4
  case pos=>
    obtain⟨k2, k3⟩:¬e.kind=2 /\ ¬e.kind=3 := ⟨gZ, gZ⟩; obtain⟨ha0, -⟩ := BV (L := s.cat) (kind := e.kind) (txt := e.text) (tbl := e.table) gZ gZ gZ; have hR:entR s e b.index k b.time=(match s.rows.findIdx? (wM s (e.ab, e.ae)) with|some i=>(0, { s with rows := s.rows.set i (shut (s.rows.getD i jf)), red := vH s.red (e.ab, e.ae)})|none=>(3, s)) := by
      unfold entR; rw[if_neg (by simpa using ha0), if_neg Fp, if_pos h4]; rfl
    rw[hR]; have ra:jX (e.ab, e.ae).1 := El.2.2.2.2.1; have re:jX (e.ab, e.ae).2 := El.2.2.2.2.2; have hlp:∀ {wx:World}, iB w1 wx -> (Instr.lookup 129 (.map (some mp)) (lR (e.ab, e.ae)) true).run prog wx=.ok (.tuple #[(ql s.rows (e.ab, e.ae)).getD (lR (0, 0)), .bool (ql s.rows (e.ab, e.ae)).isSome]) wx := fun hx=>(h1.below hx).akl ra re; have wO:∀ {wx:World}, iB w1 wx -> (Instr.lookup 130 (.map (some mn)) (lR (e.ab, e.ae)) false).run prog wx=.ok (.bool (s.red (e.ab, e.ae))) wx := fun hx=>(h1.below hx).amy ra re; obtain⟨kk, okb, ED, lk⟩:∃kk okb, (ql s.rows (e.ab, e.ae)).getD (lR (0, 0))=lR kk /\ (ql s.rows (e.ab, e.ae)).isSome=okb := by
      unfold ql; cases s.rows.find? fun r=>decide (r.lG=(e.ab, e.ae)) && !r.del with
      | none=>exact⟨(0, 0), false, rfl, rfl⟩
      | some r=>exact⟨r.key, true, rfl, rfl⟩
    rw[ED, lk] at hlp; refine WC.pE rfl k2 ?_; refine gY ?_; refine WC.sa (fun K_:Nat=>[(0, iF vb), (3, Iq k), (5, iF g5), (16, iF K_), (17, .bool okb)]) (fun K_ w'=>iB w1 w' /\ w.heap.size <= K_ /\ h_ Fv w' K_ [Iq kk.1, Iq kk.2]) rfl ?_ ?_
    · refine WC.drawn 11 (iB w1) fun wa jh=>?_
      have hS:iB w1 wa := jh.below _; clear jh; refine iq [0, 1, 2] hS ?_; refine ik 3 [6, 7, 8, 9, 11, 12] (jZ tZ c3) hS ?_; refine iq [4] hS ?_; refine jG 5 [6, 7, 8, 9, 11, 12] (fun wx hx=>(E5.ij (ib.ic hx) l5).yV) hS ?_; refine WD.look 6 [7, 8, 9, 11, 12] rfl (by kernel_rfl) rfl rfl (fun _ _ _ _ _ h=>h) rfl rfl rfl rfl (fun wx hx=>hlp hx) hS ?_; refine iq [7, 8, 9] hS ?_; refine iI 10 ?_; have hSq := hS; refine ix (z := .agg [Value.int .i64 0, Iq 0].toArray) (fun _=>by kernel_rfl) fun K_ wc f9=>?_; have bf0 := hS.iR f9.below; refine km bf0 ?_; have hS := bf0; refine iI 11 ?_; refine ir f9.blk Bf ?_; have vf := h_.setRow f9.blk [Value.int .i64 kk.1, Iq kk.2]; have bf:iB w1 (wc.setRow K_ [Value.int .i64 kk.1, Iq kk.2].toArray) := (Cr.kC (K := fun x=>x<w1.heap.size) (g := K_) (ib.ic bf0) (fun hh=>by have := f9.eq; have := hSq.size; omega) _).below; refine iO ?_
      (refine js 12 rfl (q := ?_))
      refine im ?_; refine gY ?_; exact WQ.meet K_ iW ⟨bf, by have := f9.eq; have := hSq.size; omega, vf⟩
    rintro K_ w3 ⟨b3, q16, Ll⟩; have h3 := h1.below b3; replace E5 := E5.ij (ib.ic b3) l5; replace c1 := (b3.cell (p := ⟨vb, 1, none⟩) tZ).trans c1; replace c4 := (b3.cell (p := ⟨vb, 4, none⟩) tZ).trans c4; have z3 := b3.size; have V0 := kb b3; replace wO:∀ {wx:World}, iB w3 wx -> _ := fun {wx} hx=>wO (wx := wx) (b3.trans (hx.mono z3)); replace l5 := h_.lt E5.blk; have Lq := h_.lt Ll; have Nb:vb<w3.heap.size := gZ; have zw3:w.heap.size <= w3.heap.size := gZ; cases okb with
    | false=>
      have akm := GO (s := s) (a := (e.ab, e.ae)) (.inl (by
        unfold ql at lk; cases hq:s.rows.find? fun r=>decide (r.lG=(e.ab, e.ae)) && !r.del with
        | none=>rfl
        | some r=>rw[hq] at lk; cases lk))
      rw[akm]; refine gY ?_; refine WC.drawn 10 (iB w3) fun wa jh=>?_; have hS:iB w3 wa := jh.below _; clear jh; refine iq [0, 1, 2, 3, 4, 5] hS ?_; refine iq [6] hS ?_; refine iq [7] hS ?_; refine iq [8] hS ?_; refine iq [9] hS ?_; refine iI 10 ?_; refine iA ?_; refine iO ?_; refine im ?_; refine gY ?_; exact g_ (bad yg (V0.trans ((ib.ic hS).mono fun x hx=>by show x<w3.heap.size; omega)))
    | true=>
    obtain⟨r, ajr, rfl⟩:∃r, s.rows.find? (fun r=>decide (r.lG=(e.ab, e.ae)) && !r.del)=some r /\ r.key=kk := by
      unfold ql at ED lk; cases hq:s.rows.find? fun r=>decide (r.lG=(e.ab, e.ae)) && !r.del with
      | none=>rw[hq] at lk; cases lk
      | some r=>rw[hq] at ED; exact⟨r, rfl, rE _ _ ED⟩
    cases CI:s.red (e.ab, e.ae) with
    | true=>
      rw[CI] at wO; rw[GO (s := s) (a := (e.ab, e.ae)) (.inr CI)]; refine gY ?_; refine WC.drawn 10 (iB w3) fun wa jh=>?_; have hS:iB w3 wa := jh.below _; clear jh; refine iq [0, 1, 2, 3, 4, 5] hS ?_; refine ik 6 [9, 10] (jZ Nb c4) hS ?_; refine iq [7] hS ?_; refine jG 8 [9, 10] (fun wx hx=>(E5.ij (ib.ic hx) l5).yV) hS ?_; refine WD.look 9 [10] rfl (by kernel_rfl) rfl rfl (fun _ _ _ _ _ h=>h) rfl rfl rfl rfl (fun wx hx=>wO hx) hS ?_; refine iI 10 ?_; refine iA ?_; refine iO ?_; refine im ?_; refine gY ?_; exact g_ (bad yg (V0.trans ((ib.ic hS).mono fun x hx=>by show x<w3.heap.size; omega)))
    | false=>
    rw[CI] at wO; obtain⟨i, j, nm⟩ := QK hI ajr CI; rw[nm.idx]; simp only
    rw[nm.here]; refine gY ?_; refine WC.drawn 10 (iB w3) fun wa jh=>?_; have hS:iB w3 wa := jh.below _; clear jh; refine iq [0, 1, 2, 3, 4, 5] hS ?_; refine ik 6 [9, 10] (jZ Nb c4) hS ?_; refine iq [7] hS ?_; refine jG 8 [9, 10] (fun wx hx=>(E5.ij (ib.ic hx) l5).yV) hS ?_; refine WD.look 9 [10] rfl (by kernel_rfl) rfl rfl (fun _ _ _ _ _ h=>h) rfl rfl rfl rfl (fun wx hx=>wO hx) hS ?_; refine iI 10 ?_; refine iA ?_; refine iO ?_; refine im ?_; have hGa := h3.pg.below hS; have za := hS.size; replace E5 := E5.ij (ib.ic hS) l5; replace Ll := h_.below Ll hS Lq; replace c1 := (hS.cell (p := ⟨vb, 1, none⟩) Nb).trans c1; replace c4 := (hS.cell (p := ⟨vb, 4, none⟩) Nb).trans c4; replace V0 := V0.trans ((ib.ic hS).mono fun x (hx:x<w.heap.size /\ ¬M x)=>(by omega:x<w3.heap.size)); replace l5 := h_.lt E5.blk; replace Lq := h_.lt Ll; clear hS h3 wO hlp b3 z3 bad kb h1; refine gY ?_; refine WC.drawn 6 (iB wa) fun wb jh=>?_; have hS:iB wa wb := jh.below _; clear jh; refine iq [0, 1, 2] hS ?_; refine ik 3 [6] (fun wx hx=>(hx.cell (p := ⟨vb, 4, none⟩) (show vb<wa.heap.size by omega)).trans c4) hS ?_; refine iq [4] hS ?_; refine jG 5 [6] (fun wx hx=>(E5.ij (ib.ic hx) l5).yV) hS ?_; refine iI 6 ?_; obtain⟨w4, Pb, m8, Ot⟩ := (hGa.below hS).ao_ gZ (x := (e.ab, e.ae)) ra re (.bool true); refine WL.kv rfl rfl rfl rfl rfl rfl Pb ?_; refine iO ?_; refine im ?_; have z4 := m8.size; have zb := hS.size; have hMn := fun x hx=>iS x (.inl hx); have lmn := hMn mn h.zA; have lmr := hMn mr h.xK; have P9 := h.pg.sU; have vy:ib (fun x=>x<wa.heap.size /\ x≠mn) wa w4 := ((ib.ic hS).mono fun x hx=>hx.1).trans (m8.mono fun x hx=>hx.2); replace E5 := E5.ij vy ⟨l5, gZ⟩; replace Ll := Ll.ij vy ⟨Lq, gZ⟩; replace c1 := (vy.cell (p := ⟨vb, 1, none⟩) ⟨by show vb<wa.heap.size; omega, P9.2.2.2.symm⟩).trans c1; replace V0 := V0.trans (vy.mono fun x hx=>⟨gZ, fun q=>hx.2 (q ▸ h.zA)⟩); replace l5 := h_.lt E5.blk; replace Lq := h_.lt Ll; have zw4:w.heap.size <= w4.heap.size := gZ; clear hS c4 hGa; have kU := Ot.jt r.key; have ah0 := nm.jlt; have EA := N7 s.rows r.key; obtain⟨rt, rd⟩:jX r.key.1 /\ jX r.key.2 := by
      obtain⟨-, -, -, -, -, -, -, -, -, Da, -⟩ := mw kU nm.jlt; rw[nm.aas] at Da; exact⟨Da.lj, Da.doc⟩
    have u7:∀ {wx:World}, iB w4 wx -> (Instr.lookup 127 (.map (some mr)) (lR r.key) false).run prog wx=.ok ((F r.key).getD (.slice none 0 0)) wx := fun hx=>(Ot.below hx).rows.look Ii underlying127 (by kernel_rfl) (VN rt rd); generalize (F r.key).getD (.slice none 0 0)=sv at kU u7; obtain⟨Dt, cpv, rfl, -⟩ := id kU; refine gY ?_; refine WC.drawn 7 (iB w4) fun wb jh=>?_; have hS:iB w4 wb := jh.below _; clear jh; refine iq [0, 1, 2] hS ?_; refine ik 3 [5, 6, 7] (fun wx hx=>(hx.cell (p := ⟨vb, 1, none⟩) (show vb<w4.heap.size by omega)).trans c1) hS ?_; refine jG 4 [5, 6, 7] (fun wx hx=>h_.rangeAt (h_.below Ll hx Lq)) hS ?_; refine WD.look 5 [6, 7] rfl (by kernel_rfl) rfl rfl (fun _ _ _ _ _ h=>h) rfl rfl rfl rfl (fun wx hx=>u7 hx) hS ?_; refine iI 6 ?_; have Nh := kU.ij (P' := lC D f wb) (ib.ic hS) (fun x _ hl=>hl) (fun _ hx=>hx) fun _ _ hp=>hp.ij (ib.ic hS) (fun x hx _=>Ot.lt x (.inr hx)) (fun _ hx=>hx); refine il func85 (TI Nh (fun _ _ hp=>hp.one) gZ gZ) ?_; rintro _ w5 ⟨b5, v5, rfl, xO⟩; refine⟨_, rfl, ?_⟩; have Pc := hS.iR b5; refine km Pc ?_; refine iI 7 ?_; refine iA ?_; refine iO ?_; refine im ?_; have z5 := Pc.size; have iJ:jk te 14 jf (lC D f w5) (fun x=>wb.heap.size <= x) w5 v5 (Vw.of s.rows r.key) := K.jk.ij xO (ib.refl (fun _=>True) w5) (fun _ _=>trivial) (fun _ hx=>hx) fun _ _ hp=>hp.ij (ib.ic b5) (fun x hx hl=>hl) (fun _ hx=>hx); have E55 := E5.ij (ib.ic Pc) l5; have l55 := h_.lt E55.blk; have hG5 := Ot.below Pc; have aiO := h_.below Ll Pc Lq; have c15 := (Pc.cell (p := ⟨vb, 1, none⟩) (show vb<w4.heap.size by omega)).trans c1; have zbb := hS.size; refine gY ?_; refine WL.fn rfl rfl rfl rfl (cs := [iF g5]) rfl ?_; refine il func86 (Rq (ox iJ) gZ E55.ab E55.ae l55) ?_; rintro _ w6 ⟨b6, rfl⟩; refine⟨_, rfl, ?_⟩; rw[nm.jdx]; have zj:I8 (some j)=(j:Int) := rfl; rw[zj]; have z6 := b6.size; have ajz:jk te 14 jf (lC D f w6) (fun x=>wb.heap.size <= x) w6 v5 (Vw.of s.rows r.key) := K.jk.ij iJ (ib.ic b6) (fun x hx=>K.jk.lt iJ hx) (fun _ hx=>hx) fun _ _ hp=>hp.ij (ib.ic b6) (fun x hx _=>hG5.lt x (.inr hx)) (fun _ hx=>hx); have U5 := hG5.below b6; have amK := h_.below aiO b6 (h_.lt aiO); have c16 := (b6.cell (p := ⟨vb, 1, none⟩) (show vb<w5.heap.size by omega)).trans c15; obtain⟨g, abr, rfl, hgO, lgg, A, B, C, F8, XV, hBl, hPB, aa1⟩ := TE ajz nm.jlt; rw[nm.aas] at hPB; obtain⟨dB, rfl, Yh, okB, smB⟩ := hPB; obtain⟨wR, C0, n1, n2, qe, py, rfl⟩ := yQ Yh; have ES:(jQ r [Iq r.data.k, Iq r.data.n, Iq r.data.s, .string r.data.t, .slice wR n1 qe, .slice C0 n2 py]).length=14 := rfl; have tD := F8.set (j*14+9) (.bool true); rw[QS _ XV (by rw[ES]; omega)] at tD; have abJ:w6.cell? ⟨g, j*14+9, none⟩=some ((A++((jQ r [Iq r.data.k, Iq r.data.n, Iq r.data.s, .string r.data.t, .slice wR n1 qe, .slice C0 n2 py])++C)).getD (j*14+9) undef) := F8.cell _ (by simp only[aa]; rw[ES]; omega); refine gY ?_; refine iE iy (by kernel_rfl) ?_; refine iG (hq := gZ) j (j*14) ah0 ?_; refine gY ?_; refine iD abJ (h_.free F8 _) ?_; refine iG (hq := gZ) j (j*14) ah0 ?_; refine gY ?_; refine WL.tN rfl rfl rfl rfl rfl rfl tD rfl (by simp only[aa, aC]; rw[ES]; omega) (mD (fun _=>True) 0 w6).one ?_; have su := h_.setRow tD ((A++((jQ r [Iq r.data.k, Iq r.data.n, Iq r.data.s, .string r.data.t, .slice wR n1 qe, .slice C0 n2 py]).set 9 (.bool true)++C)).take (j*14+3)++iy++(A++((jQ r [Iq r.data.k, Iq r.data.n, Iq r.data.s, .string r.data.t, .slice wR n1 qe, .slice C0 n2 py]).set 9 (.bool true)++C)).drop (j*14+3+6)); have Kb := QL (A := A) (B := (jQ r [Iq r.data.k, Iq r.data.n, Iq r.data.s, .string r.data.t, .slice wR n1 qe, .slice C0 n2 py]).set 9 (.bool true)) (C := C) (m := iy) (x := j*14) (off := 3) (k := 6) XV rfl (by rw[aC, ES]; omega); rw[Mu] at Kb; obtain⟨row, ji⟩:∃row, row=(A++((jQ r [Iq r.data.k, Iq r.data.n, Iq r.data.s, .string r.data.t, .slice wR n1 qe, .slice C0 n2 py]).set 9 (.bool true)++C)).take (j*14+3)++iy++(A++((jQ r [Iq r.data.k, Iq r.data.n, Iq r.data.s, .string r.data.t, .slice wR n1 qe, .slice C0 n2 py]).set 9 (.bool true)++C)).drop (j*14+3+6) := ⟨_, rfl⟩; rw[<- ji] at su Kb ⊢; have kg:ib (fun x=>x≠g) w6 ((w6.setCell ⟨g, j*14+9, none⟩ (.bool true)).setRow g row.toArray) := Cr.kC ((ib.refl _ _).setCell iz _) iz _; generalize (w6.setCell ⟨g, j*14+9, none⟩ (.bool true)).setRow g row.toArray=we at su kg ⊢; rw[Kb] at su; have ze := kg.size; have Lj:w4.heap.size <= g := by have := hgO; omega
    have NB := Ot.lt; have hGe := U5.ij kg (fun x hx=>by have := NB x hx; show x≠g; omega); have avT := h_.lt Ll; have aib := amK.ij kg gZ; have c1e := (kg.cell (p := ⟨vb, 1, none⟩) (show vb≠g by omega)).trans c16; obtain⟨f', rfl⟩:∃f', f=f'+1 := p_.ao1 Yh; have HZ := aa1 (w' := we) (P' := lC D (f'+1) we) (jQ (shut r) iy) (shut r) su rfl (lC.one (D := D) (f := f'+1) (w := we) ⟨iy, rfl, mD D f' we, ⟨okB.lj, okB.doc, okB.iZ, okB.blk, okB.ni, okB.pO⟩, DQ f'⟩) ⟨iy, rfl, mD D f' we, ⟨okB.lj, okB.doc, okB.iZ, okB.blk, okB.ni, okB.pO⟩, DQ f'⟩
      (fun x cs hp=>hp.ij kg (fun y hy _=>by have := NB y (.inr hy); show y≠g; omega) (fun _ h=>h))
    have ag_:lA 14 jf (lC (fun x=>D x \/ (w4.heap.size <= x /\ x<we.heap.size)) (f'+1) we) (fun x=>D x \/ (w4.heap.size <= x /\ x<we.heap.size)) we (.slice (some ⟨g, 0, none⟩) (Vw.of s.rows r.key).length abr) ((Vw.of s.rows r.key).set j (shut r)) := by
      obtain⟨a1, a2, a3, a4, a5, a6, a7⟩ := ox HZ; refine⟨a1, a2, a3, a4, a5, a6, fun q=>?_⟩; obtain⟨y1, y2, y3, y4, y5, y6⟩ := a7 q; refine⟨y1, y2, y3, y4, .inr ⟨?_, y4⟩, fun jj hjj=>?_⟩
      · have := y5
        omega
      · obtain⟨x1, x2, x3, x4⟩ := y6 jj hjj
        exact⟨x1, x2, x3.ij (ib.refl (fun _=>True) we) (fun _ _ _=>trivial) (fun _ h=>.inl h), x4⟩
    have hGm := hGe.more (D' := fun x=>D x \/ (w4.heap.size <= x /\ x<we.heap.size)) (fun x hx=>.inl hx) (fun x hx=>hx.elim (fun q=>by have := NB x (.inr q); omega) fun q=>q.2) (fun x hx q=>q.elim (h.sep x hx) fun q=>by have := hMn x hx; omega); have kwe := V0.trans (((ib.ic (Pc.trans (b6.mono z5))).mono fun x (hx:x<w.heap.size /\ ¬M x)=>(by omega:x<w4.heap.size)).trans (kg.mono fun x hx=>by omega)); refine gY ?_; refine WC.drawn 6 (iB we) fun wf jh=>?_; have HK:iB we wf := jh.below _; clear jh hS; have hS := HK; refine iq [0, 1, 2] hS ?_; refine ik 3 [6] (fun wx hx=>(hx.cell (p := ⟨vb, 1, none⟩) (show vb<we.heap.size by omega)).trans c1e) hS ?_; refine jG 4 [6] (fun wx hx=>h_.rangeAt (h_.below aib hx aib.lt)) hS ?_; refine iq [5] hS ?_; refine iI 6 ?_; obtain⟨w9, Vo, FO, hG9⟩ := (hGm.below hS).abx gZ (x := r.key) rt rd (ag_.ij (ib.ic hS) (fun x _ hl=>hl) (fun _ hx=>hx) fun _ _ hp=>hp.ij (ib.ic hS) (fun x hx hl=>hl) (fun _ hx=>hx)); refine WL.kv rfl rfl rfl rfl rfl rfl Vo ?_; refine iO ?_; refine im ?_; refine gY ?_; have ar1:As (vH s.red (e.ab, e.ae))=nH (As s.red) (e.ab, e.ae) (.bool true) := by
      funext x
      unfold As vH nH
      by_cases q:x=(e.ab, e.ae)
      · rw[if_pos q, if_pos q, if_pos rfl]
      · rw[if_neg q, if_neg q]
    exact g_ ⟨rfl, (kwe.trans ((ib.ic hS).mono fun x hx=>by show x<we.heap.size; omega)).trans (FO.mono fun x hx q=>hx.2 (q ▸ h.xK)), fun _=>⟨M, _, ⟨cp, Oc, mr, md, mp, mn, kc+2, _, hG9.pv rfl rfl nm.ofs (fun x=>by show uv (s.rows.set i (shut r)) x=uv s.rows x; unfold uv; rw[nm.apN]) nm.plc (fun x=>congrFun ar1 x) (by
      refine⟨by show s.n <= _; omega, ?_, gZ, hN⟩
      show(s.rows.set i (shut r)).length <= _
      rw[aC]; omega)⟩, fun x hx=>.inl hx, fun x hx=>hx.elim .inl fun q=>.inr gZ⟩⟩
  case neg=>
  obtain⟨k2, k3⟩:¬e.kind=2 /\ ¬e.kind=3 := ⟨fun q=>Fp (.inl q), fun q=>Fp (.inr q)⟩; have hR:entR s e b.index k b.time=(if Cat.kt s.cat e.kind e.text e.table≠0 then(Cat.kt s.cat e.kind e.text e.table, s) else(0, { s with cat := Cat.mW s.cat e.kind e.text e.table })) := by
    unfold entR; rw[if_neg Fp, if_neg h4]
  rw[hR]; refine WC.pE rfl k2 ?_; refine gY ?_; refine WC.drawn 5 (iB w1) fun wa jh=>?_; have hS:iB w1 wa := jh.below _; clear jh; refine iq [0, 1, 2] hS ?_; refine ik 3 [5, 6] (jZ tZ c0) hS ?_; refine jG (hm := kU) 4 [5, 6] (fun wx hx=>h_.rangeAt (h_.below E5.blk hx l5)) hS ?_; refine iI 5 ?_; refine il gg (Cat.Vy (h1.below hS).cat hE gZ) ?_; rintro _ w' ⟨O', rfl, IZ, AK, ho'⟩; refine⟨_, rfl, ?_⟩; refine iO ?_
  (refine js 6 rfl (q := ?_))
  refine im ?_; refine gY ?_; have oe:PG w' vb _ D f s.n (Cat.mW s.cat e.kind e.text e.table) _ _ _ _ cp O' mr md mp mn (kc+1) F := (h1.pg.below hS).app IZ AK ho'; have hz := hS.size; have wH := (kb hS).trans (AK.mono fun x hx=>⟨gZ, fun q=>hx.2 (h.rn x q)⟩)
  by_cases vO:Cat.kt s.cat e.kind e.text e.table=0
  · rw[if_neg (by simpa using vO), vO]
    refine gY ?_; refine g_ ⟨rfl, wH, fun _=>⟨_, D, ⟨cp, O', mr, md, mp, mn, kc+1, F, oe.pv rfl rfl (fun _=>rfl) (fun _=>rfl) (fun _=>rfl) (fun _=>rfl) (by show s.n <= _ /\ s.rows.length <= _ /\ _; omega)⟩, fun x hx=>hx.elim .inl fun q=>.inr gZ, fun x hx=>.inl hx⟩⟩
  · rw[if_pos vO]
    refine gY ?_; exact g_ (bad vO wH)
end Vw
namespace Vw
open K
def Xx (w:World) (vb:Nat) (M D:Nat -> Prop) (f:Nat) (c:Int) (s:St) (N:Nat) (e:Ending) (w':World):Prop :=
 ∃M' D',e=.returned (Iq c) /\ pD w' vb M' D' f s N /\ ib (fun b=>b<w.heap.size /\ ¬M b) w w' /\ (∀b,M' b -> M b \/ w.heap.size <= b) /\ ∀b,D' b -> D b \/ w.heap.size <= b
theorem PV.TC {wl wf:World}{xb:Nat}{Mi Di:Nat -> Prop}{si:St}{k N':Nat}(h:PV wl xb Mi Di f si cp Oc mr md mp mn k N F) (hv:h_ XS wf vb [iF cp,.map (some mr),.map (some md),.map (some mp),.map (some mn),Iq (si.n+1:Nat)]) (kf:ib (fun x=>x≠xb /\ x≠vb) wl wf) (hM:∀x,Mi x -> x≠vb) (hD:∀x,Di x -> x≠vb) (iS:vb<wl.heap.size) (hN:si.n+1 <= N' /\ N <= N' /\ N' <= 1000000): PV wf vb (fun x=>x=vb \/ Mi x) Di f { si with n:=si.n+1 } cp Oc mr md mp mn k N' F:=by
 obtain⟨n1,n2,n3,n4⟩:=h.pg.sU;have hl:=h.lt;have hDk:∀x,Di x -> x≠xb /\ x≠vb:=fun x hx=>⟨fun e=>h.sep xb h.tG (e ▸ hx),hD x hx⟩;have kK:=h.ok;exact⟨hv,h.cat.ij kf fun x hx=>⟨fun e=>h.out.1 (e ▸ hx),hM x (h.rn x hx)⟩,h.rows.ij kf ⟨n1,hM _ h.xK⟩,fun x=>(h.jt x).ij kf (fun b hb _=>hDk b hb) (fun _ h=>h) fun _ _ hp=>hp.ij kf (fun b hb _=>hDk b hb) (fun _ h=>h),
  h.uQ.ij kf ⟨n2,hM _ h.yy⟩,h.uS.ij kf ⟨n3,hM _ h.yJ⟩,h.uM.ij kf ⟨n4,hM _ h.zA⟩,.inl rfl,.inr h.xK,.inr h.yy,.inr h.yJ,.inr h.zA,fun x hx=>.inr (h.rn x hx),⟨fun q=>hM vb (h.rn vb q) rfl,h.out.2⟩,h.oV,
  fun x hx=>ak (by
   rcases hx with(hx|hx)|hx
   ·omega
   ·exact hl x (.inl hx)
   ·exact hl x (.inr hx)) kf.size,fun x hx hd=>by
   rcases hx with hx|hx
   ·exact hD x hd hx
   ·exact h.sep x hx hd,⟨hN.1,by show si.rows.length <= _;omega,gZ,hN.2.2⟩⟩
theorem wX {s:St}(h0:pD w vb M D f s N) (hI:CL s) (VU:∀x,E x -> x<w.heap.size) {b:Bk}(hb:m6 E f w b bc) (lX:KJ f b) (hN:N+4*b.iv.length+4 <= 1000000):
  Calls prog 22 #[iF vb,.agg bc.toArray] w (Xx w vb M D f (kV s b).1 (kV s b).2 (N+4*b.iv.length+1)):=by
 obtain⟨cp,Oc,mr,md,mp,mn,kc,F,h⟩:=id h0;have iS:=h.lt;have sh:=hb.len;have bq:=hb;obtain⟨se,rfl,mH,mN,uK,Vi,XQ,-⟩:=bq;obtain⟨sp,cap,rfl,tC,rO,Cg,ji⟩:=mH;refine iY (args:=[iF vb,.agg (oH b (.slice sp b.iv.length cap)).toArray]) func22 ntmps22 ?_;refine ku ?_;refine iC fun g3 w1 f1=>?_;have B1:lM wK g3 w1 b (.slice sp b.iv.length cap):=⟨f1.blk,mN⟩;have b1:=f1.below;have e3:=f1.eq;clear f1;have N8:=h_.lt B1.blk;have h1:=h.below b1;have c5:=h1.pM.cell 5 iz;simp only[ax,al] at c5;have tZ:=h1.lt vb (.inl h1.tG);have ei:=B1.index;have ee:=B1.iv;have z1:=b1.size;have api:=iS vb (.inl h.tG);have kK:=h.ok;have bad:∀ {wx:World}{c:Int},iB w1 wx -> (kV s b)=(c,s) -> Xx w vb M D f (kV s b).1 (kV s b).2 (N+4*b.iv.length+1) (.returned (Iq c)) wx:=fun hx hc=>by
  rw[hc];exact⟨M,D,rfl,pD.mono ⟨_,_,_,_,_,_,_,_,h1.below hx⟩ gZ gZ,(ib.ic (b1.trans (hx.mono z1))).mono fun x hx=>hx.1,fun _ h=>.inl h,fun _ h=>.inl h⟩
 refine gY ?_;refine jc ?_;refine gY ?_;refine WC.drawn 6 (iB w1) fun wa hd=>?_;have hS:iB w1 wa:=hd.below _;refine iq [0] hS ?_;refine ik 1 [6] (jZ N8 ei) hS ?_;refine iq [2,3,4] hS ?_;refine ik 5 [6] (jZ tZ c5) hS ?_;refine iI 6 ?_;refine iA ?_;refine iO ?_;refine im ?_
 by_cases F_:b.index=s.n
 case neg=>
  refine gY ?_;refine WC.qg rfl F_ ?_;refine gY ?_;exact g_ (bad hS (by unfold kV;rw[if_pos F_]))
 case pos=>
 refine gY ?_;refine WC.pE rfl (fun q=>q F_) ?_;refine gY ?_;refine ig (h_.rangeAt (h_.below B1.blk hS N8)) sh ?_;have CU:=m6.below hb (b1.trans (hS.mono z1));refine i_ func53 (Ok (m6.isB CU) lX.len) ?_;rintro wb bb
 have tK:=hS.iR bb
 by_cases Hs:oL b=0
 case neg=>
  have hr:kV s b=(oL b,s):=by unfold kV;rw[if_neg (fun q=>q F_),if_pos Hs]
  generalize oL b=cb at Hs hr;refine gY ?_;exact g_ (bad tK hr)
 case pos=>
 rw[Hs];obtain⟨jM,hi0,pY,qB⟩:=Nn Hs;obtain⟨bb0,bo,rfl,an0,hbE,ji⟩:=ji gZ;refine gY ?_;refine il func21 (CX ⟨_,_,_,_,_,_,_,_,h1.below tK⟩) ?_;rintro _ wc ⟨xb,Mx,rfl,hx,bc2,mx⟩;refine⟨_,rfl,?_⟩;have uJ:=tK.iR bc2;have zc:=uJ.size;have zb:=tK.size;have SU:kV s b=if(runR b b.iv 0 s).1=0 then(0,{ (runR b b.iv 0 s).2 with n:=s.n+1 }) else((runR b b.iv 0 s).1,s):=by
  unfold kV;rw[if_neg (fun q=>q F_),if_neg (fun q=>q Hs)]
 have hu0:EU s b.index 0:=fun r hr=>.inl (by have:=hI.2 r hr;omega);have eec:=(uJ.cell (p:=⟨g3,35,none⟩) N8).trans ee;refine iu ?_;refine WC.loop (fun i:Nat=>[(0,iF vb),(3,iF g3),(6,iF xb),(27,.slice (some ⟨bb0,bo,none⟩) b.iv.length cap),(28,Iq (b.iv.length:Nat)),(29,Iq i)])
  (fun i w'=>i <= b.iv.length /\ iB w1 w' /\ ∃si Mi Di,pD w' xb Mi Di f si (N+4*i) /\ Inv si /\ EU si b.index i /\ runR b b.iv 0 s=runR b (b.iv.drop i) i si /\ (∀x,Mi x -> w1.heap.size <= x) /\ ∀x,Di x -> D x \/ w1.heap.size <= x) (fun i=>b.iv.length - i) 0 iW
  ⟨aw _,uJ,s,Mx,D,hx,hI.1,hu0,rfl,fun x h=>by have:=mx x h;omega,fun x h=>.inl h⟩ ?_
 clear hx mx bc2 uJ tK bb CU hS zc zb eec;rintro i wl ⟨hi,bl,si,Mi,Di,Ic,hIi,hUi,kz,mi,di⟩;have zl:=bl.size
 by_cases r9:i<b.iv.length
 case pos=>
  have bwl:=b1.trans (bl.mono z1);have hbi:=m6.below hb bwl;rw[JB r9] at kz;obtain⟨ec,kU,u6,her⟩:=ji i r9;have Nh:=kU;have aoO:wl.rangeAt bb0 (bo+i*46) ec:=fun q u hu=>(bwl.cell (p:=⟨bb0,bo+i*46+q,none⟩) an0).trans (her q u hu);have ajm:=nN.mono (fun v cs hv=>hv.ij (ib.ic bwl) (fun x _ h=>h) (fun x h=>h)) u6;refine gY ?_;refine iG i (bo+i*46) r9 ?_;refine ig aoO Nh ?_;refine ix (z:=.agg (iU jo iy).toArray) (fun _=>by kernel_rfl) fun g8 w2 f2=>?_;refine gY ?_;refine ir (hm:=Nh) f2.blk ajm.one ?_;obtain⟨v8,b8,-,-⟩:=mh ec (Below.refl wl.heap.size wl) f2;generalize w2.setRow g8 _=w3 at v8 b8 ⊢;clear f2;have bl8:=bl.trans (b8.mono zl);have z8:=bl8.size;have hx8:=Ic.below b8;have apn:=m6.below hbi b8;have aow:=nN.mono (fun v cs hv=>hv.ij (ib.ic b8) (fun x _ h=>h) (fun x h=>h)) ajm;refine gY ?_;refine ig (h_.rangeAt v8) Nh ?_;refine ig (h_.rangeAt (h_.below B1.blk bl8 N8)) sh ?_;refine gY ?_;refine i_ func54 (PY hx8 gZ hIi apn i gZ hUi (fun x hx hm=>by have:=VU x hx;have:=mi x hm;omega) aow (jM _ (by rw[jW r9];exact aN r9)) (lX.sm i r9)) ?_;rintro w4 ⟨k4,Ww⟩
  have bl4:=((ib.ic bl8).trans (k4.mono fun x (hx:x<w1.heap.size)=>⟨gZ,fun hm=>by have:=mi x hm;omega⟩)).below;have hinv:=Mg (pO:=b.time) hIi hUi (jM (b.iv.getD i jo) (by rw[jW r9];exact aN r9));generalize entR si (b.iv.getD i jo) b.index i b.time=er at kz Ww hinv;obtain⟨ec2,es⟩:=er;simp only at kz Ww hinv
  by_cases Dm:ec2=0
  case pos=>
   rw[if_pos Dm] at kz;obtain⟨M2,D2,h2,m2,d2⟩:=Ww Dm;obtain⟨hI2,hU2⟩:=hinv Dm;refine gY ?_;exact WQ.again (i+1) iW ⟨r9,bl4,es,M2,D2,h2,hI2,hU2,kz,fun x hx=>(m2 x hx).elim (mi x) (fun h=>by omega),fun x hx=>(d2 x hx).elim (di x) (fun h=>.inr gZ)⟩ gZ
  case neg=>
   rw[if_neg Dm] at kz;refine gY ?_;exact g_ (bad bl4 (by rw[SU,kz,if_neg Dm]))
 case neg=>
  obtain rfl:i=b.iv.length:=gZ;rw[dt] at kz;have ve:runR b b.iv 0 s=(0,si):=kz;rw[SU,ve,if_pos rfl];obtain⟨IQ,Ox,mrx,mdx,mpx,mnx,kx,Fx,hX⟩:=Ic;have cx5:=hX.pM.cell 5 iz;simp only[ax,al] at cx5;have hnN:=hX.ok;have Li:=Xn ve;refine iu ?_;refine iD cx5 (h_.free hX.pM 5) ?_;have vx:=hX.pM.set 5 (Iq ((si.n:Int)+1));have UT:ib (fun x=>x≠xb) wl (wl.setCell ⟨xb,5,none⟩ (Iq ((si.n:Int)+1))):=(ib.refl _ _).setCell iz _;generalize wl.setCell ⟨xb,5,none⟩ (Iq ((si.n:Int)+1))=wm at vx UT ⊢;change h_ XS wm xb [iF IQ,.map (some mrx),.map (some mdx),.map (some mpx),.map (some mnx),Iq ((si.n:Int)+1)] at vx;refine gY ?_;refine ig (h_.rangeAt vx) rfl ?_;have DU:=mi xb hX.tG;have vvb:=(h_.below h1.pM bl tZ).ij UT (show vb≠xb by omega);have lx:kj [Value.pointer (some ⟨IQ,0,none⟩),.map (some mrx),.map (some mdx),.map (some mpx),.map (some mnx),.int .i64 ((si.n:Int)+1)]:=fun u hu=>by
   simp at hu
   rcases hu with rfl|rfl|rfl|rfl|rfl|rfl<;>rfl
  refine gY ?_;refine WL.nQ rfl rfl rfl rfl rfl rfl vvb rfl rfl lx ?_;have vf:=vvb.setRow [Value.pointer (some ⟨IQ,0,none⟩),.map (some mrx),.map (some mdx),.map (some mpx),.map (some mnx),.int .i64 ((si.n:Int)+1)];have kf:ib (fun x=>x≠xb /\ x≠vb) wl (wm.setRow vb [Value.pointer (some ⟨IQ,0,none⟩),.map (some mrx),.map (some mdx),.map (some mpx),.map (some mnx),.int .i64 ((si.n:Int)+1)].toArray):=Cr.kC (UT.mono fun x hx=>hx.1) (fun hh=>hh.2 rfl) _;generalize wm.setRow vb _=wf at vf kf ⊢;refine gY ?_;have hV:PV wf vb (fun x=>x=vb \/ Mi x) Di f { si with n:=si.n+1 } IQ Ox mrx mdx mpx mnx kx (N+4*b.iv.length+1) Fx :=
   hX.TC (by rw[show(((si.n+1:Nat)):Int)=(si.n:Int)+1 by omega];exact vf) kf (fun x hx e=>by have:=mi x hx;omega) (fun x hx e=>(di x hx).elim (fun hd=>h.sep vb h.tG (e ▸ hd)) (fun hd=>by omega)) gZ ⟨gZ,gZ,gZ⟩
  rw[<- Li];exact g_ ⟨_,Di,rfl,⟨_,_,_,_,_,_,_,_,hV⟩,((ib.ic (b1.trans (bl.mono z1))).mono fun x hx=>hx.1).trans (kf.mono fun x hx=>⟨fun e=>by omega,fun e=>hx.2 (e ▸ h.tG)⟩),fun x hx=>hx.elim (fun e=>.inl (e ▸ h.tG)) (fun hm=>.inr (by have:=mi x hm;omega)),fun x hx=>(di x hx).imp id fun hh=>by omega⟩
end Vw
namespace Ix
open K
open Cat (r6 lT ln Tb iX ju ub)
open Vw (Rw jf lC p8 mw jQ jO lF mh zQ pD qv Inv CL iQ rX vY Gl wX CX kV vu lR rE KJ Xx kQ)
abbrev zr:Nat:=76
abbrev arI:Nat:=72
def alM (w:World) (sb mb n:Nat) (S:Nat -> Prop) (s':Vw.St) (e:Ending) (w':World):Prop :=
 e=.returned (.tuple #[]) /\ ∃n' S' X',oA w' sb mb n' S' X' (gS s') /\ (∀x,(X' x).isSome=Cat.has s'.cat x.1 x.2) /\ n' <= n+1024 /\ (∀b,S' b -> S b \/ w.heap.size <= b) /\ ib (fun b=>b<w.heap.size /\ ¬S b) w w'
theorem WK {s:Vw.St}(h:pD w vb M D f s N) {k:Int × Int}(e:atR s a=some k): jX k.1 /\ jX k.2:=by
 unfold atR at e;cases hq:s.rows.find? fun r=>decide (r.lG=a) with
 | none=>rw[hq] at e;cases e
 | some r=>
  rw[hq] at e;cases e
  obtain⟨h1,-⟩:=OS h (ef hq);exact⟨h1.lj,h1.doc⟩
theorem JD {tm:Nat}{l:List (Int × Int)}(h:MF prog wL lR w tm i (wZ l)) (hi:i<maxLen) (h1:jX a.1) (h2:jX a.2):
  ∃w',(Instr.mapUpdate arI (.map (some tm)) (lR a) (.bool true)).run prog w=.ok () w' /\ MF prog wL lR w' tm (i+1) (wZ (l++[a])) /\ ib (fun b=>b≠tm) w w':=by
 obtain⟨kl,hk⟩:=On h1 h2;obtain⟨w',q1,q2,q3⟩:=h.put rE Kw underlying72 hi (.bool true) hk;exact⟨w',q1,q2.congr fun x=>Yg l a x,q3⟩
theorem PE {k:Nat}{s:Vw.St}(h0:pD w vb M D (k+2) s N) (hI:CL s) (hd:sw s) {sb mb n:Nat}{S:Nat -> Prop}{X:yA}(h1:oA w sb mb n S X (gS s)) (hX:∀x,(X x).isSome=Cat.has s.cat x.1 x.2) (hn:n <= 1000000000) (hSM:∀b,S b -> ¬(M b \/ D b)) (hE:∀x,E x -> x<w.heap.size) {b:Bk}(hb:m6 E (k+2) w b bc) (lX:KJ (k+2) b) (hN:N+4*b.iv.length+4 <= 100000) (kK:(kV s b).1=0) (IN:∀e∈b.iv,Rg e.data):
  Calls prog 8 #[iF sb,iF vb,.agg bc.toArray] w (alM w sb mb n S (kV s b).2):=by
 have sh:=hb.len;have Ux:=hb.one;have bq:=hb;obtain⟨se,rfl,mH,mN,uK,Vi,XQ,-⟩:=bq;have PU:=vu hI b;have HU:=FU hd kK IN;have hER:∀e∈b.iv,jX e.table /\ jX e.doc:=fun e he=>by
  obtain⟨sp,cap,-,-,-,-,hr⟩:=mH;obtain⟨i,hi,rfl⟩:=bn he;obtain⟨bE,oE,-,-,-,hr⟩:=hr gZ;obtain⟨ec,-,⟨dc,-,-,-,-,-,-,-,re⟩,-⟩:=hr i hi;rw[Vw.jW hi] at re;exact⟨re.2.1,re.2.2.1⟩
 have pG:∀t n,(t,n) ∉ Ar (kV s b).2 b.iv -> Vw.Gn (kV s b).2 t=Vw.Gn s t -> kq (kV s b).2 t n=kq s t n:=fun t n h1 h2=>N5 kK PU.1 h1 h2;refine iY (args:=[iF sb,iF vb,.agg (oH b se).toArray]) func8 ntmps8 ?_;refine ku ?_;refine iC fun g5 w1 f1=>?_;have v5:h_ 34 w1 g5 (oH b se):=f1.blk;have b1:=f1.below;have z1:=f1.size;have e5:=f1.eq;clear f1;refine gY ?_;refine jc ?_;refine gY ?_;refine jc ?_;refine gY ?_;refine il func21 (CX (h0.below b1)) ?_;rintro _ w2 ⟨nb,M2,rfl,h2,b2,N3⟩;refine⟨_,rfl,?_⟩;have A4:=b1.iR b2;have v5b:=h_.below v5 b2 (h_.lt v5);have zb2:=b2.size;refine gY ?_;refine ig (h_.rangeAt v5b) sh ?_;refine il func22 (wX h2 hI (fun x hx=>ak (hE x hx) A4.size) (Vw.m6.below hb A4) lX gZ) ?_;rintro _ w3 ⟨M3,D3,rfl,h3,k3,zG,hD3⟩;refine⟨_,rfl,?_⟩;rw[kK];generalize (kV s b).2=s' at *;have zb3:=k3.size;have Lk:=((ib.ic A4).trans (k3.mono fun x (hx:x<w.heap.size)=>⟨gZ,fun hm=>by have:=N3 x hm;omega⟩)).below;have v5c:=h_.ij v5b k3 ⟨h_.lt v5b,fun hm=>by have:=N3 _ hm;omega⟩;replace v5c:lM 34 g5 w3 b se:=⟨v5c,mN⟩;have l5:=h_.lt v5c.blk;have c5:=v5c.iv;obtain⟨spe,cpe,rfl,TJ,Nh,-⟩:=id mH;have hbe:=lX.iv;have hN3:N+4*b.iv.length+1 <= 100000:=gZ;clear h2 k3 b2 v5 v5b A4;refine gY ?_;refine WL.mkMap rfl rfl rfl rfl ?_;have t4:MF prog wL lR (w3.alloc (.map #[] 0)) w3.heap.size 0 (fun _=>none):=MF.made _ _ _ _;have b4:iB w3 (w3.alloc (.map #[] 0)):=(Below.refl _ w3).alloc (af _) _;have z4:(w3.alloc (.map #[] 0)).heap.size=w3.heap.size+1:=iz;obtain⟨tm,htm⟩:∃tm,tm=w3.heap.size:=⟨_,rfl⟩;rw[<- htm] at t4;rw[show w3.heap.size=tm from htm.symm];generalize w3.alloc (.map #[] 0)=w4 at t4 b4 z4 ⊢;have Cf:=Lk.iR b4;have h4:=h3.below b4;have c5':=(b4.cell (p:=⟨g5,35,none⟩) l5).trans c5;have awh:=Lk.size;refine iu ?_;refine WC.loop (fun i:Nat=>[(0,iF sb),(1,iF vb),(6,iF nb),(7,.map (some tm)),(38,.slice spe b.iv.length cpe),(39,Iq (b.iv.length:Nat)),(40,Iq i)])
  (fun i w'=>i <= b.iv.length /\ ib (fun x=>x<w4.heap.size /\ x≠tm) w4 w' /\ MF prog wL lR w' tm i (wZ (Ar s' (b.iv.take i)))) (fun i=>b.iv.length - i) 0 iW
  ⟨aw _,ib.refl _ _,t4.congr fun x=>rfl⟩ ?_
 clear t4 c5' c5 v5c;rintro i w5 ⟨r9,k5,t5⟩;have z5:=k5.size;have hpv:∀x,M3 x \/ D3 x -> x<w4.heap.size /\ x≠tm:=fun x hx=>by have:=h3.lt x hx;omega
 by_cases u_:i<b.iv.length
 case pos=>
  have KB:=Cf.trans (k5.mono fun x (hx:x<w.heap.size)=>⟨gZ,gZ⟩:ib (fun x=>x<w.heap.size) w4 w5).below;obtain⟨bE,oE,ec,rfl,lE,u6,j6⟩:∃bE oE ec,spe=some ⟨bE,oE,none⟩ /\ bE<w.heap.size /\ nN (jE E (k+2) w) (b.iv.getD i jo) ec /\ w.rangeAt bE (oE+i*46) ec:=by
   obtain⟨sp,cap,e,-,-,-,hr⟩:=mH;obtain⟨bE,oE,rfl,lE,-,hr⟩:=hr gZ;obtain⟨ec,-,u6,j6⟩:=hr i u_;obtain⟨rfl,rfl⟩:spe=some ⟨bE,oE,none⟩ /\ cpe=cap:=by simpa using e
   exact⟨bE,oE,ec,rfl,lE,u6,j6⟩
  have wo:=YJ (s:=s') u_;obtain⟨dc,rfl,-,j7,wE,tg,-,-,re⟩:=u6;replace j6:w5.rangeAt bE (oE+i*46) _:=fun q u hu=>(KB.cell (p:=⟨bE,oE+i*46+q,none⟩) lE).trans (j6 q u hu);generalize b.iv.getD i jo=e at *;have Dm:(iU e dc).length=46:=by simp[iU,j7,tg]
  have lx:kj (iU e dc):=by
   intro u hu;unfold iU at hu;simp only[ar,aq,aR,dG] at hu;rcases hu with rfl|rfl|rfl|rfl|rfl|hu|hu|rfl|rfl|rfl
   all_goals first|rfl|exact wE u hu|(obtain⟨x,-,rfl⟩:=bg.1 hu;rfl)
  refine gY ?_;refine iG i (oE+i*46) u_ ?_;refine ig j6 Dm ?_;refine ix (z:=.agg (iU jo iy).toArray) (fun _=>by kernel_rfl) fun g9 w6 f6=>?_;refine ir (hm:=Dm) f6.blk lx ?_;obtain⟨v9,b9,-,-⟩:=mh (iU e dc) (Below.refl w5.heap.size w5) f6;generalize w6.setRow g9 _=w7 at v9 b9 ⊢;clear f6;replace v9:jT zr g9 w7 e dc:=⟨v9,j7,tg⟩;have k7:=k5.trans ((ib.ic b9).mono fun x hx=>by omega);have t7:=t5.iP (b9.block tm t5.lt);have ck:=v9.kind;have ct:=v9.table;have cd:=v9.doc;have Td:i<maxLen:=by unfold maxLen;omega
  have XG:∀ {a:Int × Int}{wx:World},Ax s' e=some a -> MF prog wL lR wx tm (i+1) (wZ (Ar s' (b.iv.take i)++[a])) -> MF prog wL lR wx tm (i+1) (wZ (Ar s' (b.iv.take (i+1)))):=fun h1 h2=>by rw[wo,h1];exact h2
  have mC:∀ {wx:World},Ax s' e=none -> MF prog wL lR wx tm i (wZ (Ar s' (b.iv.take i))) -> MF prog wL lR wx tm (i+1) (wZ (Ar s' (b.iv.take (i+1)))):=fun h1 h2=>by rw[wo,h1];simpa using h2.mono (bJ i)
  by_cases e2:e.kind=2
  ·refine iu ?_
   obtain⟨w8,q1,q2,q3⟩:=JD t7 Td (a:=(e.table,e.doc)) re.2.1 re.2.2.1;have k8:=k7.trans (q3.mono fun x hx=>hx.2);refine iE [Value.int .i64 e.table,Iq e.doc] (by kernel_rfl) ?_;refine WL.kv rfl rfl rfl rfl rfl rfl q1 ?_;refine gY ?_;exact WQ.again (i+1) iW ⟨u_,k8,XG (by unfold Ax;rw[if_pos (.inl e2)]) q2⟩ (by show b.iv.length - (i+1)<b.iv.length - i;omega)
  ·by_cases e3:e.kind=3
   ·refine iu ?_
    obtain⟨w8,q1,q2,q3⟩:=JD t7 Td (a:=(e.table,e.doc)) re.2.1 re.2.2.1;have k8:=k7.trans (q3.mono fun x hx=>hx.2);refine iE [Value.int .i64 e.table,Iq e.doc] (by kernel_rfl) ?_;refine WL.kv rfl rfl rfl rfl rfl rfl q1 ?_;refine gY ?_;exact WQ.again (i+1) iW ⟨u_,k8,XG (by unfold Ax;rw[if_pos (.inr e3)]) q2⟩ (by show b.iv.length - (i+1)<b.iv.length - i;omega)
   ·by_cases e4:e.kind=4
    ·have Gs:Ax s' e=atR s' (e.ab,e.ae):=by unfold Ax;rw[if_neg gZ,if_pos e4]
     have Lh:=v9.yV;have h7:=h3.ij ((ib.ic b4).trans (k7.mono fun x (hx:x<w3.heap.size)=>⟨gZ,gZ⟩)) fun x hx=>h3.lt x hx;have z7:=k7.size;refine iu ?_;refine ig (m:=2) Lh rfl ?_;refine i_ func23 (abY h7 hN3 PU.1 (e.ab,e.ae)) ?_;rintro w8 b8
     have k8:=k7.trans ((ib.ic b8).mono fun x hx=>by omega);have t8:=t7.iP (b8.block tm t7.lt);cases hq:atR s' (e.ab,e.ae) with
     | none=>
      unfold atV;refine gY ?_;refine ix (z:=.agg #[Iq 0,Iq 0]) (fun _=>by kernel_rfl) fun ga wa fa=>?_;refine WL.nQ rfl rfl rfl rfl rfl rfl (show h_ wL wa ga [Iq 0,Iq 0] from fa.blk) rfl rfl (by intro u hu;simp at hu;rw[hu];rfl) ?_;have ba:iB w8 (wa.setRow ga [Value.int .i64 0,Iq 0].toArray):=below_setRow fa.below (by rw[fa.eq];exact af _) _;clear fa;generalize wa.setRow ga _=wx at ba ⊢;have z8:=k8.size;refine gY ?_;exact WQ.again (i+1) iW ⟨u_,k8.trans ((ib.ic ba).mono fun x hx=>by omega),mC (Gs.trans hq) (t8.iP (ba.block tm t8.lt))⟩ (by show b.iv.length - (i+1)<b.iv.length - i;omega)
     | some a=>
      obtain⟨r1,r2⟩:=WK h7 hq;unfold atV;refine gY ?_;refine ix (z:=.agg #[Iq 0,Iq 0]) (fun _=>by kernel_rfl) fun ga wa fa=>?_;have va:h_ wL wa ga [Iq 0,Iq 0]:=fa.blk;refine ir va (show kj [Value.int .i64 a.1,Iq a.2] from by intro u hu;simp at hu;rcases hu with rfl|rfl<;>rfl) ?_;have va':=h_.setRow va [Iq a.1,Iq a.2];have ba:iB w8 (wa.setRow ga [Value.int .i64 a.1,Iq a.2].toArray):=below_setRow fa.below (by rw[fa.eq];exact af _) _;clear fa va;generalize wa.setRow ga _=wx at ba va' ⊢;have z8:=k8.size;obtain⟨w9,q1,q2,q3⟩:=JD (t8.iP (ba.block tm t8.lt)) Td (a:=a) r1 r2;refine gY ?_;refine ig (m:=2) (h_.rangeAt va') rfl ?_;refine WL.kv rfl rfl rfl rfl rfl rfl q1 ?_;refine gY ?_;exact WQ.again (i+1) iW ⟨u_,(k8.trans ((ib.ic ba).mono fun x hx=>by omega)).trans (q3.mono fun x hx=>hx.2),XG (Gs.trans hq) q2⟩ (by show b.iv.length - (i+1)<b.iv.length - i;omega)
    ·have Gs:Ax s' e=none:=by unfold Ax;rw[if_neg gZ,if_neg e4]
     refine iu ?_;exact WQ.again (i+1) iW ⟨u_,k7,mC Gs t7⟩ (by show b.iv.length - (i+1)<b.iv.length - i;omega)
 case neg=>
 obtain rfl:i=b.iv.length:=gZ;rw[aI] at t5;have hT:∀x∈Ar s' b.iv,jX x.1 /\ jX x.2:=fun x hx=>by
  obtain⟨e,he,hq⟩:=List.mem_filterMap.1 hx;have:=hER e he
  split at hq
  ·cases hq;exact this
  ·split at hq
   ·exact WK h3 hq
   ·cases hq
 have hTn:b.iv.length<maxLen:=by unfold maxLen;omega
 have k05:=(ib.ic Cf).trans (k5.mono fun x (hx:x<w.heap.size)=>⟨gZ,gZ⟩);have h5:=h0.ij k05 h0.lt;have Q1:=h3.ij ((ib.ic b4).trans (k5.mono fun x (hx:x<w3.heap.size)=>⟨gZ,gZ⟩)) h3.lt;have amv:∀x,M3 x \/ D3 x -> (M x \/ D x) \/ w.heap.size <= x:=fun x hx=>by
  rcases hx with hx|hx
  ·rcases zG x hx with h|h
   ·exact .inr (by have:=N3 x h;have:=b1.size;omega)
   ·exact .inr gZ
  ·rcases hD3 x hx with h|h
   ·exact .inl (.inr h)
   ·exact .inr gZ
 have s5:=h1.ij k05 h1.nB.lt;have aov:∀x,S x -> x≠tm:=fun x hx=>by have:=h1.nB.lt x hx;omega
 have hNs:s.rows.length <= 1000000:=by obtain⟨_,_,_,_,_,_,_,_,hp⟩:=h0;have:=hp.ok;omega
 have awg:s'.rows.length <= 1000000:=by obtain⟨_,_,_,_,_,_,_,_,hp⟩:=h3;have:=hp.ok;omega
 have hG':Cat.Good s'.cat:=by obtain⟨_,_,_,_,_,_,_,_,hp⟩:=h3;obtain⟨_,_,_,-,-,-,-,-,-,-,hg⟩:=hp.cat;exact hg
 have hG:Cat.Good s.cat:=by obtain⟨_,_,_,_,_,_,_,_,hp⟩:=h0;obtain⟨_,_,_,-,-,-,-,-,-,-,hg⟩:=hp.cat;exact hg
 clear h3 h0 N3 zG hD3 Cf b4 Lk k5 z4 hpv mH hER hb lX h4;generalize htT:Ar s' b.iv=T at *;have Ce:=s5.blk.cell 0 iz;simp only[al] at Ce;have lsb:=h_.lt s5.blk;have lS5:=s5.nB.lt;have lw5:=k05.size;refine iu ?_;refine WL.Xp underlying81 Bc rfl rfl rfl rfl rfl s5.map ?_;rintro rr w6 ⟨aaC,c0,hR0,BY⟩ DH b6 z6;have h6:=h5.below b6;have hn6:=Q1.below b6;have t6:=t5.iP (b6.block tm t5.lt);have s6:=s5.below b6;have EG:∀x,Cat.has s.cat x.1 x.2=true -> ∃kl,keyOf prog Cj (Cat.mk x)=some kl:=fun x hx=>by
  obtain⟨q1,q2,q3⟩:=AA.1 hx;refine UN ⟨Vw.zW ⟨gZ,by have:=hG.len;omega⟩,?_⟩;have:=(hG.each (x.1 - 1).toNat gZ).2.2.1 x.2 q3;unfold maxLen;omega
 have Ia:∀x,M3 x \/ D3 x -> x<w6.heap.size /\ ¬S x /\ x≠rr:=fun x hx=>by
  have q1:=Q1.lt x hx;refine⟨gZ,fun hs=>?_,gZ⟩;rcases amv x hx with q|q
  ·exact hSM x hs q
  ·have:=h1.nB.lt x hs;omega
 have h5l:∀x,M x \/ D x -> x<w6.heap.size /\ ¬S x /\ x≠rr:=fun x hx=>by
  have q1:=h5.lt x hx;exact⟨gZ,fun hs=>hSM x hs hx,gZ⟩
 have html:tm<w6.heap.size /\ ¬S tm /\ tm≠rr:=by
  have:=t5.lt;exact⟨gZ,fun hs=>aov _ hs rfl,gZ⟩
 have aqK:¬S rr:=fun hs=>by have:=lS5 rr hs;omega
 have k06:=k05.trans ((ib.ic b6).mono fun x (hx:x<w.heap.size)=>by show x<w5.heap.size;omega);clear h5 Q1 t5 s5 k05 Ce;refine gY ?_;refine WC.loop (fun _:Nat=>[(0,iF sb),(1,iF vb),(6,iF nb),(7,.map (some tm)),(72,iF rr)])
  (fun c w'=>ib (fun x=>x<w6.heap.size /\ ¬S x /\ x≠rr) w6 w' /\ ∃S' X' left,MR prog Cj Cat.mk w' mb rr n (xX X') left c /\ vI w' mb S' X' (fun x=>if left x=true then kq s x.1 else kq s' x.1) /\
   (∀x,(X' x).isSome=true ↔ Cat.has s.cat x.1 x.2=true /\ (left x=true \/ Cat.has s'.cat x.1 x.2=true)) /\ h_ WN w' sb [.map (some mb)] /\ (∀x t,X' x=some t -> ¬t.own sb) /\ S' sb /\ ∀x,S' x -> S x \/ w6.heap.size <= x)
  (fun c=>c) c0 iW
  ⟨ib.refl _ _,S,X,aaC,hR0,⟨fun x t e=>?_,s6.nB.own,s6.nB.oV,s6.nB.mS,s6.nB.out,s6.nB.lt⟩,fun x=>?_,s6.blk,s6.out,s6.sS,fun _ h=>.inl h⟩ ?_
 ·obtain⟨q1,q2⟩:=s6.nB.is x t e
  obtain⟨kl,hk⟩:=EG x (by rw[<- hX,e];rfl);have hl:aaC x=true:=by rw[BY x kl hk];unfold xX;rw[e];rfl
  refine⟨q1,?_⟩;simp only[hl,if_true];exact q2
 ·rw[hX]
  constructor
  ·intro h
   obtain⟨kl,hk⟩:=EG x h;exact⟨h,.inl (by rw[BY x kl hk];unfold xX;rw[Option.isSome_map,hX];exact h)⟩
  ·exact fun h=>h.1
 clear hR0 BY s6;rintro c w7 ⟨k7,S7,X7,left,hR,sJ,Rs,v7,Jm,ZO,q_⟩;have z7:=k7.size;refine gY ?_;refine WL.aaB Bc Cat.mk_inj ak5 rfl rfl rfl rfl rfl hR (fun j8=>?_) ?_
 ·have s7:oA w7 sb mb n S7 X7 (gS s'):=⟨v7,hR.mf,⟨fun y u e=>⟨(sJ.is y u e).1,(sJ.is y u e).2.congr fun m=>by
   obtain⟨kl,hk⟩:=EG y ((Rs y).1 (by rw[e];rfl)).1;simp only[j8 y kl hk]
   rfl⟩,sJ.own,sJ.oV,sJ.mS,sJ.out,sJ.lt⟩,ZO,Jm⟩
  have hX7:∀y,(X7 y).isSome=true ↔ (Cat.has s.cat y.1 y.2=true /\ Cat.has s'.cat y.1 y.2=true):=fun y=>by
   rw[Rs]
   constructor
   ·rintro⟨a1,a2⟩
    obtain⟨kl,hk⟩:=EG y a1;rw[j8 y kl hk] at a2;exact⟨a1,a2.resolve_left iz⟩
   ·rintro⟨a1,a2⟩
    exact⟨a1,.inr a2⟩
  have hn7:=hn6.ij k7 Ia;have aji:∀x,M3 x \/ D3 x -> x≠mb:=fun x hx e=>(Ia x hx).2.1 (e ▸ h1.nB.mS);have k07:ib (fun x=>x<w.heap.size /\ ¬S x) w w7:=(k06.mono fun x hx=>hx.1).trans (k7.mono fun x hx=>⟨by have:=k06.size;omega,hx.2,gZ⟩);have rP:∀y,S7 y -> S y \/ w.heap.size <= y:=fun y hy=>(q_ y hy).imp id fun h=>by have:=k06.size;omega
  have avV:=h1.nB.lt _ h1.nB.mS;have awk:=s7.nB.lt _ s7.nB.mS;clear hR sJ Rs v7 Jm ZO k7 hn6 h6 t6 j8 k06;obtain⟨cp,Oc,mr,md,mp,mn,kc,F,hp⟩:=id hn7;refine gY ?_;refine i_ func24 (rX hp) ?_;rintro _ rfl
  refine il func28 (ub hp.cat) ?_;rintro _ w8 ⟨sp,cap,rfl,hTa,b8⟩;refine⟨_,rfl,?_⟩;clear hp;have hn8:=hn7.below b8;have s8:=s7.below b8;have z8:=b8.size;have hlen:=hG'.len;have aiA:=hn7.lt;clear hn7 s7;refine gY ?_;refine WC.loop (fun i:Nat=>[(0,iF sb),(6,iF nb),(140,.slice sp s'.cat.length cap),(141,Iq (s'.cat.length:Nat)),(142,Iq i)])
   (fun i w'=>i <= s'.cat.length /\ ib (fun y=>y<w8.heap.size /\ y≠mb) w8 w' /\ ∃n' S' X',oA w' sb mb n' S' X' (gS s') /\ (∀x,(X' x).isSome=true ↔ (Cat.has s.cat x.1 x.2=true /\ Cat.has s'.cat x.1 x.2=true) \/ AQ s'.cat i 0 x) /\ n' <= n+16*i /\ ∀y,S' y -> S7 y \/ w8.heap.size <= y)
   (fun i=>s'.cat.length - i) 0 iW
   ⟨aw _,ib.refl _ _,n,S7,X7,s8,fun x=>(hX7 x).trans ⟨.inl,fun h=>h.resolve_right (Jt x)⟩,gZ,fun y h=>.inl h⟩ ?_
  clear s8;rintro i w9 ⟨r9,k9,n9,S9,X9,s9,hX9,hn9,hS9⟩;have z9:=k9.size
  by_cases O_:i<s'.cat.length
  case neg=>
   obtain rfl:i=s'.cat.length:=gZ;refine gY ?_;refine WQ.EE rfl ⟨rfl,n9,S9,X9,s9,fun x=>?_,gZ,fun y hy=>?_,(k07.trans ((ib.ic b8).mono fun y hy=>by have:=k07.size;omega)).trans (k9.mono fun y hy=>⟨by have:=k07.size;omega,fun e=>hy.2 (e ▸ h1.nB.mS)⟩)⟩
   ·rw[fq,hX9,MY]
    exact⟨fun h=>h.elim (fun q=>q.2) id,.inr⟩
   ·rcases hS9 y hy with q|q
    ·exact rP y q
    ·exact .inr (by have:=k07.size;omega)
  case pos=>
  obtain⟨gt,LS,LM,cf,es,lg,og,j6,rN⟩:=It hTa O_;obtain⟨rfl,rfl⟩:sp=some ⟨gt,0,none⟩ /\ cap=LS:=by simpa using es
  clear es;have so:=(hG'.each i O_).2.1;have jU:=fun j=>KP (j:=j) hG' O_;replace j6:w9.rangeAt gt (0+i*4) _:=fun j v hv=>by rw[k9.cell (p:=⟨gt,0+i*4+j,none⟩) ⟨lg,by show gt≠mb;omega⟩];exact j6 j v hv
  replace rN:=rN.ij k9 (fun b hb=>by have h1:=rN.lt hb;have h2:=rN.own hb;exact⟨h1,gZ⟩);have sD:=fun j=>JF (L:=s'.cat) (i:=i) (j:=j) O_;have ji:=ML (L:=s'.cat) (i:=i);refine gY ?_;refine iG i (0+i*4) O_ ?_;refine ig j6 rfl ?_;refine ix (z:=.agg #[Iq 0,.string ByteArray.empty,.bool false,.slice none 0 0]) (fun _=>by kernel_rfl) fun g20 wa fa=>?_;have b5:=fa.below;have z5:=fa.eq;have v5:h_ tbT wa g20 [Iq 0,.string ByteArray.empty,.bool false,.slice none 0 0]:=fa.blk;clear fa;refine WL.nQ rfl rfl rfl rfl rfl rfl v5 rfl rfl (by intro u hu;simp at hu;rcases hu with rfl|rfl|rfl|rfl<;>rfl) ?_;have xq:=h_.setRow v5 [Iq ((i:Int)+1),.string (s'.cat.getD i iX).name,.bool (s'.cat.getD i iX).dropped,.slice LM (s'.cat.getD i iX).fs.length cf];have zZ:iB w9 (wa.setRow g20 [Iq ((i:Int)+1),.string (s'.cat.getD i iX).name,.bool (s'.cat.getD i iX).dropped,.slice LM (s'.cat.getD i iX).fs.length cf].toArray):=below_setRow b5 gZ _;generalize wa.setRow g20 _=qZ at xq zZ ⊢;clear v5 b5 j6;generalize (s'.cat.getD i iX).fs=fs at *;have z10:=zZ.size;have DN:=k9.trans ((ib.ic zZ).mono fun b hb=>by omega);have s10:=s9.below zZ;replace rN:=rN.ij (ib.ic zZ) (fun b hb=>rN.lt hb);have c5:=xq.cell 3 (by simp);simp only[al,ax] at c5;clear s9 zZ k9;refine iu ?_;refine WC.loop (fun j:Nat=>[(0,iF sb),(6,iF nb),(140,.slice (some ⟨gt,0,none⟩) s'.cat.length cap),(141,Iq (s'.cat.length:Nat)),(142,Iq i),(20,iF g20),(147,.slice LM fs.length cf),(148,Iq (fs.length:Nat)),(149,Iq j)])
   (fun j w'=>j <= fs.length /\ ib (fun y=>y<qZ.heap.size /\ y≠mb) qZ w' /\ ∃n' S' X',oA w' sb mb n' S' X' (gS s') /\ (∀x,(X' x).isSome=true ↔ (Cat.has s.cat x.1 x.2=true /\ Cat.has s'.cat x.1 x.2=true) \/ AQ s'.cat i j x) /\ n' <= n+(16*i+j) /\ ∀y,S' y -> S7 y \/ w8.heap.size <= y)
   (fun j=>fs.length - j) 0 iW
   ⟨aw _,ib.refl _ _,n9,S9,X9,s10,hX9,gZ,hS9⟩ ?_
  clear s10 c5 hX9 hn9 hS9;rintro j Tl ⟨Gg,LC,n11,S11,X11,s11,Xh,awm,aey⟩;have z11:=LC.size;have aqM:=DN.trans (LC.mono fun b hb=>⟨gZ,hb.2⟩)
  by_cases th:j<fs.length
  case neg=>
   obtain rfl:j=fs.length:=gZ;refine gY ?_;exact WQ.again (i+1) iW ⟨O_,aqM,n11,S11,X11,s11,fun x=>(Xh x).trans (or_congr Iff.rfl (ji x)),gZ,aey⟩ (by show s'.cat.length - (i+1)<s'.cat.length - i;omega)
  case pos=>
  obtain⟨gf,rfl,lf,of,Jy⟩:=ack rN th;have Oz:=jU j th;have acx:=sD j th;replace Jy:=(LC.cell (p:=⟨gf,j,none⟩) ⟨lf,by show gf≠mb;omega⟩).trans Jy;generalize fs.getD j ⟨#[]⟩=f at Jy Oz acx;replace xq:=h_.ij xq LC ⟨h_.lt xq,gZ⟩;have Ru:Tl.rangeAt gf (0+j*1) [.string f]:=fun q v hv=>by
   have:q<1:=(cB.1 hv).1;obtain rfl:q=0:=gZ;cases hv
   rw[show 0+j*1+0=j by omega];exact Jy
  refine gY ?_;refine iG j (0+j*1) th ?_;refine ig Ru rfl ?_;refine ix (z:=.agg #[.string ByteArray.empty]) (fun _=>by kernel_rfl) fun g22 wa fa=>?_;have va:h_ ixT wa g22 [.string ByteArray.empty]:=fa.blk;have ea:=fa.eq;have ba:=fa.below;clear fa;refine WL.nQ rfl rfl rfl rfl rfl rfl va rfl rfl (by intro u hu;simp at hu;rw[hu];rfl) ?_;have TK:=h_.setRow va [.string f];have zN:iB Tl (wa.setRow g22 [Value.string f].toArray):=below_setRow ba gZ _;generalize wa.setRow g22 _=UG at TK zN ⊢;clear va ba Ru Jy;have Ce:=(s11.below zN).blk.cell 0 iz;have c20:=(h_.below xq zN (h_.lt xq)).cell 0 iz;have c22:=TK.cell 0 iz;simp only[al] at Ce c20 c22;refine iu ?_;refine WL.aih underlying81 rfl rfl rfl rfl rfl ?_;refine iu ?_;refine iE [Value.int .i64 ((i:Int)+1),.string f] (by kernel_rfl) ?_;refine ix (z:=.agg #[Iq 0,.string ByteArray.empty]) (fun _=>by kernel_rfl) fun g23 wa fa=>?_;have va:h_ Cj wa g23 [Iq 0,.string ByteArray.empty]:=fa.blk;have ea:=fa.eq;have ba:=fa.below;clear fa;refine ir va (show kj [Value.int .i64 ((i:Int)+1),.string f] from by intro u hu;simp at hu;rcases hu with rfl|rfl<;>rfl) ?_;have v23:=h_.setRow va [Iq ((i:Int)+1),.string f];have wj:iB UG (wa.setRow g23 [Value.int .i64 ((i:Int)+1),.string f].toArray):=below_setRow ba gZ _;generalize wa.setRow g23 _=Jv at v23 wj ⊢;clear va ba Ce c20 c22;have Od:=zN.iR wj;have Yi:=s11.below Od;have v20:=h_.below xq Od (h_.lt xq);replace TK:=h_.below TK wj (h_.lt TK);have Ce:=Yi.blk.cell 0 iz;have c20:=v20.cell 0 iz;have c22:=TK.cell 0 iz;simp only[al] at Ce c20 c22;have lsb:=h_.lt Yi.blk;have l20:=h_.lt v20;have l22:=h_.lt TK;have l23:=h_.lt v23;have z13:=Od.size;have Bn:=LC.trans ((ib.ic Od).mono fun b hb=>by omega);have anI:=(hn8.ij DN fun y hy=>⟨by have:=aiA y hy;omega,aji y hy⟩).ij Bn fun y hy=>⟨by have:=aiA y hy;omega,aji y hy⟩;have ajM:=fun {wx:World}(hx:iB Jv wx)=>(Yi.below hx).look Oz;clear xq zN wj s11 LC;refine gY ?_;refine WC.drawn 6 (iB Jv) fun wb jh=>?_;have hS:iB Jv wb:=jh.below _;clear jh;refine iq [0,1,2] hS ?_;refine ik 3 [5,6] (jZ lsb Ce) hS ?_;refine jG 4 [5,6] (fun wx hx=>h_.rangeAt (h_.below v23 hx l23)) hS ?_;refine WD.look 5 [6] rfl (by kernel_rfl) rfl rfl (fun _ _ _ _ _ h=>h) rfl rfl rfl rfl (fun wx hx=>ajM hx) hS ?_;refine iI 6 ?_;refine jc ?_;refine iO ?_;refine im ?_;cases hXk:X11 ((i:Int)+1,f) with
  | some u=>
   refine gY ?_;refine WQ.again (j+1) iW ⟨th,Bn.trans ((ib.ic hS).mono fun b hb=>by omega),n11,S11,X11,Yi.below hS,fun x=>?_,gZ,aey⟩ (by show fs.length - (j+1)<fs.length - j;omega);rw[Xh,acx]
   constructor
   ·rintro(h|h)
    ·exact .inl h
    ·exact .inr (.inl h)
   ·rintro(h|h|h)
    ·exact .inl h
    ·exact .inr h
    ·rw[h];exact(Xh _).1 (by rw[hXk];rfl)
  | none=>
   refine gY ?_;refine WC.drawn 12 (iB Jv) fun wc jh=>?_;have rP:=hS.trans (jh.below _);clear hS jh;have hS:=rP;clear rP;refine iq [0,1,2] hS ?_;refine ik 3 [12] (jZ lsb Ce) hS ?_;refine jG 4 [12] (fun wx hx=>h_.rangeAt (h_.below v23 hx l23)) hS ?_;refine iq [5,6] hS ?_;refine ik 7 [8,11,12] (jZ l20 c20) hS ?_;refine iq [9] hS ?_;refine ik 10 [11,12] (jZ l22 c22) hS ?_;refine iI 8 ?_;refine il func30 (vY (anI.below hS) (t:=(i:Int)+1) ⟨gZ,gZ⟩) ?_;rintro _ wd ⟨bd,vd,rfl,kU⟩;refine⟨_,rfl,?_⟩;have ph:=hS.iR bd;refine km ph ?_;refine iI 11 ?_;refine il func29 (Jo kU (QZ PU.1 HU gZ _) (by have:=Ng s' ((i:Int)+1);omega) f) ?_;rintro _ we ⟨tb,st,L,rfl,hTn,Uq,-,be,qT,Pz⟩;refine⟨_,rfl,?_⟩;have T0:=ph.iR be;refine km T0 ?_;refine iI 12 ?_;have zb:=ph.size;obtain⟨wf,kz,uL,kd⟩:=(Yi.below T0).add Oz (by unfold maxLen;omega) (t:=⟨tb,st,L⟩) hTn (Uq.congr fun m=>(Du PU.1 _ m).symm) (fun b hb hs=>by
    have:=Yi.nB.lt b hs;rcases hb with e|hb
    ·have e:b=tb:=e
     omega
    ·have:=Pz b hb
     omega)
   refine WL.kv rfl rfl rfl rfl rfl rfl kz ?_;refine iO ?_;refine im ?_;refine gY ?_;refine WQ.again (j+1) iW ⟨th,(Bn.trans ((ib.ic T0).mono fun b hb=>by omega)).trans (kd.mono fun b hb=>hb.2),n11+1,_,_,uL,fun x=>?_,gZ,fun b hb=>?_⟩ (by show fs.length - (j+1)<fs.length - j;omega)
   ·rw[acx]
    by_cases e:x=((i:Int)+1,f)
    ·simp[e]
    ·simp only[if_neg e,Xh]
     constructor
     ·rintro(h|h)
      ·exact .inl h
      ·exact .inr (.inl h)
     ·rintro(h|h|h)
      ·exact .inl h
      ·exact .inr h
      ·exact(e h).elim
   ·rcases hb with hb|e|hb
    ·exact aey b hb
    ·have e:b=tb:=e
     have:=DN.size;exact .inr gZ
    ·have:=Pz b hb
     have:=DN.size;exact .inr gZ
 rintro x v w8 c2 hlx hF ⟨kl,tc⟩ ⟨vQ,hR8,pY,qB⟩ iS k8 z8 Ya;obtain⟨t,Ci,rfl⟩:∃t,X7 x=some t /\ v=t.ptr:=by
  unfold xX at hF;cases hq:X7 x with
  | none=>rw[hq] at hF;cases hF
  | some t=>rw[hq] at hF;cases hF;exact⟨t,rfl,rfl⟩
 have amL:=apv tc;have hho:=((Rs x).1 (by rw[Ci];rfl)).1;have nG:∀y u,y≠x -> X7 y=some u -> vQ y=left y:=fun y u hy hu=>qB y hy (EG y ((Rs y).1 (by rw[hu];rfl)).1);refine gY ?_;refine WL.Xb rfl rfl rfl rfl rfl Ya ?_;refine gY ?_;refine ix (z:=.agg #[Iq 0,.string ByteArray.empty]) (fun _=>by kernel_rfl) fun JL wa fa=>?_;have va:h_ Cj wa JL [Iq 0,.string ByteArray.empty]:=fa.blk;refine ir va (show kj [Value.int .i64 x.1,.string x.2] from by intro u hu;simp at hu;rcases hu with rfl|rfl<;>rfl) ?_;have Qo:=h_.setRow va [Iq x.1,.string x.2];have b9:iB w8 (wa.setRow JL [Value.int .i64 x.1,.string x.2].toArray):=below_setRow fa.below (by rw[fa.eq];exact af _) _;have e12:=fa.eq;clear fa va Ya;generalize wa.setRow JL _=w9 at b9 Qo ⊢;have z9:=b9.size;have l12:=h_.lt Qo;have MO:=Qo.cell 0 iz;have CC:=Qo.cell 1 iz;simp only[al,ax] at MO CC;have XE:=k8.trans ((ib.ic b9).mono fun y hy=>by omega);have Ud:=k7.trans (XE.mono fun y hy=>⟨gZ,hy.2.2⟩);have h9:=h6.ij Ud h5l;have hn9:=hn6.ij Ud Ia;have t9:=t6.iP (Ud.block tm html);have akK:=sJ.lt;have VS:¬S7 rr:=fun h=>(q_ rr h).elim aqK fun h=>gZ;have v9:=h_.ij v7 XE ⟨sJ.lt _ ZO,fun e=>VS (e ▸ ZO)⟩;have Ce:=v9.cell 0 iz;simp only[al] at Ce;have l9:=h_.lt v9;have hR9:=hR8.below b9;have Am:=sJ.ij XE fun y hy=>⟨sJ.lt y hy,fun e=>VS (e ▸ hy)⟩;clear hR8 hR k8 b9 sJ h6 hn6 t6 v7;obtain⟨cp,Oc,mr,md,mp,mn,kc,F,hp⟩:=id hn9;refine gY ?_;refine WC.drawn 6 (iB w9) fun wb jh=>?_;have hS:iB w9 wb:=jh.below _;clear jh;refine iq [0,2] hS ?_;refine ik 3 [6,7] (jZ l12 MO) hS ?_;refine iq [4] hS ?_;refine ik 5 [6,7] (jZ l12 CC) hS ?_;refine iI 1 ?_;refine i_ func24 (rX (hp.below hS)) ?_;rintro _ rfl
 refine km hS ?_;refine iI 6 ?_;refine il func25 (Cat.adP (hp.below hS).cat x.1 x.2 amL.2) ?_;rintro _ wx ⟨rfl,Fk⟩;subst Fk;refine⟨_,rfl,?_⟩;refine iO ?_
 (refine js 7 rfl (q:=?_))
 refine im ?_;clear hp;cases hhn:Cat.has s'.cat x.1 x.2 with
 | false=>
  refine gY ?_;refine WC.drawn 5 (iB w9) fun wc jh=>?_;have rP:=hS.trans (jh.below _);clear hS jh;have hS:=rP;clear rP;refine iq [0,1,2] hS ?_;refine ik 3 [5] (jZ l9 Ce) hS ?_;refine jG 4 [5] (fun wx hx=>h_.rangeAt (h_.below Qo hx l12)) hS ?_;refine iI 5 ?_;obtain⟨wd,c3,q1,q2,q3,q4⟩:=(hR9.below hS).drop underlying81 Bc Cat.mk_inj tc pY 0;refine WL.an7 rfl rfl rfl rfl rfl q1 ?_;refine iO ?_;refine im ?_;have zS:=hS.size;have k9d:ib (fun y=>y<w9.heap.size /\ y≠mb) w9 wd:=((ib.ic hS).mono fun y hy=>hy.1).trans (q4.mono fun y hy=>hy.2);have aqR:sb≠mb:=fun e=>Cat.MF.kN hR9.mf v9 e.symm;refine gY ?_;refine WQ.again c3 iW ⟨Ud.trans (k9d.mono fun y hy=>⟨gZ,fun e=>hy.2.1 (e ▸ h1.nB.mS)⟩),S7,fun y=>if y=x then none else X7 y,vQ,?_,Am.drop x k9d (fun y hy kD=>⟨Am.lt y hy,kD⟩) (fun y u hy hu=>by simp only[nG y u hy hu]),fun y=>?_,h_.ij v9 k9d ⟨l9,aqR⟩,fun y u hu=>?_,ZO,q_⟩ gZ
  ·rw[VJ];exact q2
  ·change (if y=x then none else X7 y).isSome=true ↔ _
   by_cases e:y=x
   ·subst e;simp[pY,hhn]
   ·rw[if_neg e,Rs]
    constructor
    ·rintro⟨a1,a2⟩;rw[<- qB y e (EG y a1)] at a2;exact⟨a1,a2⟩
    ·rintro⟨a1,a2⟩;rw[qB y e (EG y a1)] at a2;exact⟨a1,a2⟩
  ·simp only at hu
   by_cases e:y=x
   ·rw[if_pos e] at hu;cases hu
   ·rw[if_neg e] at hu;exact Jm y u hu
 | true=>
 have zS:=hS.size;refine gY ?_;refine WL.Xp underlying72 Kw rfl rfl rfl rfl rfl (t9.iP (hS.block tm t9.lt)) ?_;rintro Eh qZ ⟨lf0,d0,hQ0,hq0⟩ awt D8 z10;have GN:=hS.trans (D8.mono zS);have yE:=h9.below GN;have ajj:=hn9.below GN;have v10:=h_.below v9 GN l9;have ady:=hR9.below GN;have vw:=Am.ij (ib.ic GN) Am.lt;have Iw:=Am.lt;have aeV:=h_.below Qo GN l12;have avU:=GN.size;have awn:=t9.lt;obtain⟨hTt,hLt⟩:=vw.is x t Ci;simp only[hlx,if_true] at hLt;have WH:=fun y hy=>Am.lt y (Am.own x t y Ci hy);have VB:¬t.own tm:=fun hh=>by
  rcases q_ tm (Am.own x t tm Ci hh) with q|q
  ·exact html.2.1 q
  ·omega
 have OH:¬t.own JL:=fun hh=>by have:=Am.own x t _ Ci hh;have:=akK JL this;omega
 have hpo:∀y,(M3 y \/ D3 y) \/ (M y \/ D y) -> ¬t.own y:=fun y hy hh=>by
  rcases q_ y (Am.own x t y Ci hh) with q|q
  ·rcases hy with hy|hy
   ·exact(Ia y hy).2.1 q
   ·exact(h5l y hy).2.1 q
  ·rcases hy with hy|hy
   ·have:=(Ia y hy).1;omega
   ·have:=(h5l y hy).1;omega
 have apB:∀y,M y \/ D y -> y<qZ.heap.size /\ ¬t.own y /\ y≠Eh:=fun y hy=>⟨by have:=(h5l y hy).1;omega,hpo y (.inr hy),by have:=(h5l y hy).1;omega⟩;have aky:∀y,M3 y \/ D3 y -> y<qZ.heap.size /\ ¬t.own y /\ y≠Eh:=fun y hy=>⟨by have:=(Ia y hy).1;omega,hpo y (.inl hy),by have:=(Ia y hy).1;omega⟩;clear D8 hS h9 hn9 v9 hR9 Am t9 Qo MO CC Ce;refine gY ?_;refine WC.loop (fun _:Nat=>[(0,iF sb),(1,iF vb),(6,iF nb),(7,.map (some tm)),(72,iF rr),(12,iF JL),(13,t.ptr),(92,iF Eh)])
  (fun c w'=>ib (fun y=>y<qZ.heap.size /\ ¬t.own y /\ y≠Eh) qZ w' /\ ∃st L lf,MR prog wL lR w' tm Eh b.iv.length (wZ T) lf c /\ uc w' st t.tb L /\ sR x.2 (wu T lf (kq s x.1) (kq s' x.1) x.1) L /\ ∀y,st y≠none -> t.st y≠none \/ qZ.heap.size <= y)
  (fun c=>c) d0 iW
  ⟨ib.refl _ _,t.st,t.L,lf0,hQ0,hTt,hLt.congr fun m=>?_,fun y hy=>.inl hy⟩ ?_
 ·unfold wu
  by_cases hm:(x.1,m)∈T
  ·obtain⟨kl2,lk⟩:=On (hT _ hm).1 (hT _ hm).2
   rw[if_neg (fun q=>?_)];have q2:=q.2;rw[hq0 _ kl2 lk] at q2;unfold wZ at q2;rw[if_pos hm] at q2;cases q2
  ·rw[if_neg (fun q=>hm q.1)]
 clear hQ0 hq0 hTt hLt;rintro e wi ⟨ki,st,L,lf,hQ,hTi,hLi,UK⟩;have zi:=ki.size;refine gY ?_;refine WL.aaB Kw rE aki rfl rfl rfl rfl rfl hQ (fun j8=>?_) ?_
 ·have hLf:=hLi.congr fun m=>by
   unfold wu
   by_cases hm:(x.1,m)∈T
   ·obtain⟨kl2,lk⟩:=On (hT _ hm).1 (hT _ hm).2
    rw[if_pos ⟨hm,j8 _ kl2 lk⟩]
   ·rw[if_neg (fun q=>hm q.1)]
    exact pG x.1 m hm (by rw[Sn hG hho,Sn hG' hhn])
  have alS:∀y,¬S7 y -> ¬t.own y:=fun y h hh=>h (vw.own x t y Ci hh);refine gY ?_;refine WQ.again c2 iW ⟨(Ud.trans ((ib.ic GN).mono fun y hy=>by omega)).trans (ki.mono fun y hy=>⟨gZ,fun hh=>?_,gZ⟩),fun y=>S7 y \/ Tx.own ⟨t.tb,st,L⟩ y,fun y=>if y=x then some ⟨t.tb,st,L⟩ else X7 y,vQ,?_,vw.aqF Ci ki (fun y h1 h2=>⟨vw.lt y h1,h2,by have:=Iw y h1;omega⟩) hTi (by simp only[pY];exact hLf) (fun y hy=>?_) (fun y u hy hu=>by simp only[nG y u hy hu]),fun y=>?_,h_.ij v10 ki ⟨h_.lt v10,Jm x t Ci,gZ⟩,fun y u hu=>?_,.inl ZO,fun y hy=>?_⟩ gZ
  ·rcases q_ y (vw.own x t y Ci hh) with q|q
   ·exact hy.2.1 q
   ·have:=hy.1;omega
  ·rw[Vq (u:=⟨t.tb,st,L⟩) Ci rfl]
   exact ady.ij ki ⟨vw.lt _ vw.mS,vw.out x t Ci,by have:=Iw _ vw.mS;omega⟩ ⟨ady.lt.2.1,alS rr VS,by have:=ady.lt;omega⟩
  ·rcases hy with hy|hy
   ·exact .inl (.inl hy)
   ·rcases UK y hy with q|q
    ·exact .inl (.inr q)
    ·exact .inr fun h=>by have:=Iw y h;omega
  ·change (if y=x then some (⟨t.tb,st,L⟩:Tx) else X7 y).isSome=true ↔ _
   by_cases e:y=x
   ·subst e;simp[hho,hhn]
   ·rw[if_neg e,Rs]
    constructor
    ·rintro⟨a1,a2⟩;rw[<- qB y e (EG y a1)] at a2;exact⟨a1,a2⟩
    ·rintro⟨a1,a2⟩;rw[qB y e (EG y a1)] at a2;exact⟨a1,a2⟩
  ·simp only at hu
   by_cases e:y=x
   ·rw[if_pos e] at hu
    cases hu
    rintro(hh|hh)
    ·exact Jm x t Ci (.inl hh)
    ·rcases UK sb hh with q|q
     ·exact Jm x t Ci (.inr q)
     ·omega
   ·rw[if_neg e] at hu;exact Jm y u hu
  ·rcases hy with hy|hy|hy
   ·exact q_ y hy
   ·exact q_ y (vw.own x t y Ci (.inl hy))
   ·rcases UK y hy with q|q
    ·exact q_ y (vw.own x t y Ci (.inr q))
    ·exact .inr gZ
 rintro d v2 UG e2 hld hFd ⟨kl2,ah2⟩ ⟨lf',ahW,tO,qY⟩ w_ k12 z12 aiK;have hdT:d∈T:=by
  unfold wZ at hFd
  by_cases q:d∈T
  ·exact q
  ·rw[if_neg q] at hFd;cases hFd
 obtain⟨Ba,uW⟩:=hT d hdT;have Td:∀m,wu T lf' (kq s x.1) (kq s' x.1) x.1 m=if(x.1,m)=d then kq s' x.1 m else wu T lf (kq s x.1) (kq s' x.1) x.1 m:=fun m=>Vj hdT tO (fun y hy kD=>qY y kD (On (hT y hy).1 (hT y hy).2)) m
 refine gY ?_;refine WL.Xb rfl rfl rfl rfl rfl aiK ?_;refine gY ?_;refine ix (z:=.agg #[Iq 0,Iq 0]) (fun _=>by kernel_rfl) fun O8 wa fa=>?_;have va:h_ wL wa O8 [Iq 0,Iq 0]:=fa.blk;refine ir va (show kj [Value.int .i64 d.1,Iq d.2] from by intro u hu;simp at hu;rcases hu with rfl|rfl<;>rfl) ?_;have Ql:=h_.setRow va [Iq d.1,Iq d.2];have wj:iB UG (wa.setRow O8 [Value.int .i64 d.1,Iq d.2].toArray):=below_setRow fa.below (by rw[fa.eq];exact af _) _;have e14:=fa.eq;clear fa va aiK;generalize wa.setRow O8 _=Jv at wj Ql ⊢;have z13:=wj.size;have k13:=k12.trans ((ib.ic wj).mono fun y hy=>by omega);have Bn:=ki.trans (k13.mono fun y hy=>⟨gZ,hy.2.2⟩);have awv:=WH t.tb (.inl rfl);have ac1:∀y,st y≠none -> y≠Eh:=fun y hy=>by
  rcases UK y hy with q|q
  ·have:=WH y (.inr q);omega
  ·omega
 have aaJ:∀y,y<qZ.heap.size -> ¬t.own y -> st y=none /\ y≠t.tb:=fun y h1 h2=>⟨by
  cases q:st y with
  | none=>rfl
  | some nd=>
   rcases UK y (by rw[q];simp) with q2|q2
   ·exact(h2 (.inr q2)).elim
   ·omega,fun e=>h2 (.inl e)⟩
 have ac3:=hTi.ij k13 (fun y hy=>⟨hTi.mem.lt hy,ac1 y hy⟩) ⟨gZ,gZ⟩;have aaD:=ahW.below wj;have aiV:=h_.lt aeV;have Wd:=h_.ij aeV Bn ⟨aiV,OH,gZ⟩;have MO:=Wd.cell 0 iz;have CC:=Wd.cell 1 iz;have Tc:=Ql.cell 0 iz;have L_:=Ql.cell 1 iz;simp only[al,ax] at MO CC Tc L_;clear k12 wj ahW hQ
 by_cases ZV:d.1=x.1
 case neg=>
  refine iu ?_;exact WQ.again e2 iW ⟨Bn,st,L,lf',aaD,ac3,hLi.congr (fun m=>by rw[Td,if_neg (fun q=>ZV (by rw[<- q]))]),UK⟩ gZ
 case pos=>
 have hde:d=(x.1,d.2):=dN ZV rfl;have aai:L.length <= 1000000:=PB hLi fun m dd hm=>by
  unfold wu at hm
  split at hm
  ·have:=FY PU.1 hm;omega
  ·have:=FY hI.1 hm;omega
 have G9:wu T lf (kq s x.1) (kq s' x.1) x.1 d.2=kq s x.1 d.2:=by
  unfold wu;rw[if_neg (fun q=>by rw[<- hde,hld] at q;cases q.2)]
 have amV:Gd (wu T lf (kq s x.1) (kq s' x.1) x.1):=⟨fun m dd hm=>by
  unfold wu at hm
  split at hm
  ·exact(tz PU.1 HU gZ _).ok _ _ hm
  ·exact(tz hI.1 hd gZ _).ok _ _ hm⟩
 refine iu ?_;refine il func26 (Gl (yE.ij Bn apB) Ba uW) ?_;rintro _ Y4 ⟨b14,r,dc,bq,rfl,hv,hm⟩;refine⟨_,rfl,?_⟩;have j7:=hv.len;refine gY ?_;refine ix (z:=.agg (jQ jf iy).toArray) (fun _=>by kernel_rfl) fun Km wa fa=>?_;refine ir (hm:=(jO j7)) fa.blk (lF hv.one) ?_;obtain⟨Ef,b15,-,-⟩:=mh (jQ r dc) (Below.refl Y4.heap.size Y4) fa;generalize wa.setRow Km _=w15 at Ef b15 ⊢;clear fa;have Df:=b14.iR b15;have ant:=hv.ij (ib.ic b15) (fun _ _ hl=>hl) (fun _ h=>h);have aeK:=Bn.trans ((ib.ic Df).mono fun y hy=>by omega);have aes:=ac3.below Df;have z15:=Df.size;have A15:=p8.of (h_.rangeAt Ef) j7;have aeZ:=(Df.cell (p:=⟨JL,1,none⟩) (h_.lt Wd)).trans CC;have IT:=(Df.cell (p:=⟨O8,1,none⟩) (h_.lt Ql)).trans L_;have aiY:=h_.below Ql Df (h_.lt Ql);have aiT:=aaD.below Df;have l14:=h_.lt Ql;clear b14 b15 hv k13 ac3 aaD Ql MO CC Tc L_ Ef;refine gY ?_;refine WC.sa (fun _:Unit=>[(0,iF sb),(1,iF vb),(6,iF nb),(7,.map (some tm)),(72,iF rr),(12,iF JL),(13,t.ptr),(92,iF Eh),(14,iF O8)])
  (fun _ wm=>OP w15 t.tb st (Tf x.2 d.2 (kq s x.1 d.2) L) wm) rfl ?_ ?_
 ·cases pK:kQ s (d.1,d.2) with
  | none=>
   have mC:kq s x.1 d.2=none:=by unfold kq;rw[<- ZV,pK];rfl
   rw[pK] at hm;obtain⟨rfl,rfl⟩:=hm;rw[mC];refine gY ?_;exact WQ.meet () iW ⟨st,aes,ib.refl _ _,fun _ h=>.inl h⟩
  | some r'=>
   have G1:kq s x.1 d.2=some r'.data:=by unfold kq;rw[<- ZV,pK];rfl
   rw[pK] at hm;obtain⟨rfl,rfl⟩:=hm;rw[G1];refine gY ?_;refine ia aeZ ?_;refine gY ?_;refine ia IT ?_;refine gY ?_;obtain⟨a1,a2,a3⟩:=(tz hI.1 hd gZ x.1).ok _ _ G1;have a4:=(DD hd G1).2;have sm:=(OS yE (pV pK).1).2;refine ig (m:=6) A15.data j7 ?_;refine i_ func27 (AR (B:=3000) gZ aes gZ x.2 a1 ant.td sm a2 a4 false) ?_;rintro wl hTP
   refine gY ?_;exact WQ.meet () iW hTP
 rintro⟨⟩ w16 ⟨xr,aiZ,kO1,hN1⟩;have agQ:(Tf x.2 d.2 (kq s x.1 d.2) L).length <= 1000000:=by
  cases kq s x.1 d.2 with
  | none=>exact aai
  | some dd=>exact aU (Qn _ _ _ _) aai
 have Gm:=acm (n:=d.2) (o':=kq s' x.1 d.2) hLi amV fun dd hq=>(tz PU.1 HU gZ x.1).ok _ _ hq;rw[G9] at Gm;generalize (Tf x.2 d.2 (kq s x.1 d.2) L)=L1 at aiZ agQ Gm;have ai2:∀y,y<qZ.heap.size -> ¬t.own y -> rY st t.tb w15 y:=fun y h1 h2=>⟨gZ,(aaJ y h1 h2).1,(aaJ y h1 h2).2⟩;have Uw:=aeK.trans (kO1.mono fun y hy=>ai2 y hy.1 hy.2.1);have Z1:st O8=none /\ O8≠t.tb:=⟨by
  cases q:st O8 with
  | none=>rfl
  | some nd=>have:=hTi.mem.lt (b:=O8) (by rw[q];simp);omega,gZ⟩
 have avK:=aaJ JL gZ OH;have SG:=h_.ij aiY kO1 ⟨gZ,Z1.1,Z1.2⟩;have abm:=h_.ij aeV Uw ⟨aiV,OH,gZ⟩;have ahU:=aiT.ij kO1 (ai2 tm gZ VB) ⟨gZ,by
  cases q:st Eh with
  | none=>rfl
  | some nd=>exact(ac1 Eh (by rw[q];simp) rfl).elim,gZ⟩
 have z16:=kO1.size;clear aiY aiT A15 aeZ IT hm aes Wd;have Tc:=SG.cell 0 iz;have L_:=SG.cell 1 iz;simp only[al,ax] at Tc L_;refine iu ?_;refine il func26 (Gl (ajj.ij Uw aky) Ba uW) ?_;rintro _ w17 ⟨TO,r2,dc2,bq2,rfl,tD,u9⟩;refine⟨_,rfl,?_⟩;have acU:=tD.len;refine gY ?_;refine ix (z:=.agg (jQ jf iy).toArray) (fun _=>by kernel_rfl) fun g17 wa fa=>?_;refine ir (hm:=(jO acU)) fa.blk (lF tD.one) ?_;obtain⟨v17,b18,-,-⟩:=mh (jQ r2 dc2) (Below.refl w17.heap.size w17) fa;generalize wa.setRow g17 _=w18 at v17 b18 ⊢;clear fa;have Fz:=TO.iR b18;have aqW:=tD.ij (ib.ic b18) (fun _ _ hl=>hl) (fun _ h=>h);have ajg:=aiZ.below Fz;have z18:=Fz.size;have A17:=p8.of (h_.rangeAt v17) acU;have anq:=h_.below abm Fz (h_.lt abm);have anH:=h_.below SG Fz (h_.lt SG);have CC:=anq.cell 1 iz;have IT:=anH.cell 1 iz;simp only[al,ax] at CC IT;have ajk:∀y,xr y≠none -> t.st y≠none \/ qZ.heap.size <= y:=fun y hy=>by
  rcases hN1 y hy with q|q
  ·exact UK y q
  ·exact .inr gZ
 have Po:∀y,y<qZ.heap.size -> ¬t.own y -> xr y=none /\ y≠t.tb:=fun y h1 h2=>⟨by
  cases q:xr y with
  | none=>rfl
  | some nd=>
   rcases ajk y (by rw[q];simp) with q2|q2
   ·exact(h2 (.inr q2)).elim
   ·omega,fun e=>h2 (.inl e)⟩
 have ahS:∀ {L2:List Tre.KV}{wz:World},OP w18 t.tb xr L2 wz -> sR x.2 (kv (wu T lf (kq s x.1) (kq s' x.1) x.1) d.2 (kq s' x.1 d.2)) L2 ->
   ib (fun y=>y<qZ.heap.size /\ ¬t.own y /\ y≠Eh) qZ wz /\ ∃st L lf,MR prog wL lR wz tm Eh b.iv.length (wZ T) lf e2 /\ uc wz st t.tb L /\ sR x.2 (wu T lf (kq s x.1) (kq s' x.1) x.1) L /\ ∀y,st y≠none -> t.st y≠none \/ qZ.heap.size <= y:=by
  rintro L2 wz ⟨uZ,hT2,kO2,hN2⟩ hL2;refine⟨(Uw.trans ((ib.ic Fz).mono fun y hy=>by omega)).trans (kO2.mono fun y hy=>⟨gZ,(Po y hy.1 hy.2.1).1,(Po y hy.1 hy.2.1).2⟩),uZ,L2,lf',(ahU.below Fz).ij kO2 ⟨gZ,(Po tm gZ VB).1,(Po tm gZ VB).2⟩ ⟨gZ,?_,gZ⟩,hT2,hL2.congr fun m=>?_,fun y hy=>?_⟩
  ·cases q:xr Eh with
   | none=>rfl
   | some nd=>
    rcases hN1 Eh (by rw[q];simp) with q2|q2
    ·exact(ac1 Eh q2 rfl).elim
    ·omega
  ·rw[Td,hde]
   unfold kv
   by_cases e:m=d.2
   ·rw[if_pos e,if_pos (by rw[e]),e]
   ·rw[if_neg e,if_neg (fun q=>e (congrArg Prod.snd q))]
  ·rcases hN2 y hy with q|q
   ·exact ajk y q
   ·exact .inr gZ
 clear ahU SG abm aeK kO1 TO b18 tD v17 L_ Tc;refine gY ?_;cases pK:kQ s' (d.1,d.2) with
 | none=>
  have mC:kq s' x.1 d.2=none:=by unfold kq;rw[<- ZV,pK];rfl
  rw[pK] at u9;obtain⟨rfl,rfl⟩:=u9;rw[mC] at Gm;refine gY ?_;exact WQ.again e2 iW (ahS ⟨xr,ajg,ib.refl _ _,fun _ h=>.inl h⟩ (by rw[mC];exact Gm)) gZ
 | some r'=>
  have G1:kq s' x.1 d.2=some r'.data:=by unfold kq;rw[<- ZV,pK];rfl
  rw[pK] at u9;obtain⟨rfl,rfl⟩:=u9;rw[G1] at Gm;refine gY ?_;refine ia CC ?_;refine gY ?_;refine ia IT ?_;refine gY ?_;obtain⟨a1,a2,a3⟩:=(tz PU.1 HU gZ x.1).ok _ _ G1;have a4:=(DD HU G1).2;have sm:=(OS ajj (pV pK).1).2;refine ig (m:=6) A17.data acU ?_;refine i_ func27 (AR (B:=3000) gZ ajg gZ x.2 a1 aqW.td sm a2 a4 true) ?_;rintro wl hTP
  refine gY ?_;exact WQ.again e2 iW (ahS hTP (by rw[G1];exact Gm)) gZ
end Ix
namespace Vw
open K (En Bk zV jS kB jo)
structure Ac where
 kind:Int
 table:Int
 doc:Int
 pick:Int
 data:V
 field:ByteArray
 e:En
def verL (L:List Rw) (k:Int × Int):Int:=match(Vw.of L k).getLast? with|some r=>r.iZ+1|none=>0
def adB (s:St) (t d:Int):Int:=verL s.rows (t,d)
theorem Kk {L:List Rw}{k:Int × Int}(hi:i<L.length): verL (L.take (i+1)) k=if(L.getD i jf).key=k then(L.getD i jf).iZ+1 else verL (L.take i) k:=by
 unfold verL;rw[aJ,ah hi,dx,<- jW (d:=jf) hi,EY]
 by_cases h:(L.getD i jf).key=k
 ·rw[if_pos h,if_pos h,List.getLast?_append];rfl
 ·rw[if_neg h,if_neg h,aS]
theorem XX {L:List Rw}{k:Int × Int}(h:∀r∈L,-9223372036854775808 <= r.iZ /\ r.iZ+1 <= 9223372036854775807): -9223372036854775808 <= verL L k /\ verL L k <= 9223372036854775807:=by
 unfold verL
 split
 ·rename_i r hr
  have:=h r ((bQ.1 (fo hr)).1);omega
 ·omega
def NZ (s:St) (p:Int):Rw:=s.rows.getD ((bits .and .i64 p 65535).toNat % s.rows.length) jf
open Classical in
noncomputable def kZ (s:St) (x:Ac):En :=
 if x.kind=0 then { jo with kind:=2,table:=x.table,doc:=next s x.table,data:=x.data,hash:=kB x.data }
 else if x.kind=1 then { jo with kind:=2,table:=x.table,doc:=x.doc,iZ:=adB s x.table x.doc,data:=x.data,hash:=kB x.data }
 else if x.kind=2 then { jo with kind:=3,table:=x.table,doc:=x.doc,iZ:=adB s x.table x.doc }
 else if x.kind=3 then(if s.rows=[] then { jo with kind:=4 } else { jo with kind:=4,ab:=(NZ s x.pick).blk,ae:=(NZ s x.pick).ni })
 else if x.kind=4 then { jo with kind:=5,table:=(s.cat.length:Int)+1,text:=x.field }
 else if x.kind=5 then { jo with kind:=6,table:=x.table }
 else if x.kind=6 then { jo with kind:=7,table:=x.table,text:=x.field }
 else x.e
noncomputable def actsR (n:Nat):List Ac -> Nat -> St -> List En × St
 | [],_,s=>([],s)
 | x :: r,k,s=>((kZ s x) :: (actsR n r (k+1) (entR s (kZ s x) n k (7*n)).2).1,(actsR n r (k+1) (entR s (kZ s x) n k (7*n)).2).2)
noncomputable def qQ (s:St) (l:List Ac):Bk:={ index:=s.n,time:=7*s.n,rh:=0,prev:=Dig.lB,iv:=(actsR s.n l 0 s).1 }
theorem yP (n:Nat):∀(l:List Ac) (k:Nat) (s:St),(actsR n l k s).1.length=l.length
 | [],_,_=>rfl
 | x :: r,k,s=>by
  unfold actsR;rw[aj,aj,yP n r]
end Vw
namespace Vw
open K
abbrev HS:Nat:=114
def nu (x:Ac) (dc ec:List Value):List Value:=[Value.int .i64 x.kind,Iq x.table,Iq x.doc,Iq x.pick]++(dc++(Value.string x.field :: ec))
structure aaz (x:Ac):Prop where
 kind:jX x.kind
 table:jX x.table
 doc:jX x.doc
 pick:jX x.pick
 field:x.field.size <= 140737488355328
def LZ (E:Nat -> Prop) (f:Nat) (w:World) (x:Ac) (cs:List Value):Prop:=∃dc ec,cs=nu x dc ec /\ jE E f w x.data dc /\ nN (jE E f w) x.e ec /\ aaz x
structure tr (w:World) (g:Nat) (x:Ac) (dc ec:List Value):Prop where
 blk:h_ HS w g (nu x dc ec)
 dl:dc.length=6
 el:ec.length=46
section
variable {w w':World}{g:Nat}{x:Ac}{dc ec:List Value}
theorem tr.kind (h:tr w g x dc ec): w.cell? ⟨g,0,none⟩=some (Iq x.kind):=h.blk.cell 0 (by simp[nu])
theorem tr.table (h:tr w g x dc ec): w.cell? ⟨g,1,none⟩=some (Iq x.table):=h.blk.cell 1 (by simp[nu])
theorem tr.doc (h:tr w g x dc ec): w.cell? ⟨g,2,none⟩=some (Iq x.doc):=h.blk.cell 2 (by simp[nu])
theorem tr.pick (h:tr w g x dc ec): w.cell? ⟨g,3,none⟩=some (Iq x.pick):=h.blk.cell 3 (by simp[nu])
theorem tr.data (h:tr w g x dc ec): w.rangeAt g 4 dc:=h_.part h.blk [Value.int .i64 x.kind,Iq x.table,Iq x.doc,Iq x.pick] dc (Value.string x.field :: ec) rfl
theorem tr.field (h:tr w g x dc ec): w.cell? ⟨g,10,none⟩=some (.string x.field):=by
 have:=h_.part h.blk ([Value.int .i64 x.kind,Iq x.table,Iq x.doc,Iq x.pick]++dc) [Value.string x.field] ec (by unfold nu;simp);rw[show(([Value.int .i64 x.kind,Iq x.table,Iq x.doc,Iq x.pick]:List Value)++dc).length=10 by simp[h.dl]] at this;exact this 0 _ rfl
theorem tr.e (h:tr w g x dc ec): w.rangeAt g 11 ec:=by
 have:=h_.part h.blk ([Value.int .i64 x.kind,Iq x.table,Iq x.doc,Iq x.pick]++(dc++[Value.string x.field])) ec [] (by unfold nu;simp)
 rwa [show(([Value.int .i64 x.kind,Iq x.table,Iq x.doc,Iq x.pick]:List Value)++(dc++[Value.string x.field])).length=11 by simp[h.dl]] at this
theorem tr.below (h:tr w g x dc ec) (hb:iB w w'): tr w' g x dc ec:=⟨h_.below h.blk hb (h_.lt h.blk),h.dl,h.el⟩
end
end Vw
namespace Vw
open K
theorem aaW (t:Int): prog.built zr [(0,Iq 6),(2,Iq t)]=some (iU { jo with kind:=6,table:=t } iy).toArray:=by kernel_rfl
theorem acP (t:Int) (s:ByteArray): prog.built zr [(0,Iq 7),(2,Iq t),(1,.string s)]=some (iU { jo with kind:=7,table:=t,text:=s } iy).toArray:=by kernel_rfl
theorem acE (t:Int) (s:ByteArray): prog.built zr [(0,Iq 5),(2,Iq t),(1,.string s)]=some (iU { jo with kind:=5,table:=t,text:=s } iy).toArray:=by kernel_rfl
theorem acs (t d v:Int): prog.built zr [(0,Iq 3),(2,Iq t),(3,Iq d),(4,Iq v)]=some (iU { jo with kind:=3,table:=t,doc:=d,iZ:=v } iy).toArray:=by kernel_rfl
theorem ZU: prog.built zr [(0,Iq 4)]=some (iU { jo with kind:=4 } iy).toArray:=by kernel_rfl
theorem XN (k ta d v n1 n2 n3:Int) (tx:ByteArray) (sp sq:Option Addr) (a1 a2 c1 c2:Nat) (q:Nat -> Int): prog.built zr [(0,Iq k),(2,Iq ta),(3,Iq d),(4,Iq v),(5,.agg #[Iq n1,Iq n2,Iq n3,.string tx,.slice sp a1 c1,.slice sq a2 c2]),(6,.agg (jq ((List.range 32).map q)).toArray)] =
  some (iU ⟨k,jz,ta,d,v,zV,(List.range 32).map q,false,0,0⟩ [Iq n1,Iq n2,Iq n3,.string tx,.slice sp a1 c1,.slice sq a2 c2]).toArray:=by kernel_rfl
theorem YD (k ta d n1 n2 n3:Int) (tx:ByteArray) (sp sq:Option Addr) (a1 a2 c1 c2:Nat) (q:Nat -> Int): prog.built zr [(0,Iq k),(2,Iq ta),(3,Iq d),(5,.agg #[Iq n1,Iq n2,Iq n3,.string tx,.slice sp a1 c1,.slice sq a2 c2]),(6,.agg (jq ((List.range 32).map q)).toArray)] =
  some (iU ⟨k,jz,ta,d,0,zV,(List.range 32).map q,false,0,0⟩ [Iq n1,Iq n2,Iq n3,.string tx,.slice sp a1 c1,.slice sq a2 c2]).toArray:=by kernel_rfl
theorem Q9 (hh:h.length=32): ∃q:Nat -> Int,h=(List.range 32).map q:=by
 refine⟨fun i=>h.getD i 0,?_⟩
 apply d_
 ·simp[hh]
 ·intro i h1 h2
  simp[ag,ah h1]
theorem adk (k ta d:Int) (hh:h.length=32) (n1 n2 n3:Int) (tx:ByteArray) (sp sq:Option Addr) (a1 a2 c1 c2:Nat) (Uo:V): prog.built zr [(0,Iq k),(2,Iq ta),(3,Iq d),(5,.agg #[Iq n1,Iq n2,Iq n3,.string tx,.slice sp a1 c1,.slice sq a2 c2]),(6,.agg (jq h).toArray)] =
  some (iU { jo with kind:=k,table:=ta,doc:=d,data:=Uo,hash:=h } [Iq n1,Iq n2,Iq n3,.string tx,.slice sp a1 c1,.slice sq a2 c2]).toArray:=by
 obtain⟨q,rfl⟩:=Q9 hh;exact YD k ta d n1 n2 n3 tx sp sq a1 a2 c1 c2 q
theorem adV (k ta d v:Int) (hh:h.length=32) (n1 n2 n3:Int) (tx:ByteArray) (sp sq:Option Addr) (a1 a2 c1 c2:Nat) (Uo:V): prog.built zr [(0,Iq k),(2,Iq ta),(3,Iq d),(4,Iq v),(5,.agg #[Iq n1,Iq n2,Iq n3,.string tx,.slice sp a1 c1,.slice sq a2 c2]),(6,.agg (jq h).toArray)] =
  some (iU { jo with kind:=k,table:=ta,doc:=d,iZ:=v,data:=Uo,hash:=h } [Iq n1,Iq n2,Iq n3,.string tx,.slice sp a1 c1,.slice sq a2 c2]).toArray:=by
 obtain⟨q,rfl⟩:=Q9 hh;exact XN k ta d v n1 n2 n3 tx sp sq a1 a2 c1 c2 q
theorem aaP (a b:Int): prog.built zr [(0,Iq 4),(8,.agg #[Iq a,Iq b])]=some (iU { jo with kind:=4,ab:=a,ae:=b } iy).toArray:=by kernel_rfl
theorem I2 (v:V): Yk (kB v):=by
 unfold kB
 split
 ·exact AP
 ·intro c hc
  obtain⟨i,hi,rfl⟩:=bn hc;have hl:(Dig.p7 (0 :: (kL v).1)).length=32:=Dig.oD _;have:=Dig.Ts (0 :: (kL v).1) i gZ;unfold nth at this
  rwa [ag,ah hi] at this
theorem GX: jz.size <= 140737488355328:=by decide
theorem RN {e:En}(h1:e.data=zV) (h2:e.hash=Dig.lB) (h3:e.text.size <= 140737488355328) (h4:jX e.kind /\ jX e.table /\ jX e.doc /\ jX e.iZ /\ jX e.ab /\ jX e.ae): nN (jE E (f+1) w) e (iU e iy) :=
 ⟨iy,rfl,h1 ▸ mD E f w,rfl,(mD E f w).one,by rw[h2];rfl,by rw[h2];exact AP,h3,h4⟩
theorem Rv {rb:Nat}{s:St}(h0:p_ w rb M D (f+1) s N) {x:Ac}{xc:List Value}(hx:LZ E (f+1) w x xc) (hlen:chk 16 x.data=0 -> (encV 16 x.data).length <= 70368744177664):
  Calls prog 69 #[iF rb,.agg xc.toArray] w fun e w'=>iB w w' /\ ∃ec,e=.returned (.agg ec.toArray) /\ nN (jE E (f+1) w') (kZ s x) ec:=by
 obtain⟨dc,ec,rfl,Au,u6,kK⟩:=hx;have j7:=Au.len;have kU:=u6.len;refine iY (args:=[iF rb,.agg (nu x dc ec).toArray]) func69 ntmps69 ?_;refine ku ?_;refine iC fun g3 w1 f1=>?_;have A1:tr w1 g3 x dc ec:=⟨f1.blk,j7,kU⟩;have b1:=f1.below;have e3:=f1.eq;clear f1;refine ix (z:=.agg (iU jo iy).toArray) (fun _=>by kernel_rfl) fun g4 w2 f2=>?_;have v4:h_ zr w2 g4 (iU jo iy):=f2.blk;have b2:=b1.iR f2.below;have e4:=f2.eq;replace A1:=A1.below f2.below;have z1:=b1.size;clear f2;refine gY ?_;refine ig A1.data j7 ?_;refine i_ func104 (JW (Au.td.below b2) hlen) ?_;rintro w3 b3
 have tg:(jq (kB x.data)).length=32:=by rw[av];exact pC _
 replace A1:=A1.below b3;have l4:=h_.lt v4;replace v4:=h_.below v4 b3 l4;have c3:=b2.iR b3;refine gY ?_;refine ix (z:=.agg (jq Dig.lB).toArray) (Dig.vh) fun g5 w4 f4=>?_;refine ir (hm:=tg) f4.blk (kj.int _ _) ?_;obtain⟨v5,b5,-,-⟩:=mh (jq (kB x.data)) (Below.refl w3.heap.size w3) f4;generalize w4.setRow g5 _=w5 at v5 b5 ⊢;clear f4;replace A1:=A1.below b5;have l4':=h_.lt v4;replace v4:=h_.below v4 b5 l4';have c5:=c3.iR b5;have ck:=A1.kind;have cx:=A1.table;have Y8:=h_.lt v4;have ot:w.heap.size <= g4:=gZ;have fin:∀ {wx:World}{en:En}{cs:List Value},iB w5 wx -> nN (jE E (f+1) w) en cs -> kZ s x=en ->
   h_ zr (wx.setRow g4 cs.toArray) g4 cs /\ (iB w (wx.setRow g4 cs.toArray) /\ ∃ec,Ending.returned (.agg cs.toArray)=.returned (.agg ec.toArray) /\ nN (jE E (f+1) (wx.setRow g4 cs.toArray)) (kZ s x) ec):=fun {wx en cs} DU hp he=>by
  have bb:=c5.iR DU;have bf:=(Cr.kC (K:=fun y=>y<w.heap.size) (g:=g4) (ib.ic bb) (fun hh=>by omega) cs.toArray).below;have v4x:=h_.below v4 DU Y8;refine⟨v4x.setRow cs,bf,cs,rfl,?_⟩;rw[he];exact nN.mono (fun v c hv=>hv.ij (ib.ic bf) (fun y _ hl=>hl) (fun _ h=>h)) hp
 obtain⟨rcp,rOc,rv,mb,rk,rr⟩:=id h0;have r5:=rr.below c5;obtain⟨tv,cells,Cl⟩:=id r5.cat;have rok:∀r∈s.rows,jX r.iZ:=fun r hr=>by
  obtain⟨j,hj,rfl⟩:=bn hr;obtain⟨-,-,-,-,-,-,-,-,-,A_,-⟩:=mw (ox r5.rows) hj;rw[<- jW (d:=jf) hj];exact A_.iZ
 have yC:=ox r5.rows;obtain⟨Lu,J3,rfl,-⟩:=id yC;have hrk:=rr.ok;have d0:=r5.vb.cell 0 iz;have d1:=r5.vb.cell 1 iz;simp only[ax,al] at d0 d1;have qd:=r5.lt rb (.inl r5.tR);have acW:=Cl.lt rcp Cl.rc;have Ou:=Cl.nk.len;have t0:=Cl.vb.cell 0 iz;simp only[al] at t0;obtain⟨spt,cpt,rfl⟩:∃spt cpt,tv=.slice spt s.cat.length cpt:=by
  obtain⟨-,-,x1,x2,x3,-⟩:=Cl.own.DC;exact⟨x1,x2,x3⟩
 have r0:∀n:Nat,n <= 10 -> jX (n:Int):=fun n hn=>⟨gZ,gZ⟩;refine iu ?_
 by_cases k0:x.kind=0
 case pos=>
  obtain⟨sL,yL,xP,xD,qe,py,rfl⟩:=yQ Au;have mg:=tX x.table s.rows;have A_:=rr.ok;have wJ:jX (next s x.table):=by
   unfold next
   split
   ·exact⟨gZ,gZ⟩
   ·exact r0 0 gZ
  have he:kZ s x={ jo with kind:=2,table:=x.table,doc:=next s x.table,data:=x.data,hash:=kB x.data }:=by unfold kZ;rw[if_pos k0]
  have hp:nN (jE E (f+1) w) { jo with kind:=2,table:=x.table,doc:=next s x.table,data:=x.data,hash:=kB x.data } (iU { jo with kind:=2,table:=x.table,doc:=next s x.table,data:=x.data,hash:=kB x.data } [Iq x.data.k,Iq x.data.n,Iq x.data.s,.string x.data.t,.slice sL xP qe,.slice yL xD py]):=⟨_,rfl,Au,rfl,Au.one,pC _,I2 _,GX,⟨r0 2 gZ,kK.table,wJ,r0 0 gZ,r0 0 gZ,r0 0 gZ⟩⟩;have l3:=h_.lt A1.blk;have l5:=h_.lt v5;refine iu ?_;refine WC.qg rfl k0 ?_;refine iu ?_;refine WC.drawn 10 (iB w5) fun wa jh=>?_;have hS:iB w5 wa:=jh.below _;clear jh;refine iq [0] hS ?_;refine ik 1 [9,10] (jZ l3 cx) hS ?_;refine iq [2,3] hS ?_;refine ik 4 [5,9,10] (jZ l3 cx) hS ?_;refine iq [6] hS ?_;refine jG 7 [9,10] (fun wx hx=>(A1.below hx).data) hS ?_;refine jG (hm:=tg) 8 [9,10] (fun wx hx=>h_.rangeAt (h_.below v5 hx l5)) hS ?_;refine iI 5 ?_;refine i_ func105 (MI (h0.below (c5.iR hS)) x.table) ?_;rintro wb bb
  replace hS:=hS.iR bb;refine km hS ?_;refine Cr.uh (iU { jo with kind:=2,table:=x.table,doc:=next s x.table,data:=x.data,hash:=kB x.data } [Iq x.data.k,Iq x.data.n,Iq x.data.s,.string x.data.t,.slice sL xP qe,.slice yL xD py]) 9 rfl (by kernel_rfl) rfl rfl (fun _ _ _ _ _ h=>h) rfl rfl rfl (adk _ _ _ (pC _) _ _ _ _ _ _ _ _ _ _ _) (.inr hS) ?_;refine iI 10 ?_;obtain⟨vf,hf⟩:=fin hS hp he;refine ir (hm:=hp.len) (h_.below v4 hS Y8) hp.one ?_;refine iO ?_;refine im ?_;refine gY ?_;exact WQ.tl rfl rfl rfl hp.len vf hf
 case neg=>
 refine WC.pE rfl k0 ?_
 by_cases k12:x.kind=1 \/ x.kind=2
 case pos=>
  have cy:=A1.doc;have l3:=h_.lt A1.blk;have yp:adB s x.table x.doc=verL s.rows (x.table,x.doc):=rfl;have hvR:jX (verL s.rows (x.table,x.doc)):=XX fun r hr=>by have h1:=rr.wS r hr;have h2:=rr.ok;exact⟨(rok r hr).1,gZ⟩
  by_cases k2:x.kind=2
  case pos=>
   have k1:¬x.kind=1:=gZ;refine iu ?_;refine WC.loop (fun i:Nat=>[(0,iF rb),(3,iF g3),(4,iF g4),(5,iF g5),(7,Iq (verL (s.rows.take i) (x.table,x.doc))),(8,Iq i)]) (fun i wx=>i <= s.rows.length /\ iB w5 wx) (fun i=>s.rows.length - i) 0 iW ⟨aw _,Below.refl _ _⟩ ?_;rintro i wl ⟨hi,bl⟩;have dl:=(bl.cell (p:=⟨rb,1,none⟩) qd).trans d1
   by_cases iS:i<s.rows.length
   case pos=>
    obtain⟨b,o,oc,yl,es,hb,-,ve,-,A_,-⟩:=mw yC iS;obtain⟨rfl,rfl⟩:Lu=some ⟨b,o,none⟩ /\ J3=oc:=by simpa using es
    clear es;have hv:=Kk (k:=(x.table,x.doc)) iS;have Zu:=rr.wS _ (show s.rows.getD i jf∈s.rows by rw[jW iS];exact aN iS);have x0:=ve.lj;have x1:=ve.doc;have Tp:=ve.iZ;have x2:=(bl.cell (p:=⟨b,o+i*14+2,none⟩) hb).trans ve.iZ;have ND:=A_.iZ;have jU:(s.rows.getD i jf).key=(x.table,x.doc) ↔ (s.rows.getD i jf).lj=x.table /\ (s.rows.getD i jf).doc=x.doc:=⟨fun q=>⟨congrArg Prod.fst q,congrArg Prod.snd q⟩,fun q=>dN q.1 q.2⟩;generalize s.rows.getD i jf=r at x0 x1 x2 Tp hv Zu ND jU
    by_cases e1:r.lj=x.table
    case neg=>
     rw[if_neg (fun q=>e1 (jU.1 q).1)] at hv;refine iu ?_;refine WC.drawn 23 (iB w5) fun wa jh=>?_;have hS:=bl.trans ((jh.below _).mono bl.size);clear jh;refine iq [0,1,2] hS ?_;refine ik 3 [5,6,7,10,11,12,13,14,15,16,17,18,19,20,21,22,23] (jZ qd d1) hS ?_;refine iq [4] hS ?_;refine jV 5 i (o+i*14) iS (.inr hS) ?_;refine iq [6] hS ?_;refine ik 7 [10,11,12,13,14,15,16,17,18,19,20,21,22,23] (jZ hb x0) hS ?_;refine iq [8] hS ?_;refine ik 9 [10,11,12,13,14,15,16,17,18,19,20,21,22,23] (jZ l3 cx) hS ?_;refine iq [10,11,12,13,14,15,16,17,18,19,20,21,22] hS ?_;refine iI 23 ?_;refine iA ?_;refine iO ?_;refine im ?_;refine gY ?_;exact WQ.again (i+1) ⟨rfl,rfl,rfl,rfl,congrArg (fun z=>some (Value.int .i64 z)) hv.symm,rfl,trivial⟩ ⟨iS,hS⟩ gZ
    case pos=>
    by_cases e2:r.doc=x.doc
    case neg=>
     rw[if_neg (fun q=>e2 (jU.1 q).2)] at hv;refine iu ?_;refine WC.drawn 23 (iB w5) fun wa jh=>?_;have hS:=bl.trans ((jh.below _).mono bl.size);clear jh;refine iq [0,1,2] hS ?_;refine ik 3 [5,6,7,10,11,12,13,14,15,16,17,18,19,20,21,22,23] (jZ qd d1) hS ?_;refine iq [4] hS ?_;refine jV 5 i (o+i*14) iS (.inr hS) ?_;refine iq [6] hS ?_;refine ik 7 [10,11,12,13,14,15,16,17,18,19,20,21,22,23] (jZ hb x0) hS ?_;refine iq [8] hS ?_;refine ik 9 [10,11,12,13,14,15,16,17,18,19,20,21,22,23] (jZ l3 cx) hS ?_;refine iq [10,11,12,13,14] hS ?_;refine ik 15 [17,18,19,22,23] (jZ qd d1) hS ?_;refine iq [16] hS ?_;refine jV 17 i (o+i*14) iS (.inr hS) ?_;refine iq [18] hS ?_;refine ik 19 [22,23] (jZ hb x1) hS ?_;refine iq [20] hS ?_;refine ik 21 [22,23] (jZ l3 cy) hS ?_;refine iq [22] hS ?_;refine iI 23 ?_;refine iA ?_;refine iO ?_;refine im ?_;refine gY ?_;exact WQ.again (i+1) ⟨rfl,rfl,rfl,rfl,congrArg (fun z=>some (Value.int .i64 z)) hv.symm,rfl,trivial⟩ ⟨iS,hS⟩ gZ
    case pos=>
     rw[if_pos (jU.2 ⟨e1,e2⟩)] at hv;refine iu ?_;refine WC.drawn 23 (iB w5) fun wa jh=>?_;have hS:=bl.trans ((jh.below _).mono bl.size);clear jh;refine iq [0,1,2] hS ?_;refine ik 3 [5,6,7,10,11,12,13,14,15,16,17,18,19,20,21,22,23] (jZ qd d1) hS ?_;refine iq [4] hS ?_;refine jV 5 i (o+i*14) iS (.inr hS) ?_;refine iq [6] hS ?_;refine ik 7 [10,11,12,13,14,15,16,17,18,19,20,21,22,23] (jZ hb x0) hS ?_;refine iq [8] hS ?_;refine ik 9 [10,11,12,13,14,15,16,17,18,19,20,21,22,23] (jZ l3 cx) hS ?_;refine iq [10,11,12,13,14] hS ?_;refine ik 15 [17,18,19,22,23] (jZ qd d1) hS ?_;refine iq [16] hS ?_;refine jV 17 i (o+i*14) iS (.inr hS) ?_;refine iq [18] hS ?_;refine ik 19 [22,23] (jZ hb x1) hS ?_;refine iq [20] hS ?_;refine ik 21 [22,23] (jZ l3 cy) hS ?_;refine iq [22] hS ?_;refine iI 23 ?_;refine iA ?_;refine iO ?_;refine im ?_;have dS:=(hS.cell (p:=⟨rb,1,none⟩) qd).trans d1;have xS:=(hS.cell (p:=⟨b,o+i*14+2,none⟩) hb).trans Tp;refine iu ?_;refine iG i (o+i*14) iS ?_;refine iu ?_;exact WQ.again (i+1) ⟨rfl,rfl,rfl,rfl,congrArg (fun z=>some (Value.int .i64 z)) hv.symm,rfl,trivial⟩ ⟨iS,hS⟩ gZ
   case neg=>
   obtain rfl:i=s.rows.length:=gZ;rw[aI];have he:kZ s x={ jo with kind:=3,table:=x.table,doc:=x.doc,iZ:=verL s.rows (x.table,x.doc)}:=by unfold kZ;rw[if_neg k0,if_neg k1,if_pos k2,yp]
   have hp:nN (jE E (f+1) w) { jo with kind:=3,table:=x.table,doc:=x.doc,iZ:=verL s.rows (x.table,x.doc)} (iU { jo with kind:=3,table:=x.table,doc:=x.doc,iZ:=verL s.rows (x.table,x.doc)} iy):=RN rfl rfl GX ⟨r0 3 gZ,kK.table,kK.doc,hvR,r0 0 gZ,r0 0 gZ⟩;obtain⟨vf,hf⟩:=fin bl hp he;have ckl:=(bl.cell (p:=⟨g3,0,none⟩) l3).trans ck;have cxl:=(bl.cell (p:=⟨g3,1,none⟩) l3).trans cx;have cyl:=(bl.cell (p:=⟨g3,2,none⟩) l3).trans cy;refine iu ?_;refine iE (iU { jo with kind:=3,table:=x.table,doc:=x.doc,iZ:=verL s.rows (x.table,x.doc)} iy) (acs _ _ _) ?_;refine ir (h_.below v4 bl Y8) hp.one ?_;refine gY ?_;exact WQ.tl rfl rfl rfl hp.len vf hf
  case neg=>
  have k1:x.kind=1:=gZ;refine iu ?_;refine WC.loop (fun i:Nat=>[(0,iF rb),(3,iF g3),(4,iF g4),(5,iF g5),(7,Iq (verL (s.rows.take i) (x.table,x.doc))),(8,Iq i)]) (fun i wx=>i <= s.rows.length /\ iB w5 wx) (fun i=>s.rows.length - i) 0 iW ⟨aw _,Below.refl _ _⟩ ?_;rintro i wl ⟨hi,bl⟩;have dl:=(bl.cell (p:=⟨rb,1,none⟩) qd).trans d1
  by_cases iS:i<s.rows.length
  case pos=>
   obtain⟨b,o,oc,yl,es,hb,-,ve,-,A_,-⟩:=mw yC iS;obtain⟨rfl,rfl⟩:Lu=some ⟨b,o,none⟩ /\ J3=oc:=by simpa using es
   clear es;have hv:=Kk (k:=(x.table,x.doc)) iS;have Zu:=rr.wS _ (show s.rows.getD i jf∈s.rows by rw[jW iS];exact aN iS);have x0:=ve.lj;have x1:=ve.doc;have Tp:=ve.iZ;have x2:=(bl.cell (p:=⟨b,o+i*14+2,none⟩) hb).trans ve.iZ;have ND:=A_.iZ;have jU:(s.rows.getD i jf).key=(x.table,x.doc) ↔ (s.rows.getD i jf).lj=x.table /\ (s.rows.getD i jf).doc=x.doc:=⟨fun q=>⟨congrArg Prod.fst q,congrArg Prod.snd q⟩,fun q=>dN q.1 q.2⟩;generalize s.rows.getD i jf=r at x0 x1 x2 Tp hv Zu ND jU
   by_cases e1:r.lj=x.table
   case neg=>
    rw[if_neg (fun q=>e1 (jU.1 q).1)] at hv;refine iu ?_;refine WC.drawn 23 (iB w5) fun wa jh=>?_;have hS:=bl.trans ((jh.below _).mono bl.size);clear jh;refine iq [0,1,2] hS ?_;refine ik 3 [5,6,7,10,11,12,13,14,15,16,17,18,19,20,21,22,23] (jZ qd d1) hS ?_;refine iq [4] hS ?_;refine jV 5 i (o+i*14) iS (.inr hS) ?_;refine iq [6] hS ?_;refine ik 7 [10,11,12,13,14,15,16,17,18,19,20,21,22,23] (jZ hb x0) hS ?_;refine iq [8] hS ?_;refine ik 9 [10,11,12,13,14,15,16,17,18,19,20,21,22,23] (jZ l3 cx) hS ?_;refine iq [10,11,12,13,14,15,16,17,18,19,20,21,22] hS ?_;refine iI 23 ?_;refine iA ?_;refine iO ?_;refine im ?_;refine gY ?_;exact WQ.again (i+1) ⟨rfl,rfl,rfl,rfl,congrArg (fun z=>some (Value.int .i64 z)) hv.symm,rfl,trivial⟩ ⟨iS,hS⟩ gZ
   case pos=>
   by_cases e2:r.doc=x.doc
   case neg=>
    rw[if_neg (fun q=>e2 (jU.1 q).2)] at hv;refine iu ?_;refine WC.drawn 23 (iB w5) fun wa jh=>?_;have hS:=bl.trans ((jh.below _).mono bl.size);clear jh;refine iq [0,1,2] hS ?_;refine ik 3 [5,6,7,10,11,12,13,14,15,16,17,18,19,20,21,22,23] (jZ qd d1) hS ?_;refine iq [4] hS ?_;refine jV 5 i (o+i*14) iS (.inr hS) ?_;refine iq [6] hS ?_;refine ik 7 [10,11,12,13,14,15,16,17,18,19,20,21,22,23] (jZ hb x0) hS ?_;refine iq [8] hS ?_;refine ik 9 [10,11,12,13,14,15,16,17,18,19,20,21,22,23] (jZ l3 cx) hS ?_;refine iq [10,11,12,13,14] hS ?_;refine ik 15 [17,18,19,22,23] (jZ qd d1) hS ?_;refine iq [16] hS ?_;refine jV 17 i (o+i*14) iS (.inr hS) ?_;refine iq [18] hS ?_;refine ik 19 [22,23] (jZ hb x1) hS ?_;refine iq [20] hS ?_;refine ik 21 [22,23] (jZ l3 cy) hS ?_;refine iq [22] hS ?_;refine iI 23 ?_;refine iA ?_;refine iO ?_;refine im ?_;refine gY ?_;exact WQ.again (i+1) ⟨rfl,rfl,rfl,rfl,congrArg (fun z=>some (Value.int .i64 z)) hv.symm,rfl,trivial⟩ ⟨iS,hS⟩ gZ
   case pos=>
    rw[if_pos (jU.2 ⟨e1,e2⟩)] at hv;refine iu ?_;refine WC.drawn 23 (iB w5) fun wa jh=>?_;have hS:=bl.trans ((jh.below _).mono bl.size);clear jh;refine iq [0,1,2] hS ?_;refine ik 3 [5,6,7,10,11,12,13,14,15,16,17,18,19,20,21,22,23] (jZ qd d1) hS ?_;refine iq [4] hS ?_;refine jV 5 i (o+i*14) iS (.inr hS) ?_;refine iq [6] hS ?_;refine ik 7 [10,11,12,13,14,15,16,17,18,19,20,21,22,23] (jZ hb x0) hS ?_;refine iq [8] hS ?_;refine ik 9 [10,11,12,13,14,15,16,17,18,19,20,21,22,23] (jZ l3 cx) hS ?_;refine iq [10,11,12,13,14] hS ?_;refine ik 15 [17,18,19,22,23] (jZ qd d1) hS ?_;refine iq [16] hS ?_;refine jV 17 i (o+i*14) iS (.inr hS) ?_;refine iq [18] hS ?_;refine ik 19 [22,23] (jZ hb x1) hS ?_;refine iq [20] hS ?_;refine ik 21 [22,23] (jZ l3 cy) hS ?_;refine iq [22] hS ?_;refine iI 23 ?_;refine iA ?_;refine iO ?_;refine im ?_;have dS:=(hS.cell (p:=⟨rb,1,none⟩) qd).trans d1;have xS:=(hS.cell (p:=⟨b,o+i*14+2,none⟩) hb).trans Tp;refine iu ?_;refine iG i (o+i*14) iS ?_;refine iu ?_;exact WQ.again (i+1) ⟨rfl,rfl,rfl,rfl,congrArg (fun z=>some (Value.int .i64 z)) hv.symm,rfl,trivial⟩ ⟨iS,hS⟩ gZ
  case neg=>
  obtain rfl:i=s.rows.length:=gZ;rw[aI];obtain⟨sL,yL,xP,xD,qe,py,rfl⟩:=yQ Au;have he:kZ s x={ jo with kind:=2,table:=x.table,doc:=x.doc,iZ:=verL s.rows (x.table,x.doc),data:=x.data,hash:=kB x.data }:=by unfold kZ;rw[if_neg k0,if_pos k1,yp]
  have hp:nN (jE E (f+1) w) { jo with kind:=2,table:=x.table,doc:=x.doc,iZ:=verL s.rows (x.table,x.doc),data:=x.data,hash:=kB x.data } (iU { jo with kind:=2,table:=x.table,doc:=x.doc,iZ:=verL s.rows (x.table,x.doc),data:=x.data,hash:=kB x.data } [Iq x.data.k,Iq x.data.n,Iq x.data.s,.string x.data.t,.slice sL xP qe,.slice yL xD py]):=⟨_,rfl,Au,rfl,Au.one,pC _,I2 _,GX,⟨r0 2 gZ,kK.table,kK.doc,hvR,r0 0 gZ,r0 0 gZ⟩⟩;obtain⟨vf,hf⟩:=fin bl hp he;have ckl:=(bl.cell (p:=⟨g3,0,none⟩) l3).trans ck;have cxl:=(bl.cell (p:=⟨g3,1,none⟩) l3).trans cx;have cyl:=(bl.cell (p:=⟨g3,2,none⟩) l3).trans cy;refine iu ?_;refine ig (A1.below bl).data rfl ?_;refine iu ?_;refine ig (h_.rangeAt (h_.below v5 bl (h_.lt v5))) tg ?_;refine iE (iU { jo with kind:=2,table:=x.table,doc:=x.doc,iZ:=verL s.rows (x.table,x.doc),data:=x.data,hash:=kB x.data } [Iq x.data.k,Iq x.data.n,Iq x.data.s,.string x.data.t,.slice sL xP qe,.slice yL xD py]) (adV _ _ _ _ (pC _) _ _ _ _ _ _ _ _ _ _ _) ?_;refine ir (hm:=hp.len) (h_.below v4 bl Y8) hp.one ?_;refine gY ?_;exact WQ.tl rfl rfl rfl hp.len vf hf
 case neg=>
 obtain⟨k1,k2⟩:¬x.kind=1 /\ ¬x.kind=2:=⟨fun q=>k12 (.inl q),fun q=>k12 (.inr q)⟩
 by_cases k3:x.kind=3
 case pos=>
  obtain⟨R,hR,eR⟩:∃R:Nat,R <= 65535 /\ bits .and .i64 x.pick 65535=(R:Int):=K.bits_mask x.pick 65535 gZ;have cpk:=A1.pick;have l3:=h_.lt A1.blk
  by_cases kD:s.rows=[]
  case pos=>
   have he:kZ s x={ jo with kind:=4 }:=by unfold kZ;rw[if_neg k0,if_neg k1,if_neg k2,if_pos k3,if_pos kD]
   have hp:nN (jE E (f+1) w) { jo with kind:=4 } (iU { jo with kind:=4 } iy):=RN rfl rfl GX ⟨r0 4 gZ,r0 0 gZ,r0 0 gZ,r0 0 gZ,r0 0 gZ,r0 0 gZ⟩;have BY:s.rows.length=0:=by rw[kD];rfl
   obtain⟨vf,hf⟩:=fin (Below.refl _ w5) hp he;refine iu ?_;refine iE (iU { jo with kind:=4 } iy) ZU ?_;refine ir v4 hp.one ?_;refine gY ?_;exact WQ.tl rfl rfl rfl hp.len vf hf
  case neg=>
   obtain⟨q,hq⟩:∃q,s.rows.length=q+1:=⟨s.rows.length - 1,by have:=gM.2 kD;omega⟩;have hj:R % (q+1)<s.rows.length:=by rw[hq];exact Nat.mod_lt _ gZ
   have ajI:NZ s x.pick=s.rows.getD (R % (q+1)) jf:=by unfold NZ;rw[eR,hq];rfl
   have he:kZ s x={ jo with kind:=4,ab:=(s.rows.getD (R % (q+1)) jf).blk,ae:=(s.rows.getD (R % (q+1)) jf).ni }:=by unfold kZ;rw[if_neg k0,if_neg k1,if_neg k2,if_pos k3,if_neg kD,ajI]
   obtain⟨b,o,oc,yl,es,hb,-,ve,ND,A_,-⟩:=mw yC hj;obtain⟨rfl,rfl⟩:Lu=some ⟨b,o,none⟩ /\ J3=oc:=by simpa using es
   clear es;generalize s.rows.getD (R % (q+1)) jf=r at he ve ND A_;have hp:nN (jE E (f+1) w) { jo with kind:=4,ab:=r.blk,ae:=r.ni } (iU { jo with kind:=4,ab:=r.blk,ae:=r.ni } iy):=RN rfl rfl GX ⟨r0 4 gZ,r0 0 gZ,r0 0 gZ,r0 0 gZ,A_.blk,A_.ni⟩;have aqj:=ve.all;refine iu ?_;refine WC.drawn 16 (iB w5) fun wa jh=>?_;have hS:iB w5 wa:=jh.below _;clear jh;refine iq [0,1,2] hS ?_;refine ik 3 [13,14,16] (jZ qd d1) hS ?_;refine iq [4] hS ?_;refine ik 5 [6,12,13,14,16] (jZ l3 cpk) hS ?_;refine WD.EH 6 (Iq (R:Int)) rfl (by kernel_rfl) rfl rfl (fun _ _ _ _ _ h=>h) rfl rfl (congrArg (Value.int .i64) eR) (.inr hS) ?_;refine iq [7,8,9] hS ?_;refine ik 10 [11,12,13,14,16] (jZ qd d1) hS ?_;refine WD.EH 11 (Iq ((q+1:Nat):Int)) rfl (by kernel_rfl) rfl rfl (fun _ _ _ _ _ h=>h) rfl rfl (by rw[hq]) (.inr hS) ?_;refine WD.EH 12 (Iq ((R % (q+1):Nat):Int)) rfl (by kernel_rfl) rfl rfl (fun _ _ _ _ _ h=>h) rfl rfl rfl (.inr hS) ?_;refine WD.idx 13 (R % (q+1)) (o+R % (q+1)*14) rfl (by kernel_rfl) rfl rfl (fun _ _ _ _ _ h=>h) rfl rfl rfl rfl rfl rfl hj rfl (.inr hS) ?_;refine jG (hm:=(jO ND.len)) 14 [16] (fun wx hx=>fun u v hv=>(hx.cell (p:=⟨b,o+R % (q+1)*14+u,none⟩) hb).trans (aqj u v hv)) hS ?_;refine iI 15 ?_;refine ix (z:=.agg (jQ jf iy).toArray) (fun _=>by kernel_rfl) fun g9 w6 f6=>?_;have hS6:=hS.iR f6.below;refine km hS6 ?_;refine iI 16 ?_;refine ir (hm:=(jO ND.len)) f6.blk (lF ND.one) ?_;obtain⟨v9,b9,-,-⟩:=mh (jQ r yl) hS f6;generalize w6.setRow g9 _=w7 at v9 b9 ⊢;clear f6;refine iO ?_;refine im ?_;have R9:=p8.of (h_.rangeAt v9) ND.len;have cb9:w7.cell? ⟨g9,11,none⟩=some (Iq r.blk):=R9.blk;have ce9:w7.cell? ⟨g9,12,none⟩=some (Iq r.ni):=R9.ni;obtain⟨vf,hf⟩:=fin b9 hp he;refine iu ?_;refine iE [Iq r.blk,Iq r.ni] (Il _ _) ?_;refine iE (iU { jo with kind:=4,ab:=r.blk,ae:=r.ni } iy) (aaP _ _) ?_;refine ir (h_.below v4 b9 Y8) hp.one ?_;refine gY ?_;exact WQ.tl rfl rfl rfl hp.len vf hf
 case neg=>
 by_cases k4:x.kind=4
 case pos=>
  have he:kZ s x={ jo with kind:=5,table:=(s.cat.length:Int)+1,text:=x.field }:=by unfold kZ;rw[if_neg k0,if_neg k1,if_neg k2,if_neg k3,if_pos k4]
  have hp:nN (jE E (f+1) w) { jo with kind:=5,table:=(s.cat.length:Int)+1,text:=x.field } (iU { jo with kind:=5,table:=(s.cat.length:Int)+1,text:=x.field } iy):=RN rfl rfl kK.field ⟨r0 5 gZ,⟨by show _ <= (s.cat.length:Int)+1;omega,by show(s.cat.length:Int)+1 <= _;omega⟩,r0 0 gZ,r0 0 gZ,r0 0 gZ,r0 0 gZ⟩;have cf:=A1.field;have l3:=h_.lt A1.blk;refine iu ?_;refine WC.drawn 12 (iB w5) fun wa jh=>?_;have hS:iB w5 wa:=jh.below _;clear jh;refine iq [0,1,2] hS ?_;refine ik 3 [4,5,6,7,8,11,12] (jZ qd d0) hS ?_;refine iq [4,5] hS ?_;refine ik 6 [7,8,11,12] (jZ acW t0) hS ?_;refine iq [7,8,9] hS ?_;refine ik 10 [11,12] (jZ l3 cf) hS ?_;refine Cr.uh (iU { jo with kind:=5,table:=(s.cat.length:Int)+1,text:=x.field } iy) 11 rfl (by kernel_rfl) rfl rfl (fun _ _ _ _ _ h=>h) rfl rfl rfl (acE _ _) (.inr hS) ?_;refine iI 12 ?_;obtain⟨vf,hf⟩:=fin hS hp he;refine ir (h_.below v4 hS Y8) hp.one ?_;refine iO ?_;refine im ?_;refine gY ?_;exact WQ.tl rfl rfl rfl hp.len vf hf
 case neg=>
 by_cases k5:x.kind=5
 case pos=>
  have he:kZ s x={ jo with kind:=6,table:=x.table }:=by unfold kZ;rw[if_neg k0,if_neg k1,if_neg k2,if_neg k3,if_neg k4,if_pos k5]
  have hp:nN (jE E (f+1) w) { jo with kind:=6,table:=x.table } (iU { jo with kind:=6,table:=x.table } iy):=RN rfl rfl GX ⟨r0 6 gZ,kK.table,r0 0 gZ,r0 0 gZ,r0 0 gZ,r0 0 gZ⟩;obtain⟨vf,hf⟩:=fin (Below.refl _ w5) hp he;refine iu ?_;refine iE (iU { jo with kind:=6,table:=x.table } iy) (aaW _) ?_;refine ir v4 hp.one ?_;refine gY ?_;exact WQ.tl rfl rfl rfl hp.len vf hf
 case neg=>
 by_cases k6:x.kind=6
 case pos=>
  have cf:=A1.field;have he:kZ s x={ jo with kind:=7,table:=x.table,text:=x.field }:=by unfold kZ;rw[if_neg k0,if_neg k1,if_neg k2,if_neg k3,if_neg k4,if_neg k5,if_pos k6]
  have hp:nN (jE E (f+1) w) { jo with kind:=7,table:=x.table,text:=x.field } (iU { jo with kind:=7,table:=x.table,text:=x.field } iy):=RN rfl rfl kK.field ⟨r0 7 gZ,kK.table,r0 0 gZ,r0 0 gZ,r0 0 gZ,r0 0 gZ⟩;obtain⟨vf,hf⟩:=fin (Below.refl _ w5) hp he;refine iu ?_;refine iE (iU { jo with kind:=7,table:=x.table,text:=x.field } iy) (acP _ _) ?_;refine ir v4 hp.one ?_;refine gY ?_;exact WQ.tl rfl rfl rfl hp.len vf hf
 case neg=>
  have he:kZ s x=x.e:=by unfold kZ;rw[if_neg k0,if_neg k1,if_neg k2,if_neg k3,if_neg k4,if_neg k5,if_neg k6]
  obtain⟨vf,hf⟩:=fin (Below.refl _ w5) u6 he;refine iu ?_;refine ig A1.e kU ?_;refine ir (hm:=kU) v4 u6.one ?_;refine gY ?_;exact WQ.tl rfl rfl rfl kU vf hf
end Vw
open Go.ChangeShapes Go.WideShapes Go.ChangeAt
namespace K
section
variable {H:Type}{P:Program}
def nW (P:Program) (t:TypeId) (d:DataW H):Prop:=∀n∈d.weights P t,n <= reachBytes
theorem zX {e:TypeId}:∀ {ds:List (DataW H)}{d:DataW H}{n:Nat},d∈ds -> n∈d.weights P e -> n∈DataW.weightsAll P e ds
 | d0 :: ds,d,n,hd,hn=>by
  rw[DataW.weightsAll,aq];rcases ar.1 hd with rfl|hd
  ·exact .inl hn
  ·exact .inr (zX hd hn)
theorem nW.slice {t e:TypeId}{elems spare:List (DataW H)}(hu:P.underlying t=some (.slice e)) (h:nW P t (.slice elems spare)): (elems.length+spare.length)*P.bytesOf e <= reachBytes /\ ∀d∈elems,nW P e d:=by
 unfold nW at h;rw[DataW.weights,hu] at h;simp only[ar,aq] at h;exact⟨h _ (.inl rfl),fun d hd n hn=>h n (.inr (.inl (zX hd hn)))⟩
theorem nW.agg {t:TypeId}{fs:Array Field}{parts:List (DataW H)}(hu:P.underlying t=some (.struct fs)) (h:nW P t (.agg parts)) {f:Field}{d:DataW H}(hf:fs[i]? = some f) (hd:parts[i]? = some d): nW P f.type d:=by
 unfold nW at h;rw[DataW.weights,hu] at h;exact fun n hn=>h n (DataW.weights_mem_each (j:=i) (by simp[hf]) hd n hn)
theorem nW.string {t:TypeId}{l:List UInt8}(h:nW P t (.lit (.string l):DataW H)): l.length <= reachBytes:=h _ (by simp[DataW.weights])
end
section
variable {H:Type}{enc:TypeId × Value -> H}{W:World}{base:Nat}{held:Bool}
theorem o6 {n:Nat}(h:n <= reachBytes): n <= 140737488355328:=aU h j9
theorem FH {t e:TypeId}{v:Value}{x:DataW H × List MemPlace}(m:Nat) (ZQ:0<m) (hu:prog.underlying t=some (.slice e)) (yD:prog.cellsOf e=m) (h:DataW.trod enc prog W base (fun _=>true) held fuel t [v]=some x):
  ∃sp len cap,v=.slice sp len cap /\ len <= cap /\ cap <= 9223372036854775807 /\ ∃n elems rest,n<fuel /\ (x.1=.slice (elems.map (·.1)) rest \/ (x.1=.nil /\ elems=[])) /\ elems.length=len /\
   ∀i,i<len -> ∃(b o:Nat) (cs:List Value) (y:DataW H × List MemPlace),sp=some ⟨b,o,none⟩ /\ b<W.heap.size /\ cs.length=m /\ W.rangeAt b (o+i*m) cs /\ elems[i]? = some y /\ DataW.trod enc prog W base (fun _=>true) held n e cs=some y:=by
 rcases DataW.trod_slice hu h with⟨hcs,rfl⟩|⟨a,len,cap,elems,rest,n,rfl,hcs,rfl,hb,hl,uN,hlen,kU,-,-⟩
 ·obtain rfl:v=.slice none 0 0:=by simpa using hcs
  cases fuel with
  | zero=>simp[DataW.trod] at h
  | succ f=>exact⟨none,0,0,rfl,af _,gZ,f,[],[],gZ,.inr ⟨rfl,rfl⟩,rfl,fun i hi=>absurd hi gZ⟩
 ·obtain rfl:v=.slice (some a) len cap:=by simpa using hcs
  refine⟨some a,len,cap,rfl,hl,by unfold maxLen at uN;exact uN,n,elems,rest.map (·.1),gZ,.inl rfl,hlen,fun i hi=>?_⟩;have h1:=kU i hi;rw[yD] at h1;obtain⟨y,hy⟩:∃y,elems[i]? = some y:=⟨elems[i],ah gZ⟩;rw[hy] at h1;obtain⟨cs,tC,rO⟩:=eG.1 h1;obtain⟨-,mg,j6⟩:=World.cells?_some tC;have h00:=kU 0 gZ;rw[yD] at h00;obtain⟨y0,hy0⟩:∃y,elems[0]? = some y:=⟨elems[0],ah gZ⟩;rw[hy0] at h00;obtain⟨cs0,aqb,-⟩:=eG.1 h00;obtain⟨-,awA,anZ⟩:=World.cells?_some aqb;have Lr:=anZ 0 ZQ;have e0:(a.add (0*m)).add 0=a:=by rw[gU];rfl
  rw[e0,ah gZ] at Lr;have pX:=UA Lr;obtain⟨b,o,s⟩:=a;simp only at pX;subst pX;refine⟨b,o,cs,y,rfl,block_lt_of_cell Lr,mg,fun j u hj=>?_,hy,rO⟩;have Gg:j<m:=by
   rcases aO j m with h|h
   ·exact h
   ·rw[aG gZ] at hj;cases hj
  have:=j6 j Gg;rw[xW,xW] at this;rw[this];exact hj
theorem LW.mono {P P':V -> List Value -> Prop}{v:Value}{l:List V}(h:LW P w v l) (hP:∀x cs,P x cs -> P' x cs): LW P' w v l:=by
 obtain⟨sp,cap,h1,h2,h3,h4⟩:=h;refine⟨sp,cap,h1,h2,h3,fun h0=>?_⟩;obtain⟨b,o,e,iS,hr⟩:=h4 h0;refine⟨b,o,e,iS,fun j hj=>?_⟩;obtain⟨cs,hc,hp,j6⟩:=hr j hj;exact⟨cs,hc,hP _ _ hp,j6⟩
theorem kH.mono: ∀ {f f':Nat}{v:V}{cs:List Value},f <= f' -> kH f w v cs -> kH f' w v cs
 | 0,_,_,_,_,h=>h.elim
 | f+1,f',v,cs,hf,h=>by
  obtain⟨g,rfl⟩:∃g,f'=g+1:=⟨f' - 1,gZ⟩;obtain⟨sn,sk,h1,h2,h3,h4,h5,h6,h7⟩:=h;exact⟨sn,sk,h1,h2,h3,h4,h5,h6,LW.mono h7 fun _ _ hp=>kH.mono gZ hp⟩
theorem o_.mono: ∀ {f f':Nat}{v:V},f <= f' -> o_ f v -> o_ f' v
 | 0,_,_,_,h=>h.elim
 | f+1,f',v,hf,h=>by
  obtain⟨g,rfl⟩:∃g,f'=g+1:=⟨f' - 1,gZ⟩;exact⟨h.1,h.2.1,fun x hx=>o_.mono gZ (h.2.2 x hx)⟩
theorem zx: prog.cellsOf 25=6:=by kernel_rfl
theorem oP: prog.cellsOf 3=1:=by kernel_rfl
theorem Bz: prog.cellsOf 9=1:=by kernel_rfl
theorem Xs: prog.bytesOf 9=16:=by kernel_rfl
theorem WU: prog.bytesOf 25=88:=by kernel_rfl
theorem Ty {v:Value}{x:DataW H × List MemPlace}(h:DataW.trod enc prog W base (fun _=>true) held fuel 22 [v]=some x) (hz:nW prog 22 x.1):
  ∃l,Bi W v l /\ l.length <= 140737488355328:=by
 obtain⟨sp,len,cap,rfl,hl,hc,n,elems,rest,-,hx,hlen,kU⟩:=FH 1 gZ underlying22 Bz h;have key:∀i,i<len -> ∃(s:ByteArray),s.size <= 140737488355328 /\ ∃b o,sp=some ⟨b,o,none⟩ /\ b<W.heap.size /\ W.cell? ⟨b,o+i,none⟩=some (.string s):=by
  intro i hi;obtain⟨b,o,cs,y,pX,hb,mg,j6,hy,ht⟩:=kU i hi;obtain⟨s,rfl,rfl,-⟩:=DataW.trod_string underlying9 ht;have hw:nW prog 9 (.lit (.string s.data.toList):DataW H):=by
   rcases hx with hx|⟨-,rfl⟩
   ·rw[hx] at hz
    exact(hz.slice underlying22).2 _ (bg.2 ⟨_,dh hy,rfl⟩)
   ·cases hy
  have:=hw.string;rw[bI] at this;refine⟨s,o6 this,b,o,pX,hb,?_⟩;have:=j6 0 _ rfl;rw[cP] at this;exact this
 have:Inhabited ByteArray:=⟨jz⟩;obtain⟨g,hg⟩:=eP key;have qM:∀k,k<len -> ((List.range len).map g).getD k jz=g k:=fun k hk=>by simp[hk]
 have vW:((List.range len).map g).length=len:=iz;refine⟨(List.range len).map g,⟨sp,cap,by rw[vW],by rw[vW];exact hl,hc,fun j hj=>?_,fun h0=>?_⟩,?_⟩
 ·rw[vW] at hj;rw[qM j hj];exact(hg j hj).1
 ·rw[vW] at h0
  obtain⟨-,b,o,pX,hb,-⟩:=hg 0 h0;refine⟨b,o,pX,hb,fun j hj=>?_⟩;rw[vW] at hj;obtain⟨-,b2,o2,G5,-,DF⟩:=hg j hj;rw[pX] at G5;cases G5
  rw[qM j hj];exact DF
 ·rw[vW]
  rcases hx with hx|⟨-,rfl⟩
  ·rw[hx] at hz
   have:=(hz.slice underlying22).1;rw[Xs,av,hlen] at this;exact o6 gZ
  ·simp at hlen;omega
theorem Qx: ∀(fuel:Nat),(∀n,n<fuel -> ∀ {cs:List Value}{x:DataW H × List MemPlace},DataW.trod enc prog W base (fun _=>true) held n 25 cs=some x -> nW prog 25 x.1 -> ∃v,kH n W v cs /\ o_ n v) ->
  ∀ {v:Value}{x:DataW H × List MemPlace},DataW.trod enc prog W base (fun _=>true) held fuel 23 [v]=some x -> nW prog 23 x.1 -> ∃l n,n<fuel /\ Xq n W v l /\ (∀y∈l,o_ n y) /\ l.length <= 140737488355328:=by
 intro fuel ih v x h hz;obtain⟨sp,len,cap,rfl,hl,hc,n,elems,rest,hn,hx,hlen,kU⟩:=FH 6 gZ underlying23 zx h;have key:∀i,i<len -> ∃(y:V),o_ n y /\ ∃b o cs,sp=some ⟨b,o,none⟩ /\ b<W.heap.size /\ cs.length=6 /\ kH n W y cs /\ W.rangeAt b (o+i*6) cs:=by
  intro i hi;obtain⟨b,o,cs,y,pX,hb,mg,j6,hy,ht⟩:=kU i hi;have hw:nW prog 25 y.1:=by
   rcases hx with hx|⟨-,rfl⟩
   ·rw[hx] at hz
    exact(hz.slice underlying23).2 _ (bg.2 ⟨_,dh hy,rfl⟩)
   ·cases hy
  obtain⟨v,hv,hs⟩:=ih n hn ht hw;exact⟨v,hs,b,o,cs,pX,hb,mg,hv,j6⟩
 have:Inhabited V:=⟨lH⟩;obtain⟨g,hg⟩:=eP key;have qM:∀k,k<len -> ((List.range len).map g).getD k lH=g k:=fun k hk=>by simp[hk]
 have vW:((List.range len).map g).length=len:=iz;refine⟨(List.range len).map g,n,hn,⟨sp,cap,by rw[vW],by rw[vW];exact hl,hc,fun h0=>?_⟩,fun y hy=>?_,?_⟩
 ·rw[vW] at h0
  obtain⟨-,b,o,-,pX,hb,-⟩:=hg 0 h0;refine⟨b,o,pX,hb,fun j hj=>?_⟩;rw[vW] at hj;obtain⟨-,b2,o2,cs,G5,-,mg,hv,j6⟩:=hg j hj;rw[pX] at G5;cases G5
  rw[qM j hj];exact⟨cs,mg,hv,j6⟩
 ·obtain⟨i,hi,rfl⟩:=bg.1 hy
  exact(hg i (bO.1 hi)).1
 ·rw[vW]
  rcases hx with hx|⟨-,rfl⟩
  ·rw[hx] at hz
   have:=(hz.slice underlying23).1;rw[WU,av,hlen] at this;exact o6 gZ
  ·simp at hlen;omega
theorem oF {l:List Value}{o:Nat}{v:Value}(h:(l.drop o).take 1=[v]): l[o]? = some v:=by
 have:((l.drop o).take 1)[0]? = some v:=by rw[h];rfl
 simpa[List.getElem?_take] using this
theorem MA: ∀(fuel:Nat) {cs:List Value}{x:DataW H × List MemPlace},DataW.trod enc prog W base (fun _=>true) held fuel 25 cs=some x -> nW prog 25 x.1 -> ∃v,kH fuel W v cs /\ o_ fuel v:=by
 intro fuel
 induction fuel using Nat.strongRecOn with
 | _ fuel ih=>
  intro cs x h hz;obtain⟨xs,n,rfl,rfl,hl,Hf,hx⟩:=DataW.trod_struct underlying25 h;have Wv:xs.length=6:=Hf;rw[zx] at hl;have e:∀i,i<6 -> ∃y,xs[i]? = some y:=fun i hi=>⟨xs[i],ah gZ⟩;obtain⟨x0,e0⟩:=e 0 gZ;obtain⟨x1,e1⟩:=e 1 gZ;obtain⟨x2,e2⟩:=e 2 gZ;obtain⟨x3,e3⟩:=e 3 gZ;obtain⟨x4,e4⟩:=e 4 gZ;obtain⟨x5,e5⟩:=e 5 gZ;have h0:=hx 0 _ rfl;have h1:=hx 1 _ rfl;have h2:=hx 2 _ rfl;have h3:=hx 3 _ rfl;have h4:=hx 4 _ rfl;have h5:=hx 5 _ rfl;rw[e0] at h0;rw[e1] at h1;rw[e2] at h2;rw[e3] at h3;rw[e4] at h4;rw[e5] at h5;have z:∀ {i:Nat}{f:Field}{y:DataW H × List MemPlace},_ -> xs[i]? = some y -> nW prog f.type y.1:=fun {i f y} hf hy=>nW.agg underlying25 hz (i:=i) (f:=f) hf (by rw[cD,hy];rfl);have z3:nW prog 9 x3.1:=z (i:=3) rfl e3;have z4:nW prog 22 x4.1:=z (i:=4) rfl e4;have z5:nW prog 23 x5.1:=z (i:=5) rfl e5;obtain⟨a,ha,-,wa⟩:=DataW.trod_int underlying3 h0;obtain⟨b,hb,-,wb⟩:=DataW.trod_int underlying3 h1;obtain⟨c,hc,-,wc⟩:=DataW.trod_int underlying3 h2;obtain⟨s,hs,B7,-⟩:=DataW.trod_string underlying9 h3;have t0:cs[0]? = some (Iq a):=oF (by rw[<- oP];exact ha);have t1:cs[1]? = some (Iq b):=oF (by rw[<- oP];exact hb);have t2:cs[2]? = some (Iq c):=oF (by rw[<- oP];exact hc);have t3:cs[3]? = some (.string s):=oF (by rw[<- Bz];exact hs)
  match cs,hl with
  | [c0,c1,c2,c3,c4,c5],_=>
   simp at t0 t1 t2 t3
   subst t0;subst t1;subst t2;subst t3;have YQ:DataW.trod enc prog W base (fun _=>true) held n 22 [c4]=some x4:=h4;have NU:DataW.trod enc prog W base (fun _=>true) held n 23 [c5]=some x5:=h5;obtain⟨names,m4,Rr⟩:=Ty YQ z4;obtain⟨kids,k,hk,wQ,tk,tc⟩:=Qx n (fun q hq {cs x} h1 h2=>ih q gZ h1 h2) NU z5;rw[B7] at z3;have j5:=z3.string;rw[bI] at j5;refine⟨.mk a b c s names kids,⟨c4,c5,rfl,wa,wb,wc,o6 j5,m4,LW.mono wQ fun _ _ hp=>kH.mono gZ hp⟩,Rr,tc,fun y hy=>o_.mono gZ (tk y hy)⟩
theorem Jd {b0:Nat}{r:Reach}{v:Value}{d:DataW H}{p:List MemPlace}(xd:Value.okWide prog W r b0 25 v) (h:DataW.Trod enc prog W base (fun _=>true) held 25 v d p):
  (∀n∈d.weights prog 25,n <= reachBytes) -> ∃f x cs,v=.agg cs.toArray /\ kH f W x cs /\ o_ f x:=by
 intro hz;obtain⟨cs,rfl,-⟩:=okWide_struct underlying25 xd;obtain⟨fuel,hf⟩:=h;obtain⟨x,h1,h2⟩:=MA fuel (cs:=cs.toList) hf hz;exact⟨fuel,x,cs.toList,by rw[Array.toArray_toList],h1,h2⟩
end
section
variable {H:Type}{enc:TypeId × Value -> H}{W:World}{base:Nat}{held:Bool}
theorem VI {x:DataW H × List MemPlace}(h:DataW.trod enc prog W base (fun _=>true) held fuel 31 cs=some x) (hl:cs.length=32):
  ∃l:List Int,cs=jq l /\ l.length=32 /\ Yk l:=by
 obtain⟨xs,m,-,-,-,Hf,hx⟩:=DataW.trod_array underlying31 h;have he:prog.cellsOf 5=1:=by kernel_rfl
 have kU:∀i,i<32 -> ∃q:Int,cs[i]? = some (.int .u8 q) /\ 0 <= q /\ q <= 255:=by
  intro i hi;have h1:=hx i hi;rw[he,cP,ah gZ] at h1;obtain⟨q,e1,-,e2⟩:=DataW.trod_int underlying5 h1;refine⟨q,oF e1,?_⟩;simp[Lit.wf,IntKind.min,IntKind.max,IntKind.bits,IntKind.signed] at e2
  omega
 have:Inhabited Int:=⟨0⟩;obtain⟨g,hg⟩:=eP kU;refine⟨(List.range 32).map g,?_,iz,fun c hc=>?_⟩
 ·refine eU fun i=>?_
  by_cases hi:i<32
  ·rw[(hg i hi).1];simp[hi]
  ·rw[aG gZ,aG (by simp;omega)]
 ·obtain⟨i,hi,rfl⟩:=bg.1 hc
  exact(hg i (bO.1 hi)).2
theorem anX {α:Type}(cs:List α): cs=cs.take 5++((cs.drop 5).take 6++((cs.drop 11).take 32++cs.drop 43)):=by
 have h1:cs.drop 43=(cs.drop 11).drop 32:=by rw[dR]
 have h2:cs.drop 11=(cs.drop 5).drop 6:=by rw[dR]
 rw[h1,aL,h2,aL,aL]
theorem oI {x:Int}(h:(Lit.int .i64 x).wf=true): jX x:=by
 simp[Lit.wf,IntKind.min,IntKind.max,IntKind.bits,IntKind.signed] at h;omega
theorem aaI {x:DataW H × List MemPlace}(h:DataW.trod enc prog W base (fun _=>true) held fuel 76 cs=some x) (hz:nW prog 76 x.1):
  ∃e,uE fuel W e cs /\ o_ fuel e.data:=by
 obtain⟨xs,n,rfl,rfl,hl,Hf,hx⟩:=DataW.trod_struct underlying76 h;have Wv:xs.length=9:=Hf;have mg:cs.length=46:=hl.trans (by kernel_rfl);have e:∀i,i<9 -> ∃y,xs[i]? = some y:=fun i hi=>⟨xs[i],ah gZ⟩;obtain⟨x0,e0⟩:=e 0 gZ;obtain⟨x1,e1⟩:=e 1 gZ;obtain⟨x2,e2⟩:=e 2 gZ;obtain⟨x3,e3⟩:=e 3 gZ;obtain⟨x4,e4⟩:=e 4 gZ;obtain⟨x5,e5⟩:=e 5 gZ;obtain⟨x6,e6⟩:=e 6 gZ;obtain⟨x7,e7⟩:=e 7 gZ;obtain⟨x8,e8⟩:=e 8 gZ;have h0:=hx 0 _ rfl;have h1:=hx 1 _ rfl;have h2:=hx 2 _ rfl;have h3:=hx 3 _ rfl;have h4:=hx 4 _ rfl;have h5:=hx 5 _ rfl;have h6:=hx 6 _ rfl;have h7:=hx 7 _ rfl;have h8:=hx 8 _ rfl;rw[e0] at h0;rw[e1] at h1;rw[e2] at h2;rw[e3] at h3;rw[e4] at h4;rw[e5] at h5;rw[e6] at h6;rw[e7] at h7;rw[e8] at h8;have z:∀ {i:Nat}{f:Field}{y:DataW H × List MemPlace},_ -> xs[i]? = some y -> nW prog f.type y.1:=fun {i f y} hf hy=>nW.agg underlying76 hz (i:=i) (f:=f) hf (by rw[cD,hy];rfl);have z1:nW prog 9 x1.1:=z (i:=1) rfl e1;have z5:nW prog 25 x5.1:=z (i:=5) rfl e5;obtain⟨a,ha,-,wa⟩:=DataW.trod_int underlying3 h0;obtain⟨s,hs,B7,-⟩:=DataW.trod_string underlying9 h1;obtain⟨b,hb,-,wb⟩:=DataW.trod_int underlying3 h2;obtain⟨c,hc,-,wc⟩:=DataW.trod_int underlying3 h3;obtain⟨d,hd,-,wd⟩:=DataW.trod_int underlying3 h4;have NU:DataW.trod enc prog W base (fun _=>true) held n 25 ((cs.drop 5).take (prog.cellsOf 25))=some x5:=h5;rw[zx] at NU;obtain⟨v,hv,hvs⟩:=MA n NU z5;have h6':DataW.trod enc prog W base (fun _=>true) held n 31 ((cs.drop 11).take (prog.cellsOf 31))=some x6:=h6;rw[show prog.cellsOf 31=32 by kernel_rfl] at h6';obtain⟨hh,xQ,tg,hhb⟩:=VI h6' (by simp[mg]);obtain⟨g,hg,-⟩:=DataW.trod_bool underlying4 h7;have h8':DataW.trod enc prog W base (fun _=>true) held n 74 ((cs.drop 44).take (prog.cellsOf 74))=some x8:=h8;rw[show prog.cellsOf 74=2 by kernel_rfl] at h8';obtain⟨ys,n8,-,-,Cn,hyl,hy⟩:=DataW.trod_struct underlying74 h8';have avY:ys.length=2:=hyl;obtain⟨y0,f0⟩:∃y,ys[0]? = some y:=⟨ys[0],ah gZ⟩;obtain⟨y1,f1⟩:∃y,ys[1]? = some y:=⟨ys[1],ah gZ⟩;have k0:=hy 0 _ rfl;have k1:=hy 1 _ rfl;rw[f0] at k0;rw[f1] at k1;obtain⟨ab,tf,-,wab⟩:=DataW.trod_int underlying3 k0;obtain⟨ae,EB,-,wae⟩:=DataW.trod_int underlying3 k1;have t0:cs[0]? = some (Iq a):=oF (by rw[<- oP];exact ha);have t1:cs[1]? = some (.string s):=oF (by rw[<- Bz];exact hs);have t2:cs[2]? = some (Iq b):=oF (by rw[<- oP];exact hb);have t3:cs[3]? = some (Iq c):=oF (by rw[<- oP];exact hc);have t4:cs[4]? = some (Iq d):=oF (by rw[<- oP];exact hd);have t43:cs[43]? = some (.bool g):=oF (by rw[<- show prog.cellsOf 4=1 by kernel_rfl];exact hg);have t44:((cs.drop 44).take 2)[0]? = some (Iq ab):=oF (by rw[<- oP];exact tf);have t45:((cs.drop 44).take 2)[1]? = some (Iq ae):=oF (by rw[<- oP];exact EB);have ap7:cs[44]? = some (Iq ab):=by simpa using t44
 have apo:cs[45]? = some (Iq ae):=by simpa using t45
 have j5:s.size <= 140737488355328:=by
  rw[B7] at z1;have:=z1.string;rw[bI] at this;exact o6 this
 have VF:cs.take 5=[Iq a,.string s,Iq b,Iq c,Iq d]:=by
  refine eU fun i=>?_
  match i with
  | 0=>simpa using t0
  | 1=>simpa using t1
  | 2=>simpa using t2
  | 3=>simpa using t3
  | 4=>simpa using t4
  | i+5=>rw[aG (by simp;omega),aG iz]
 have ams:cs.drop 43=[.bool g,Iq ab,Iq ae]:=by
  refine eU fun i=>?_
  match i with
  | 0=>simpa using t43
  | 1=>simpa using ap7
  | 2=>simpa using apo
  | i+3=>rw[aG (by simp;omega),aG iz]
 refine⟨⟨a,s,b,c,d,v,hh,g,ab,ae⟩,⟨(cs.drop 5).take 6,?_,kH.mono gZ hv,by simp[mg],kH.one hv,tg,hhb,j5,oI wa,oI wb,oI wc,oI wd,oI wab,oI wae⟩,o_.mono gZ hvs⟩;have:=anX cs;rw[VF,ams,xQ] at this;exact this.trans rfl
theorem agu: prog.cellsOf 76=46:=by kernel_rfl
end
end K
end Go.Proofs.YtlenklobbngopaaGreat
