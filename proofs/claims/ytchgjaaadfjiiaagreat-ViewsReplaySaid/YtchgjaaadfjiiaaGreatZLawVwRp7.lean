/- Texts for LawVwRp, part 7 of 9. -/
import Derived.Test.YtchgjaaadfjiiaaGreatZLawVwRp6
namespace Go.Proofs.YtchgjaaadfjiiaaGreat
open Go.RowKit Go.Maps
namespace Vw
open K
set_option maxRecDepth 100000
def Grows (T B f : Nat) (w : World) (v : Value) (L : List Rw) : Prop :=
  ∃ D : Nat → Prop,(∀ x,D x → B ≤ x ∧ x < w.heap.size) ∧ (∀ g,v.ownBlock = some g → ¬ D g) ∧ OwnE T 14 noR (RowP D f w) (fun x => B ≤ x) w v L
theorem Grows.nil (T B f : Nat) (w : World) : Grows T B f w (.slice none 0 0) []:=⟨fun _ => False,fun _ h => h.elim,(fun g h => by cases h),K.OwnE.nil _ _ _ _ _ _⟩
theorem Grows.below {T B f : Nat} {w w' : World} {v : Value} {L : List Rw} (h : Grows T B f w v L) (hb : Below w.heap.size w w') : Grows T B f w' v L:=by
  obtain ⟨D,h1,h2,h3⟩:=h;exact ⟨D,fun x hx => ⟨(h1 x hx).1,Nat.lt_of_lt_of_le (h1 x hx).2 hb.size⟩,h2,K.OwnE.keep h3 (Keep.of_below hb) (fun g hg => K.OwnE.lt h3 hg) (fun _ h => h) fun _ _ hp => hp.keep (Keep.of_below hb) (fun _ _ h => h) (fun _ h => h)⟩
theorem Grows.els {T B f : Nat} {w : World} {v : Value} {L : List Rw} (h : Grows T B f w v L) : Els 14 noR (RowP (fun x => B ≤ x) f w) (fun x => B ≤ x) w v L:=by
  obtain ⟨D,h1,-,h3⟩:=h;exact (own_els h3).mono (fun _ h => h) fun _ _ hp => hp.keep (K:=fun _ => True) ⟨rfl,rfl,rfl,Nat.le_refl _,fun _ _ => rfl⟩ (fun _ _ _ => trivial) (fun x hx => (h1 x hx).1)
theorem Grows.own {T B f : Nat} {w : World} {v : Value} {L : List Rw} (h : Grows T B f w v L) : ∀ g,v.ownBlock = some g → B ≤ g:=by obtain ⟨D,_,_,h3⟩:=h;exact fun g hg => K.OwnE.own h3 hg
theorem Grows.snoc {T B f : Nat} {wb wc wd : World} {v : Value} {L : List Rw} {r : Rw} {dc : List Value} (h : Grows T B f wb v L) (hB : B ≤ wb.heap.size) (bc : Below wb.heap.size wb wc) (hv : IsVo (fun x => wb.heap.size ≤ x) f wc r.data dc) (bd : Below wc.heap.size wc wd) (ok : RwOk r) (sm : Sm 3000 f r.data) :
    ∃ D,OwnE T 14 noR (RowP D f wd) (fun x => B ≤ x) wd v L ∧ RowP D f wd r (rwC r dc) ∧ ∀ {v' : Value} {we : World},OwnE T 14 noR (RowP D f wd) (fun b => B ≤ b ∨ b = wd.heap.size) we v' (L ++ [r]) → Grow wd v we v' → Grows T B f we v' (L ++ [r]):=by
  obtain ⟨D,h1,h2,h3⟩:=h;have z1:=bc.size;have z2:=bd.size;have bbd:=bc.trans (bd.mono z1);refine ⟨fun x => D x ∨ (wb.heap.size ≤ x ∧ x < wc.heap.size),K.OwnE.keep h3 (Keep.of_below bbd) (fun g hg => K.OwnE.lt h3 hg) (fun _ h => h) fun _ _ hp => hp.keep (Keep.of_below bbd) (fun _ _ h => h) (fun _ h => .inl h),
    ⟨dc,rfl,hv.there.keep (Keep.of_below bd) (fun _ _ h => h) (fun _ h => .inr h),ok,sm⟩,fun {v' we} ho hg => ?_⟩
  have hlt : ∀ x,(D x ∨ (wb.heap.size ≤ x ∧ x < wc.heap.size)) → B ≤ x ∧ x < wc.heap.size:=fun x hx => by
    rcases hx with hx | hx
    · have:=h1 x hx;omega
    · omega
  have hno : ∀ g,v.ownBlock = some g → ¬ (D g ∨ (wb.heap.size ≤ g ∧ g < wc.heap.size)):=fun g hg hx => by
    have:=K.OwnE.lt h3 hg;rcases hx with hx | hx
    · exact h2 g hg hx
    · omega
  have zg:=hg.1.size;obtain ⟨kcs,q1,q2,q3⟩:=ho;refine ⟨fun x => D x ∨ (wb.heap.size ≤ x ∧ x < wc.heap.size),fun x hx => ⟨(hlt x hx).1,by have:=(hlt x hx).2;omega⟩,fun g hgv hx => ?_,kcs,q1,fun i hi => ⟨(q2 i hi).1,(q2 i hi).2.keep hg.1 (fun x hx _ => ⟨by have:=(hlt x hx).2;omega,fun e => hno x e hx⟩) (fun _ h => h)⟩,q3.1,q3.2.1,fun g hgv => (q3.own hgv).elim id fun e => by show B ≤ g;omega⟩;rcases hg.2 g hgv with q | q
  · exact hno g q hx
  · have:=(hlt g hx).2;omega
def DocPost (w : World) (f : Nat) (T : Option Rw) (e : Ending) (w' : World) : Prop :=
  Below w.heap.size w w' ∧ ∃ r dc b,e = .returned (.tuple #[.agg (rwC r dc).toArray,.bool b]) ∧ IsVo (fun x => w.heap.size ≤ x) f w' r.data dc ∧ (match T with | some r' => r = r' ∧ b = true | none => r = noR ∧ b = false)
theorem RVs.fpos {w : World} {O : Nat → Prop} {f : Nat} {v : V} {cs : List Value} (h : IsVo O f w v cs) : ∃ f',f = f' + 1:=by
  cases f with
  | zero => exact h.elim
  | succ f => exact ⟨f,rfl⟩
theorem builtRow0 : Tryz.prog.built rrT [] = some (rwC noR zCells).toArray:=by kernel_rfl
set_option maxHeartbeats 4000000 in
theorem rdoc_any {w : World} {rb : Nat} {M D : Nat → Prop} {f : Nat} {s : St} {N : Nat} (h0 : RVs w rb M D (f + 1) s N) (t d : Int) :
    Calls Tryz.prog 40 #[.pointer (some ⟨rb,0,none⟩),.int .i64 t,.int .i64 d] w (DocPost w (f + 1) (liveR s (t,d))):=by
  obtain ⟨cp,Oc,rv,mb,k,h⟩:=id h0;refine enter (args:=[.pointer (some ⟨rb,0,none⟩),.int .i64 t,.int .i64 d]) Tryz.func40 rfl Tryz.ntmps40 rfl ?_;refine K.kgn ?_;refine WL.alloc (z:=.agg (rwC noR zCells).toArray) rfl rfl rfl rfl (fun _ => by kernel_rfl) fun g6 w1 f1 => ?_;have v6 : VBlk rrT w1 g6 (rwC noR zCells):=f1.blk;have b1:=f1.below;have e6:=f1.eq;clear f1;have h1:=h.below b1;have c0:=h1.vb.cell 0 (by simp);simp only [List.getD_cons_zero] at c0;have l6:=VBlk.lt v6;have z1:=b1.size;refine K.kgl ?_;refine WL.call rfl rfl rfl rfl rfl Tryz.func25 rfl (by kernel_rfl) (Cr.rtable_any h1.cat t) ?_;rintro _ w2 ⟨fv,rfl,ho,b2⟩;refine ⟨_,rfl,?_⟩;refine K.kgo ?_;refine WL.alloc (z:=.agg Cr.zTab.toArray) rfl rfl rfl rfl Cr.zeroRT fun g8 w3 f3 => ?_;refine WL.storeRow rfl rfl rfl rfl rfl rfl f3.blk rfl rfl (Cr.ones4 (Cr.OwnV.one ho)) ?_;obtain ⟨v8,b8,-,q8⟩:=rowed [Value.int .i64 (Cat.tabR s.cat t).1,.string (Cat.tabR s.cat t).2.1.name,.bool (Cat.tabR s.cat t).2.1.dropped,fv] b2 f3;generalize w3.setRow g8 _ = w4 at v8 b8 ⊢;clear f3 ho b2 q8 w3 w2;have h4:=h1.below b8;replace v6:=VBlk.below v6 b8 l6;have c82:=v8.cell 2 (by simp);simp only [List.getD_cons_succ,List.getD_cons_zero] at c82;have bw:=b1.trans (b8.mono z1);have z8:=b8.size;have hlv : liveR s (t,d) = if opn s t = true then (match (Vw.of s.rows (t,d)).getLast? with | some r => if r.del = false ∧ r.gone = false then some r else none | none => none) else none:=rfl
  have hop : opn s t = (decide ((Cat.tabR s.cat t).2.2 = 0) && !(Cat.tabR s.cat t).2.1.dropped):=rfl;rw [hop] at hlv;generalize (Cat.tabR s.cat t).2.2 = code at hlv ⊢;generalize (Cat.tabR s.cat t).2.1.dropped = dr at hlv c82;clear hop v8;refine K.kgo ?_;refine WL.call rfl rfl rfl rfl rfl Tryz.func65 rfl (by kernel_rfl) (last_any ⟨_,_,_,_,_,h4⟩ t d) ?_;rintro _ w4 ⟨rfl,o,rfl,ho⟩;refine ⟨_,rfl,?_⟩;have hel:=own_els h4.rows;obtain ⟨spr,cpr,rfl,-⟩:=id hel;have c1:=h4.vb.cell 1 (by simp);simp only [List.getD_cons_succ,List.getD_cons_zero] at c1;have hone0:=(zV_is (fun _ => True) 0 w4).one;have bf : ∀ {cs : List Value},Below w.heap.size w (w4.setRow g6 cs.toArray):=fun {cs} => (Cr.keepRow (K:=fun x => x < w.heap.size) (g:=g6) (Keep.of_below bw) (fun hh => by omega) cs.toArray).below;have none_ : ∀ {cs : List Value},cs = rwC noR zCells → liveR s (t,d) = none → DocPost w (f + 1) (liveR s (t,d)) (.returned (.tuple #[.agg cs.toArray,.bool false])) (w4.setRow g6 cs.toArray):=fun hc hn => by
    subst hc;rw [hn];exact ⟨bf,noR,zCells,false,rfl,zV_is _ _ _,rfl,rfl⟩
  by_cases hc : code = 0
  case neg =>
    rw [decide_eq_false hc] at hlv;refine K.kgl ?_;refine WL.build (rwC noR zCells) rfl rfl rfl rfl rfl builtRow0 ?_;refine WL.storeRow rfl rfl rfl rfl rfl rfl v6 rfl rfl (rwC_one hone0) ?_;refine K.kgo ?_;exact WQ.retBT rfl rfl rfl rfl rfl (VBlk.setRow v6 _) (none_ rfl hlv)
  case pos =>
  rw [decide_eq_true hc] at hlv;cases dr with
  | true =>
    refine K.kgl ?_;refine WL.build (rwC noR zCells) rfl rfl rfl rfl rfl builtRow0 ?_;refine WL.storeRow rfl rfl rfl rfl rfl rfl v6 rfl rfl (rwC_one hone0) ?_;refine K.kgo ?_;exact WQ.retBT rfl rfl rfl rfl rfl (VBlk.setRow v6 _) (none_ rfl hlv)
  | false =>
  cases o with
  | none =>
    simp only at ho;rw [ho] at hlv;have z : lastZ none = -1:=rfl;rw [z];refine K.kgl ?_;refine WL.build (rwC noR zCells) rfl rfl rfl rfl rfl builtRow0 ?_;refine WL.storeRow rfl rfl rfl rfl rfl rfl v6 rfl rfl (rwC_one hone0) ?_;refine K.kgo ?_;exact WQ.retBT rfl rfl rfl rfl rfl (VBlk.setRow v6 _) (none_ rfl hlv)
  | some i =>
  simp only at ho;obtain ⟨hi,hla⟩:=ho;rw [hla] at hlv;simp only at hlv;have z : lastZ (some i) = (i : Int):=rfl;rw [z];have hok:=h4.ok;obtain ⟨b9,o9,cap9,dc9,es,lb9,-,R9,hvo9,-,sm9⟩:=els_at hel hi;obtain ⟨rfl,rfl⟩ : spr = some ⟨b9,o9,none⟩ ∧ cpr = cap9:=by simpa using es
  clear es;generalize s.rows.getD i noR = r at R9 hvo9 hlv sm9;have x1:=R9.del;have x2:=R9.gone;have x3:=R9.all;have hdl:=hvo9.len;cases hrd : r.del with
  | true =>
    rw [hrd] at x1 hlv;refine K.kgl ?_;refine WL.idx i (o9 + i * 14) rfl rfl rfl rfl rfl rfl rfl rfl hi rfl ?_;refine K.kgl ?_;refine WL.build (rwC noR zCells) rfl rfl rfl rfl rfl builtRow0 ?_;refine WL.storeRow rfl rfl rfl rfl rfl rfl v6 rfl rfl (rwC_one hone0) ?_;refine K.kgo ?_;exact WQ.retBT rfl rfl rfl rfl rfl (VBlk.setRow v6 _) (none_ rfl hlv)
  | false =>
  cases hrg : r.gone with
  | true =>
    rw [hrd] at x1;rw [hrg] at x2;rw [hrd,hrg] at hlv;refine K.kgl ?_;refine WL.idx i (o9 + i * 14) rfl rfl rfl rfl rfl rfl rfl rfl hi rfl ?_;refine K.kgl ?_;refine WL.idx i (o9 + i * 14) rfl rfl rfl rfl rfl rfl rfl rfl hi rfl ?_;refine K.kgl ?_;refine WL.build (rwC noR zCells) rfl rfl rfl rfl rfl builtRow0 ?_;refine WL.storeRow rfl rfl rfl rfl rfl rfl v6 rfl rfl (rwC_one hone0) ?_;refine K.kgo ?_;exact WQ.retBT rfl rfl rfl rfl rfl (VBlk.setRow v6 _) (none_ rfl hlv)
  | false =>
    rw [hrd] at x1;rw [hrg] at x2;rw [hrd,hrg] at hlv;refine K.kgl ?_;refine WL.idx i (o9 + i * 14) rfl rfl rfl rfl rfl rfl rfl rfl hi rfl ?_;refine K.kgl ?_;refine WL.idx i (o9 + i * 14) rfl rfl rfl rfl rfl rfl rfl rfl hi rfl ?_;refine K.kgl ?_;refine WL.idx i (o9 + i * 14) rfl rfl rfl rfl rfl rfl rfl rfl hi rfl ?_;refine WL.loadMid rfl rfl rfl rfl rfl rfl x3 (rwC_len hdl) ?_;refine WL.call rfl rfl rfl rfl rfl Tryz.func67 rfl (by kernel_rfl) (rown_any hvo9.isV sm9) ?_;rintro _ w7 ⟨b7,dc',rfl,hv7⟩;refine ⟨_,rfl,?_⟩;have l6':=VBlk.lt v6;replace v6:=VBlk.below v6 b7 l6';refine WL.storeRow rfl rfl rfl rfl rfl rfl v6 (rwC_len hv7.len) rfl (rwC_one hv7.one) ?_;have k7 : Keep (fun x => x ≠ g6) w7 (w7.setRow g6 (rwC r dc').toArray):=Cr.keepRow (Keep.refl _ _) (by simp) _;have v7:=VBlk.setRow v6 (rwC r dc');generalize w7.setRow g6 _ = w8 at v7 k7 ⊢;refine K.kgo ?_;have hlv' : liveR s (t,d) = some r:=hlv;refine WQ.retBT rfl rfl rfl rfl (rwC_len hv7.len) v7 ?_;rw [hlv'];exact ⟨((Keep.of_below (bw.trans (b7.mono bw.size))).trans (k7.mono fun x (hx : x < w.heap.size) e => by omega)).below,r,dc',true,rfl,hv7.keep k7 (fun x hx _ e => by omega) (fun x hx => by have:=bw.size;omega),rfl,rfl⟩
end Vw
namespace Vw
open K
set_option maxRecDepth 100000
def RowsPost (w : World) (f : Nat) (L : List Rw) (e : Ending) (w' : World) : Prop :=
  Below w.heap.size w w' ∧ ∃ v,e = .returned v ∧ Els 14 noR (RowP (fun x => w.heap.size ≤ x) f w') (fun x => w.heap.size ≤ x) w' v L
def AtOk (L : List Rw) (t : Int) (i d a : Nat) : Prop :=
  (a = 0 ∧ ∀ j,j < i → (L.getD j noR).key ≠ (t,(d : Int))) ∨ ∃ j,a = j + 1 ∧ j < i ∧ (L.getD j noR).key = (t,(d : Int)) ∧ ∀ q,j < q → q < i → (L.getD q noR).key ≠ (t,(d : Int))
theorem AtOk.next {L : List Rw} {t : Int} {i d a : Nat} (h : AtOk L t i d a) (hn : (L.getD i noR).key ≠ (t,(d : Int))) : AtOk L t (i + 1) d a:=by
  rcases h with ⟨h1,h2⟩ | ⟨j,h1,h2,h3,h4⟩
  · refine .inl ⟨h1,fun q hq => ?_⟩
    by_cases e : q = i
    · rw [e];exact hn
    · exact h2 q (by omega)
  · refine .inr ⟨j,h1,by omega,h3,fun q hq1 hq2 => ?_⟩
    by_cases e : q = i
    · rw [e];exact hn
    · exact h4 q hq1 (by omega)
theorem AtOk.here {L : List Rw} {t : Int} {i d : Nat} (h : (L.getD i noR).key = (t,(d : Int))) : AtOk L t (i + 1) d (i + 1):=.inr ⟨i,rfl,by omega,h,fun q h1 h2 => by omega⟩
theorem docs_step {s : St} {t : Int} (i : Nat) : (List.range (i + 1)).filterMap (fun (i : Nat) => liveR s (t,(i : Int) + 1)) = (List.range i).filterMap (fun (i : Nat) => liveR s (t,(i : Int) + 1)) ++ (liveR s (t,(i : Int) + 1)).toList:=by
  rw [List.range_succ,List.filterMap_append]
  congr 1
abbrev iT : Nat:=3
theorem getD_map_int {A : List Nat} {d : Nat} (h : d < A.length) : (A.map fun a : Nat => Value.int .i64 a).getD d undef = .int .i64 (A.getD d 0):=by
  simp [List.getD_eq_getElem?_getD,List.getElem?_map,List.getElem?_eq_getElem h]
set_option maxHeartbeats 16000000 in
theorem rdocs_any {w : World} {rb : Nat} {M D : Nat → Prop} {f : Nat} {s : St} {N : Nat} (h0 : RVs w rb M D f s N) (t : Int) (hdoc : ∀ r ∈ s.rows,r.tab = t → 1 ≤ r.doc ∧ r.doc ≤ cnt t s.rows) :
    Calls Tryz.prog 37 #[.pointer (some ⟨rb,0,none⟩),.int .i64 t] w (RowsPost w f (if opn s t = true then docsR s t else [])):=by
  obtain ⟨cp,Oc,rv,mb,k,h⟩:=id h0;have c0:=h.vb.cell 0 (by simp);simp only [List.getD_cons_zero] at c0;refine enter (args:=[.pointer (some ⟨rb,0,none⟩),.int .i64 t]) Tryz.func37 rfl Tryz.ntmps37 rfl ?_;refine K.kgl ?_;refine WL.call rfl rfl rfl rfl rfl Tryz.func25 rfl (by kernel_rfl) (Cr.rtable_any h.cat t) ?_;rintro _ w2 ⟨fv,rfl,ho,b2⟩;refine ⟨_,rfl,?_⟩;refine K.kgo ?_;refine WL.alloc (z:=.agg Cr.zTab.toArray) rfl rfl rfl rfl Cr.zeroRT fun g8 w3 f3 => ?_;refine WL.storeRow rfl rfl rfl rfl rfl rfl f3.blk rfl rfl (Cr.ones4 (Cr.OwnV.one ho)) ?_;obtain ⟨v8,b8,-,q8⟩:=rowed [Value.int .i64 (Cat.tabR s.cat t).1,.string (Cat.tabR s.cat t).2.1.name,.bool (Cat.tabR s.cat t).2.1.dropped,fv] b2 f3;generalize w3.setRow g8 _ = w4 at v8 b8 ⊢;clear f3 ho b2 q8 w3 w2;have c82:=v8.cell 2 (by simp);simp only [List.getD_cons_succ,List.getD_cons_zero] at c82;have hnx : next s t = if (Cat.tabR s.cat t).2.2 = 0 then (cnt t s.rows : Int) + 1 else 0:=rfl
  have hop : opn s t = (decide ((Cat.tabR s.cat t).2.2 = 0) && !(Cat.tabR s.cat t).2.1.dropped):=rfl;generalize (Cat.tabR s.cat t).2.2 = code at hnx hop ⊢;generalize (Cat.tabR s.cat t).2.1.dropped = dr at hop c82;clear v8;have none_ : opn s t = false → RowsPost w f (if opn s t = true then docsR s t else []) (.returned (.slice none 0 0)) w4:=fun hn => by
    rw [hn,if_neg (by simp)];exact ⟨b8,_,rfl,Els.nil _ _ _ _ _⟩
  by_cases hc : code = 0
  case neg =>
    refine K.kgl ?_;exact WQ.ret1 rfl rfl (none_ (by rw [hop,decide_eq_false hc];rfl))
  case pos =>
  cases dr with
  | true =>
    refine K.kgl ?_;exact WQ.ret1 rfl rfl (none_ (by rw [hop];simp))
  | false =>
  have hopt : opn s t = true:=by rw [hop,decide_eq_true hc];rfl
  rw [if_pos hopt];rw [if_pos hc] at hnx;clear none_ hop;have h4:=h.below b8;refine K.kgl ?_;refine WL.call rfl rfl rfl rfl rfl Tryz.func39 rfl (by kernel_rfl) (next_any ⟨_,_,_,_,_,h4⟩ t) ?_;rintro _ w5 ⟨rfl,b5⟩;refine ⟨_,rfl,?_⟩;rw [hnx];have h5:=h4.below b5;have bw:=b8.trans (b5.mono b8.size);have hcl:=cnt_le t s.rows;have hok:=h.ok;have hdR : docsR s t = (List.range (cnt t s.rows)).filterMap (fun (i : Nat) => liveR s (t,(i : Int) + 1)):=rfl;have hlv : ∀ k : Int × Int,k.1 = t → liveR s k = (match (Vw.of s.rows k).getLast? with | some r => if r.del = false ∧ r.gone = false then some r else none | none => none):=fun k hk => by
    unfold liveR;rw [hk,if_pos hopt];rfl
  rw [hdR];generalize hcn : cnt t s.rows = c at *;refine K.kgo ?_;refine WL.as 30 (.int .i64 ((c + 1 : Nat) : Int)) rfl (congrArg (Value.int .i64) (by omega)) ?_;refine WL.make (bytes:=8) (c + 1) (.int .i64 0) rfl (z:=.int .i64 0) (by kernel_rfl) rfl rfl rfl rfl rfl rfl (by omega) (by omega) fun ga w6 f6 => ?_;have b6:=bw.trans (f6.below.mono bw.size);have e6:=f6.eq;have lga : ga < w6.heap.size:=f6.blk.lt;have hel:=own_els h.rows;obtain ⟨spr,cpr,rfl,-⟩:=id hel;have c1:=h.vb.cell 1 (by simp);simp only [List.getD_cons_succ,List.getD_cons_zero] at c1;have lrb:=h.lt rb (.inl h.mrb);have zw:=bw.size;have v6 : VBlk iT w6 ga ((List.replicate (c + 1) 0).map fun a : Nat => Value.int .i64 a):=by rw [List.map_replicate];exact f6.blk
  clear f6;refine K.kgo ?_;refine WC.loop (fun i : Nat => [(0,.pointer (some ⟨rb,0,none⟩)),(1,.int .i64 t),(7,.int .i64 ((c : Int) + 1)),(8,.slice (some ⟨ga,0,none⟩) (c + 1) (c + 1)),(9,.int .i64 i)])
    (fun i w' => i ≤ s.rows.length ∧ Below w.heap.size w w' ∧ ∃ A : List Nat,A.length = c + 1 ∧ VBlk iT w' ga (A.map fun a : Nat => Value.int .i64 a) ∧ ∀ d,d < c + 1 → AtOk s.rows t i d (A.getD d 0)) (fun i => s.rows.length - i) 0 ⟨rfl,rfl,rfl,rfl,rfl,trivial⟩
    ⟨Nat.zero_le _,b6,List.replicate (c + 1) 0,by simp,v6,fun d _ => .inl ⟨by rw [List.getD_eq_getElem?_getD,List.getElem?_replicate];split <;> rfl,fun j hj => absurd hj (Nat.not_lt_zero j)⟩⟩ ?_
  have hga : w.heap.size ≤ ga:=by omega
  clear v6 b6 lga bw b5 b8 h4 h5 e6 zw w6 w5 c0 c82;rintro i wl ⟨hi,bl,A,hAl,vA,hA⟩;have c1l:=(bl.cell (p:=⟨rb,1,none⟩) lrb).trans c1
  by_cases hlt : i < s.rows.length
  case pos =>
    obtain ⟨b9,o9,cap9,dc9,es,lb9,-,R9,-,ok9,-⟩:=els_at hel hlt;obtain ⟨rfl,rfl⟩ : spr = some ⟨b9,o9,none⟩ ∧ cpr = cap9:=by simpa using es
    clear es;have hri : s.rows.getD i noR ∈ s.rows:=by rw [getD_lt hlt];exact List.getElem_mem hlt
    have hd0:=hdoc _ hri;obtain ⟨r,hr⟩ : ∃ r,r = s.rows.getD i noR:=⟨_,rfl⟩;rw [← hr] at R9 ok9 hd0;have x0:=(bl.cell (p:=⟨b9,o9 + i * 14,none⟩) lb9).trans R9.tab;have x1:=(bl.cell (p:=⟨b9,o9 + i * 14 + 1,none⟩) lb9).trans R9.doc
    by_cases ht : r.tab = t
    case pos =>
      obtain ⟨hd1,hd2⟩:=hd0 ht;obtain ⟨dn,hdn⟩ : ∃ dn : Nat,r.doc = (dn : Int):=⟨r.doc.toNat,by omega⟩;rw [hdn] at x1;have hold : wl.cell? ⟨ga,dn * 1,none⟩ = some ((A.map fun a : Nat => Value.int .i64 a).getD (dn * 1) undef):=vA.cell _ (by simp [hAl];omega);refine K.kgl ?_;refine WL.idx i (o9 + i * 14) rfl rfl rfl rfl rfl rfl rfl rfl hlt rfl ?_;refine K.kgl ?_;refine WL.idx i (o9 + i * 14) rfl rfl rfl rfl rfl rfl rfl rfl hlt rfl ?_;refine K.kgl ?_;refine WL.idx i (o9 + i * 14) rfl rfl rfl rfl rfl rfl rfl rfl hlt rfl ?_;refine K.kgl ?_;refine WL.idx dn (dn * 1) rfl rfl rfl rfl rfl rfl rfl rfl (by omega) (by omega) ?_;refine WL.store rfl rfl rfl rfl rfl rfl (by kernel_rfl) hold (VBlk.free vA _) ?_;have vA2:=vA.set (dn * 1) (.int .i64 ((i + 1 : Nat) : Int));rw [Nat.mul_one] at vA2;rw [show (A.map fun a : Nat => Value.int .i64 a).set dn (.int .i64 ((i + 1 : Nat) : Int)) = (A.set dn (i + 1)).map fun a : Nat => Value.int .i64 a by rw [List.map_set]] at vA2;refine K.kgo ?_;refine WQ.again (i + 1) ⟨rfl,rfl,rfl,rfl,rfl,trivial⟩ ⟨hlt,(Keep.setCell (Keep.of_below bl) (fun (hh : ga < w.heap.size) => by omega) _).below,A.set dn (i + 1),by rw [List.length_set];exact hAl,by rw [Nat.mul_one];exact vA2,fun d hd => ?_⟩ (by omega)
      by_cases e : dn = d
      · subst e
        rw [Cat.getD_set_eq _ _ _ _ (by omega)];exact AtOk.here (by rw [← hr,← hdn,← ht])
      · rw [Cat.getD_set_ne _ _ _ _ _ e]
        exact (hA d hd).next (by rw [← hr];intro q;have:=congrArg Prod.snd q;simp only at this;omega)
    case neg =>
      refine K.kgl ?_;refine WL.idx i (o9 + i * 14) rfl rfl rfl rfl rfl rfl rfl rfl hlt rfl ?_;refine K.kgl ?_;exact WQ.again (i + 1) ⟨rfl,rfl,rfl,rfl,rfl,trivial⟩ ⟨hlt,bl,A,hAl,vA,fun d hd => (hA d hd).next (by rw [← hr];intro q;exact ht (congrArg Prod.fst q))⟩ (by omega)
  case neg =>
  obtain rfl : i = s.rows.length:=by omega
  have lgA:=VBlk.lt vA;refine K.kgl ?_;refine WC.loop (fun x : Nat × Value => [(0,.pointer (some ⟨rb,0,none⟩)),(7,.int .i64 ((c : Int) + 1)),(8,.slice (some ⟨ga,0,none⟩) (c + 1) (c + 1)),(10,x.2),(11,.int .i64 ((x.1 : Int) + 1))])
    (fun x w' => x.1 ≤ c ∧ Below wl.heap.size wl w' ∧ Grows rrT wl.heap.size f w' x.2 ((List.range x.1).filterMap (fun (i : Nat) => liveR s (t,(i : Int) + 1)))) (fun x => c - x.1) (0,.slice none 0 0) ⟨rfl,rfl,rfl,rfl,rfl,trivial⟩
    ⟨Nat.zero_le _,Below.refl _ _,Grows.nil _ _ _ _⟩ ?_
  rintro ⟨d,v⟩ wk ⟨hd,bk,hown⟩;simp only at hd hown;have zl:=bl.size;have rowc : ∀ {wx : World},Below wl.heap.size wl wx → wx.cell? ⟨rb,1,none⟩ = some (.slice spr s.rows.length cpr):=fun hx => (hx.cell (p:=⟨rb,1,none⟩) (show rb < wl.heap.size by omega)).trans c1l
  by_cases hdc : d < c
  case neg =>
    obtain rfl : d = c:=by omega
    have hres : RowsPost w f ((List.range d).filterMap (fun (i : Nat) => liveR s (t,(i : Int) + 1))) (.returned v) wk:=by
      refine ⟨bl.trans (bk.mono zl),v,rfl,?_⟩;exact hown.els.mono (fun b (hb : wl.heap.size ≤ b) => (by omega : w.heap.size ≤ b)) fun _ _ hp => hp.keep (K:=fun _ => True) ⟨rfl,rfl,rfl,Nat.le_refl _,fun _ _ => rfl⟩ (fun _ _ _ => trivial) (fun b (hb : wl.heap.size ≤ b) => (by omega : w.heap.size ≤ b))
    generalize (List.range d).filterMap (fun (i : Nat) => liveR s (t,(i : Int) + 1)) = LL at hres;refine K.kgo ?_;exact WQ.ret1 rfl rfl hres
  case pos =>
  have hat:=hA (d + 1) (by omega);have hac : ∀ {wx : World},Below wl.heap.size wl wx → wx.cell? ⟨ga,d + 1,none⟩ = some (.int .i64 (A.getD (d + 1) 0)):=fun hx => by
    rw [hx.cell (p:=⟨ga,d + 1,none⟩) lgA,vA.cell (d + 1) (by simp [hAl];omega),getD_map_int (by omega)]
  have hst:=docs_step (s:=s) (t:=t) d;have hlvd:=hlv (t,(d : Int) + 1) rfl;obtain ⟨spv,cpv,hspv,-⟩:=hown.els;subst hspv;rcases hat with ⟨ha0,hno⟩ | ⟨j,haj,hjl,hjk,hjn⟩
  case inl =>
    rw [ha0] at hac;rw [show Vw.of s.rows (t,(d : Int) + 1) = [] from last_no fun j hj => by have:=hno j hj;rwa [show (((d + 1 : Nat)) : Int) = (d : Int) + 1 by omega] at this] at hlvd;have hlvn : liveR s (t,(d : Int) + 1) = none:=hlvd;rw [hlvn,Option.toList_none,List.append_nil] at hst;refine K.kgo ?_;refine WC.drawn 34 (fun wx => Below wl.heap.size wl wx) fun wa hdr => ?_;have hS : Below wl.heap.size wl wa:=bk.trans (hdr.below _);refine K.fr [0,1] hS ?_;refine K.wi 2 (d + 1) (d + 1) rfl rfl rfl rfl rfl rfl rfl rfl rfl (by omega) (by omega) (.inr hS) ?_;refine K.wl 3 [4,5,6,7,8,9,10,11,12,13,14,15,16,17,18,19,20,21,22,23,24,25,26,27,28,29,30,31,32,33,34] rfl rfl rfl rfl rfl rfl rfl (fun wx hx => hac hx) hS ?_;refine K.fr [4,5,6,7,8] hS ?_;refine K.fr [9] hS ?_;refine K.fr [10,11] hS ?_;refine K.fr [12] hS ?_;refine K.fr [13] hS ?_;refine K.fr [14] hS ?_;refine K.fr [15] hS ?_;refine K.fr [16] hS ?_;refine K.fr [17] hS ?_;refine K.fr [18,19,20,21,22,23] hS ?_;refine K.fr [24] hS ?_;refine K.fr [25,26] hS ?_;refine K.fr [27] hS ?_;refine K.fr [28] hS ?_;refine K.fr [29] hS ?_;refine K.fr [30] hS ?_;refine K.fr [31] hS ?_;refine K.fr [32] hS ?_;refine K.fr [33] hS ?_;refine K.wo 34 ?_;refine WL.pure rfl rfl rfl rfl ?_;refine K.dl ?_;refine WD.done (by kernel_rfl) ?_;refine K.kgo ?_;refine WQ.again (d + 1,_) ⟨rfl,rfl,rfl,rfl,rfl,trivial⟩ ⟨hdc,hS,?_⟩ (by show c - (d + 1) < c - d;omega)
    show Grows rrT _ f wa _ ((List.range (d + 1)).filterMap _)
    rw [hst];exact hown.below (hdr.below wk.heap.size)
  case inr =>
  rw [haj] at hac;obtain ⟨b9,o9,cap9,dc9,es,lb9,-,R9,hvo9,ok9,sm9⟩:=els_at hel hjl;obtain ⟨rfl,rfl⟩ : spr = some ⟨b9,o9,none⟩ ∧ cpr = cap9:=by simpa using es
  clear es;rw [show (((d + 1 : Nat)) : Int) = (d : Int) + 1 by omega] at hjk hjn;rw [last_at hjl hjk hjn] at hlvd;simp only at hlvd;generalize s.rows.getD j noR = r at R9 hvo9 ok9 sm9 hlvd;have R9d:=R9.del;have R9g:=R9.gone;have hdl:=hvo9.len;have up : ∀ {wx : World} {o : Nat},Below wl.heap.size wl wx → wx.cell? ⟨b9,o,none⟩ = w.cell? ⟨b9,o,none⟩:=fun {wx o} hx => (hx.cell (p:=⟨b9,o,none⟩) (show b9 < wl.heap.size by omega)).trans (bl.cell (p:=⟨b9,o,none⟩) lb9);cases hrd : r.del with
  | true =>
    rw [hrd] at R9d hlvd;have hlvn : liveR s (t,(d : Int) + 1) = none:=hlvd;rw [hlvn,Option.toList_none,List.append_nil] at hst;refine K.kgo ?_;refine WC.drawn 34 (fun wx => Below wl.heap.size wl wx) fun wa hdr => ?_;have hS : Below wl.heap.size wl wa:=bk.trans (hdr.below _);refine K.fr [0,1] hS ?_;refine K.wi 2 (d + 1) (d + 1) rfl rfl rfl rfl rfl rfl rfl rfl rfl (by omega) (by omega) (.inr hS) ?_;refine K.wl 3 [4,5,6,7,8,9,10,11,12,13,14,15,16,17,18,19,20,21,22,23,24,25,26,27,28,29,30,31,32,33,34] rfl rfl rfl rfl rfl rfl rfl (fun wx hx => hac hx) hS ?_;refine K.fr [4,5,6,7,8] hS ?_;refine K.wl 9 [15,16,17,18,19,20,21,22,23,24,25,26,27,28,29,30,31,32,33,34] rfl rfl rfl rfl rfl rfl rfl (fun wx hx => rowc hx) hS ?_;refine K.fr [10,11] hS ?_;refine K.wi 12 (d + 1) (d + 1) rfl rfl rfl rfl rfl rfl rfl rfl rfl (by omega) (by omega) (.inr hS) ?_;refine K.wl 13 [14,15,16,17,18,19,20,21,22,23,24,25,26,27,28,29,30,31,32,33,34] rfl rfl rfl rfl rfl rfl rfl (fun wx hx => hac hx) hS ?_;refine K.fr [14] hS ?_;refine K.wi 15 j (o9 + j * 14) rfl rfl rfl rfl rfl rfl rfl rfl (by omega) hjl rfl (.inr hS) ?_;refine K.fr [16] hS ?_;refine K.wl 17 [18,19,20,21,22,23,24,25,26,27,28,29,30,31,32,33,34] rfl rfl rfl rfl rfl rfl rfl (fun wx hx => (up hx).trans R9d) hS ?_;refine K.fr [18,19,20,21,22,23] hS ?_;refine K.fr [24] hS ?_;refine K.fr [25,26] hS ?_;refine K.fr [27] hS ?_;refine K.fr [28] hS ?_;refine K.fr [29] hS ?_;refine K.fr [30] hS ?_;refine K.fr [31] hS ?_;refine K.fr [32] hS ?_;refine K.fr [33] hS ?_;refine K.wo 34 ?_;refine WL.pure rfl rfl rfl rfl ?_;refine K.dl ?_;refine WD.done (by kernel_rfl) ?_;refine K.kgo ?_;refine WQ.again (d + 1,_) ⟨rfl,rfl,rfl,rfl,rfl,trivial⟩ ⟨hdc,hS,?_⟩ (by show c - (d + 1) < c - d;omega)
    show Grows rrT _ f wa _ ((List.range (d + 1)).filterMap _)
    rw [hst];exact hown.below (hdr.below wk.heap.size)
  | false =>
  rw [hrd] at R9d;cases hrg : r.gone with
  | true =>
    rw [hrd,hrg] at hlvd;rw [hrg] at R9g;have hlvn : liveR s (t,(d : Int) + 1) = none:=hlvd;rw [hlvn,Option.toList_none,List.append_nil] at hst;refine K.kgo ?_;refine WC.drawn 34 (fun wx => Below wl.heap.size wl wx) fun wa hdr => ?_;have hS : Below wl.heap.size wl wa:=bk.trans (hdr.below _);refine K.fr [0,1] hS ?_;refine K.wi 2 (d + 1) (d + 1) rfl rfl rfl rfl rfl rfl rfl rfl rfl (by omega) (by omega) (.inr hS) ?_;refine K.wl 3 [4,5,6,7,8,9,10,11,12,13,14,15,16,17,18,19,20,21,22,23,24,25,26,27,28,29,30,31,32,33,34] rfl rfl rfl rfl rfl rfl rfl (fun wx hx => hac hx) hS ?_;refine K.fr [4,5,6,7,8] hS ?_;refine K.wl 9 [15,16,17,18,19,20,21,22,23,24,25,26,27,28,29,30,31,32,33,34] rfl rfl rfl rfl rfl rfl rfl (fun wx hx => rowc hx) hS ?_;refine K.fr [10,11] hS ?_;refine K.wi 12 (d + 1) (d + 1) rfl rfl rfl rfl rfl rfl rfl rfl rfl (by omega) (by omega) (.inr hS) ?_;refine K.wl 13 [14,15,16,17,18,19,20,21,22,23,24,25,26,27,28,29,30,31,32,33,34] rfl rfl rfl rfl rfl rfl rfl (fun wx hx => hac hx) hS ?_;refine K.fr [14] hS ?_;refine K.wi 15 j (o9 + j * 14) rfl rfl rfl rfl rfl rfl rfl rfl (by omega) hjl rfl (.inr hS) ?_;refine K.fr [16] hS ?_;refine K.wl 17 [18,19,20,21,22,23,24,25,26,27,28,29,30,31,32,33,34] rfl rfl rfl rfl rfl rfl rfl (fun wx hx => (up hx).trans R9d) hS ?_;refine K.fr [18,19,20,21,22,23] hS ?_;refine K.wl 24 [30,31,32,33,34] rfl rfl rfl rfl rfl rfl rfl (fun wx hx => rowc hx) hS ?_;refine K.fr [25,26] hS ?_;refine K.wi 27 (d + 1) (d + 1) rfl rfl rfl rfl rfl rfl rfl rfl rfl (by omega) (by omega) (.inr hS) ?_;refine K.wl 28 [29,30,31,32,33,34] rfl rfl rfl rfl rfl rfl rfl (fun wx hx => hac hx) hS ?_;refine K.fr [29] hS ?_;refine K.wi 30 j (o9 + j * 14) rfl rfl rfl rfl rfl rfl rfl rfl (by omega) hjl rfl (.inr hS) ?_;refine K.fr [31] hS ?_;refine K.wl 32 [33,34] rfl rfl rfl rfl rfl rfl rfl (fun wx hx => (up hx).trans R9g) hS ?_;refine K.fr [33] hS ?_;refine K.wo 34 ?_;refine WL.pure rfl rfl rfl rfl ?_;refine K.dl ?_;refine WD.done (by kernel_rfl) ?_;refine K.kgo ?_;refine WQ.again (d + 1,_) ⟨rfl,rfl,rfl,rfl,rfl,trivial⟩ ⟨hdc,hS,?_⟩ (by show c - (d + 1) < c - d;omega)
    show Grows rrT _ f wa _ ((List.range (d + 1)).filterMap _)
    rw [hst];exact hown.below (hdr.below wk.heap.size)
  | false =>
  rw [hrd,hrg] at hlvd;rw [hrg] at R9g;have hlvn : liveR s (t,(d : Int) + 1) = some r:=hlvd;rw [hlvn,Option.toList_some] at hst;refine K.kgo ?_;refine WC.drawn 34 (fun wx => Below wl.heap.size wl wx) fun wa hdr => ?_;have hS : Below wl.heap.size wl wa:=bk.trans (hdr.below _);have hSk : Below wk.heap.size wk wa:=hdr.below _;refine K.fr [0,1] hS ?_;refine K.wi 2 (d + 1) (d + 1) rfl rfl rfl rfl rfl rfl rfl rfl rfl (by omega) (by omega) (.inr hS) ?_;refine K.wl 3 [4,5,6,7,8,9,10,11,12,13,14,15,16,17,18,19,20,21,22,23,24,25,26,27,28,29,30,31,32,33,34] rfl rfl rfl rfl rfl rfl rfl (fun wx hx => hac hx) hS ?_;refine K.fr [4,5,6,7,8] hS ?_;refine K.wl 9 [15,16,17,18,19,20,21,22,23,24,25,26,27,28,29,30,31,32,33,34] rfl rfl rfl rfl rfl rfl rfl (fun wx hx => rowc hx) hS ?_;refine K.fr [10,11] hS ?_;refine K.wi 12 (d + 1) (d + 1) rfl rfl rfl rfl rfl rfl rfl rfl rfl (by omega) (by omega) (.inr hS) ?_;refine K.wl 13 [14,15,16,17,18,19,20,21,22,23,24,25,26,27,28,29,30,31,32,33,34] rfl rfl rfl rfl rfl rfl rfl (fun wx hx => hac hx) hS ?_;refine K.fr [14] hS ?_;refine K.wi 15 j (o9 + j * 14) rfl rfl rfl rfl rfl rfl rfl rfl (by omega) hjl rfl (.inr hS) ?_;refine K.fr [16] hS ?_;refine K.wl 17 [18,19,20,21,22,23,24,25,26,27,28,29,30,31,32,33,34] rfl rfl rfl rfl rfl rfl rfl (fun wx hx => (up hx).trans R9d) hS ?_;refine K.fr [18,19,20,21,22,23] hS ?_;refine K.wl 24 [30,31,32,33,34] rfl rfl rfl rfl rfl rfl rfl (fun wx hx => rowc hx) hS ?_;refine K.fr [25,26] hS ?_;refine K.wi 27 (d + 1) (d + 1) rfl rfl rfl rfl rfl rfl rfl rfl rfl (by omega) (by omega) (.inr hS) ?_;refine K.wl 28 [29,30,31,32,33,34] rfl rfl rfl rfl rfl rfl rfl (fun wx hx => hac hx) hS ?_;refine K.fr [29] hS ?_;refine K.wi 30 j (o9 + j * 14) rfl rfl rfl rfl rfl rfl rfl rfl (by omega) hjl rfl (.inr hS) ?_;refine K.fr [31] hS ?_;refine K.wl 32 [33,34] rfl rfl rfl rfl rfl rfl rfl (fun wx hx => (up hx).trans R9g) hS ?_;refine K.fr [33] hS ?_;refine K.wo 34 ?_;refine WL.pure rfl rfl rfl rfl ?_;refine K.dl ?_;refine WD.done (by kernel_rfl) ?_;refine K.kgo ?_;refine WC.drawn 14 (fun wx => Below wl.heap.size wl wx) fun wb hdr2 => ?_;have hS0:=hS;replace hS : Below wl.heap.size wl wb:=hS.trans (hdr2.below _);have hSkb : Below wk.heap.size wk wb:=hSk.trans (hdr2.below _);refine K.fr [0,1,2,3] hS ?_;refine K.wl 4 [10,11,12,13,14,15] rfl rfl rfl rfl rfl rfl rfl (fun wx hx => rowc hx) hS ?_;refine K.fr [5,6] hS ?_;refine K.wi 7 (d + 1) (d + 1) rfl rfl rfl rfl rfl rfl rfl rfl rfl (by omega) (by omega) (.inr hS) ?_;refine K.wl 8 [9,10,11,12,13,14,15] rfl rfl rfl rfl rfl rfl rfl (fun wx hx => hac hx) hS ?_;refine K.fr [9] hS ?_;refine K.wi 10 j (o9 + j * 14) rfl rfl rfl rfl rfl rfl rfl rfl (by omega) hjl rfl (.inr hS) ?_;refine K.wm 11 [12,13,14,15] rfl rfl rfl rfl rfl rfl rfl (fun wx hx => fun q u hu => (up hx).trans (R9.all q u hu)) (rwC_len hdl) hS ?_;refine K.wo 12 ?_;refine WL.call rfl rfl rfl rfl rfl Tryz.func67 rfl (by kernel_rfl) (rown_any (hvo9.isV.below (bl.trans (hS.mono zl))) sm9) ?_;rintro _ wc ⟨bc,dc',rfl,hvc⟩;refine ⟨_,rfl,?_⟩;have cc:=hS.trans (bc.mono hS.size);refine K.di cc ?_;refine K.wo 13 ?_;refine WL.lit1 rfl rfl rfl rfl rfl rfl (cs:=rwC r dc') rfl (rwC_len hvc.len) (by omega) (by kernel_rfl) fun gl wd fd => ?_;have cd:=cc.trans (fd.below.mono cc.size);refine K.di cd ?_;refine K.wo 14 ?_;have zS:=hS.size;obtain ⟨Dn,hownd,hrP,hgrw⟩:=(hown.below hSkb).snoc zS bc hvc fd.below ok9 sm9;have hLL : ((List.range d).filterMap (fun (i : Nat) => liveR s (t,(i : Int) + 1))).length ≤ d:=by
      have:=List.length_filterMap_le (fun (i : Nat) => liveR s (t,(i : Int) + 1)) (List.range d)
      rwa [List.length_range] at this
  refine WL.snoc rfl rfl rfl rfl elemRR rfl hownd rfl fd.blk hrP.one hrP.len hrP (by omega) (by omega) fun v9 we ho9 hgr => ?_;refine K.dl ?_;have bfin : Below wl.heap.size wl we:=cd.trans (hgr.old cd.size hown.own);have hfin:=hgrw ho9 hgr
  (refine K.fzl 15 rfl (q:=?_))
  refine WD.done (by kernel_rfl) ?_;refine K.kgo ?_;refine WQ.again (d + 1,_) ⟨rfl,rfl,rfl,rfl,rfl,trivial⟩ ⟨hdc,bfin,?_⟩ (by show c - (d + 1) < c - d;omega)
  show Grows rrT _ f we _ ((List.range (d + 1)).filterMap _)
  rw [hst];exact hfin
end Vw
namespace Vw
open K
set_option maxRecDepth 100000
def idxs (L : List Rw) (i : Nat) (k : Int × Int) : List Nat:=(List.range i).filter fun j => decide ((L.getD j noR).key = k)
theorem idxs_succ (L : List Rw) (i : Nat) (k : Int × Int) : idxs L (i + 1) k = idxs L i k ++ if (L.getD i noR).key = k then [i] else []:=by
  unfold idxs;rw [List.range_succ,List.filter_append]
  congr 1
  by_cases h : (L.getD i noR).key = k
  · rw [if_pos h,List.filter_cons,if_pos (by simpa using h)];rfl
  · rw [if_neg h,List.filter_cons,if_neg (by simpa using h)];rfl
theorem idxs_of (L : List Rw) (k : Int × Int) : (idxs L L.length k).map (fun j => L.getD j noR) = Vw.of L k:=by
  have e : (List.range L.length).map (fun j => L.getD j noR) = L:=by
    apply List.ext_getElem
    · simp
    · intro i h1 h2
      simp only [List.getElem_map,List.getElem_range];exact getD_lt h2
  unfold idxs Vw.of
  conv => rhs;rw [← e]
  rw [List.filter_map]
  rfl
theorem idxs_lt {L : List Rw} {i : Nat} {k : Int × Int} {q : Nat} (hq : q < (idxs L i k).length) : (idxs L i k).getD q 0 < i:=by
  rw [getD_lt hq];have:=(List.mem_filter.1 (List.getElem_mem hq)).1
  simpa using this
theorem idxs_len (L : List Rw) (i : Nat) (k : Int × Int) : (idxs L i k).length ≤ i:=by
  have:=List.length_filter_le (fun j => decide ((L.getD j noR).key = k)) (List.range i)
  rwa [List.length_range] at this
abbrev islT : Nat:=129
def intV (j : Nat) : Value:=.int .i64 j
theorem elemInt : ElemV Tryz.prog 129 iT 1 8:=ElemV.mk' (z:=.int .i64 0) Tryz.underlying129 (by kernel_rfl) rfl (by omega)
structure Pls (B : Nat) (w : World) (g m : Nat) (J : Nat → List Nat) (vs : List Value) : Prop where
  len : vs.length = m
  blk : VBlk islT w g vs
  own : ∀ d,d < m → OwnV iT 1 w (fun x => B ≤ x) (vs.getD d undef) (J d).length ((J d).map intV)
  dis : ∀ d d' b,d < m → d' < m → d ≠ d' → (vs.getD d undef).ownBlock = some b → (vs.getD d' undef).ownBlock ≠ some b
theorem Pls.below {B : Nat} {w w' : World} {g m : Nat} {J : Nat → List Nat} {vs : List Value} (h : Pls B w g m J vs) (hb : Below w.heap.size w w') : Pls B w' g m J vs :=
  ⟨h.len,VBlk.below h.blk hb (VBlk.lt h.blk),fun d hd => (h.own d hd).keep (Keep.of_below hb) (fun _ hg => (h.own d hd).lt hg),h.dis⟩
theorem Pls.ne {B : Nat} {w : World} {g m : Nat} {J : Nat → List Nat} {vs : List Value} (h : Pls B w g m J vs) {d b : Nat} (hd : d < m) (hb : (vs.getD d undef).ownBlock = some b) : b ≠ g:=by
  obtain ⟨cur,hc⟩:=(h.own d hd).tag hb;exact Cr.vb_ne h.blk hc (by decide)
theorem Pls.put {B : Nat} {w w' : World} {g m d : Nat} {J J' : Nat → List Nat} {vs : List Value} {v' : Value} (h : Pls B w g m J vs) (hd : d < m) (hg : Grow w (vs.getD d undef) w' v') (ho : OwnV iT 1 w' (fun x => B ≤ x) v' (J' d).length ((J' d).map intV)) (hJ : ∀ x,x ≠ d → J' x = J x) :
    Pls B (w'.setCell ⟨g,d,none⟩ v') g m J' (vs.set d v'):=by
  have lg:=VBlk.lt h.blk;have hl:=h.len;have bk:=VBlk.keep h.blk hg.1 ⟨lg,fun e => h.ne hd e rfl⟩;have setk : ∀ {v : Value} {n : Nat} {l : List Value},OwnV iT 1 w' (fun x => B ≤ x) v n l → OwnV iT 1 (w'.setCell ⟨g,d,none⟩ v') (fun x => B ≤ x) v n l:=fun hh => hh.of_block fun b hb => Below.heap_setCell w' _ _ b (by obtain ⟨cur,hc⟩:=hh.tag hb;exact Cr.vb_ne bk hc (by decide));have cd : ∀ x,x < m → ((vs.set d v').getD x undef = if x = d then v' else vs.getD x undef):=fun x hx => by
    by_cases e : x = d
    · subst e;rw [if_pos rfl,Cat.getD_set_eq _ _ _ _ (by omega)]
    · rw [if_neg e,Cat.getD_set_ne _ _ _ _ _ (fun q => e q.symm)]
  refine ⟨by rw [List.length_set];exact hl,bk.set d v',fun x hx => ?_,fun x y b hx hy hxy hb => ?_⟩
  · rw [cd x hx]
    by_cases e : x = d
    · subst e;rw [if_pos rfl];exact setk ho
    · rw [if_neg e,hJ x e]
      refine setk ((h.own x hx).keep hg.1 fun b hb => ⟨(h.own x hx).lt hb,fun q => h.dis x d b hx hd e hb q⟩)
  · rw [cd x hx] at hb
    rw [cd y hy]
    by_cases ex : x = d
    · rw [if_pos ex] at hb
      rw [if_neg (fun q => hxy (ex.trans q.symm))];intro hb2;have l2:=(h.own y hy).lt hb2;rcases hg.2 b hb with q | q
      · exact h.dis y d b hy hd (fun q => hxy (ex.trans q.symm)) hb2 q
      · omega
    · rw [if_neg ex] at hb
      by_cases ey : y = d
      · rw [if_pos ey]
        intro hb2;have l2:=(h.own x hx).lt hb;rcases hg.2 b hb2 with q | q
        · exact h.dis x d b hx hd ex hb q
        · omega
      · rw [if_neg ey]
        exact h.dis x y b hx hy hxy hb
theorem hist_all {s : St} {t : Int} (h0 : Vw.of s.rows (t,0) = []) : (List.range (cnt t s.rows + 1)).flatMap (fun (i : Nat) => Vw.of s.rows (t,(i : Int))) = histR s t:=by
  unfold histR;rw [List.range_succ_eq_map,List.flatMap_cons,List.flatMap_map]
  show Vw.of s.rows (t,((0 : Nat) : Int)) ++ _ = _
  rw [show ((0 : Nat) : Int) = 0 from rfl,h0,List.nil_append]
  rfl
set_option maxHeartbeats 16000000 in
theorem rhist_any {w : World} {rb : Nat} {M D : Nat → Prop} {f : Nat} {s : St} {N : Nat} (h0 : RVs w rb M D f s N) (hN : N ≤ 100000) (t : Int) (hdoc : ∀ r ∈ s.rows,r.tab = t → 1 ≤ r.doc ∧ r.doc ≤ cnt t s.rows) (htab : ∀ r ∈ s.rows,r.tab = t → (Cat.tabR s.cat t).2.2 = 0) :
    Calls Tryz.prog 38 #[.pointer (some ⟨rb,0,none⟩),.int .i64 t] w (RowsPost w f (histR s t)):=by
  obtain ⟨cp,Oc,rv,mb,k,h⟩:=id h0;have hcl:=cnt_le t s.rows;have hok:=h.ok;have hz0 : Vw.of s.rows (t,0) = []:=last_no fun j hj e => by
    have:=hdoc _ (by rw [getD_lt hj];exact List.getElem_mem hj) (congrArg Prod.fst e);have e2 : (s.rows.getD j noR).doc = 0:=congrArg Prod.snd e;omega
  have hm : (if next s t > 1 then next s t else 1) = ((cnt t s.rows + 1 : Nat) : Int):=by
    have hnx : next s t = if (Cat.tabR s.cat t).2.2 = 0 then (cnt t s.rows : Int) + 1 else 0:=rfl
    by_cases hc : (Cat.tabR s.cat t).2.2 = 0
    · rw [hnx,if_pos hc];split <;> omega
    · rw [hnx,if_neg hc]
      have : cnt t s.rows = 0:=by
        unfold cnt;rw [List.length_eq_zero_iff,List.filter_eq_nil_iff];intro r hr;have:=htab r hr
        by_cases e : r.tab = t
        · exact absurd (this e) hc
        · simp [e]
      rw [this];rfl
  refine enter (args:=[.pointer (some ⟨rb,0,none⟩),.int .i64 t]) Tryz.func38 rfl Tryz.ntmps38 rfl ?_;refine K.kgo ?_;refine WL.call rfl rfl rfl rfl rfl Tryz.func39 rfl (by kernel_rfl) (next_any h0 t) ?_;rintro _ w5 ⟨rfl,b5⟩;refine ⟨_,rfl,?_⟩;rw [← hist_all hz0];generalize hcn : cnt t s.rows = c at *;refine K.kgo ?_;refine WL.as 15 (.int .i64 ((c + 1 : Nat) : Int)) rfl (congrArg (Value.int .i64) hm) ?_;refine WL.make (bytes:=24) (c + 1) (.slice none 0 0) rfl (z:=.slice none 0 0) (by kernel_rfl) rfl rfl rfl rfl rfl rfl (by omega) (by omega) fun ga w6 f6 => ?_;have b6:=b5.trans (f6.below.mono b5.size);have hga : w.heap.size ≤ ga:=by have:=f6.eq;have:=b5.size;omega
  have hP6 : Pls w.heap.size w6 ga (c + 1) (fun d => idxs s.rows 0 (t,(d : Int))) (List.replicate (c + 1) (.slice none 0 0)):=by
    have hr : ∀ d,d < c + 1 → (List.replicate (c + 1) (Value.slice none 0 0)).getD d undef = .slice none 0 0:=fun d hd => by rw [List.getD_eq_getElem?_getD,List.getElem?_replicate,if_pos hd];rfl
    exact ⟨by simp,f6.blk,fun d hd => by rw [hr d hd];exact OwnV.nil _ _ _ _,fun d d' b hd hd' _ hb => by rw [hr d hd] at hb;cases hb⟩
  have hel:=own_els h.rows;obtain ⟨spr,cpr,rfl,-⟩:=id hel;have c1:=h.vb.cell 1 (by simp);simp only [List.getD_cons_succ,List.getD_cons_zero] at c1;have lrb:=h.lt rb (.inl h.mrb);clear f6;refine K.kgo ?_;refine WC.loop (fun i : Nat => [(0,.pointer (some ⟨rb,0,none⟩)),(1,.int .i64 t),(5,.slice none 0 0),(7,.slice (some ⟨ga,0,none⟩) (c + 1) (c + 1)),(8,.int .i64 i)])
    (fun i w' => i ≤ s.rows.length ∧ Below w.heap.size w w' ∧ ∃ vs,Pls w.heap.size w' ga (c + 1) (fun d => idxs s.rows i (t,(d : Int))) vs) (fun i => s.rows.length - i) 0 ⟨rfl,rfl,rfl,rfl,rfl,trivial⟩ ⟨Nat.zero_le _,b6,_,hP6⟩ ?_
  clear hP6 b6 b5 hm w6 w5;rintro i wl ⟨hi,bl,vs,hP⟩;have c1l:=(bl.cell (p:=⟨rb,1,none⟩) lrb).trans c1;have zl:=bl.size
  by_cases hlt : i < s.rows.length
  case pos =>
    obtain ⟨b9,o9,cap9,dc9,es,lb9,-,R9,-,ok9,-⟩:=els_at hel hlt;obtain ⟨rfl,rfl⟩ : spr = some ⟨b9,o9,none⟩ ∧ cpr = cap9:=by simpa using es
    clear es;have hri : s.rows.getD i noR ∈ s.rows:=by rw [getD_lt hlt];exact List.getElem_mem hlt
    have hd0:=hdoc _ hri;have hsx:=fun d : Nat => idxs_succ s.rows i (t,(d : Int));obtain ⟨r,hr⟩ : ∃ r,r = s.rows.getD i noR:=⟨_,rfl⟩;rw [← hr] at R9 ok9 hd0;have x0:=(bl.cell (p:=⟨b9,o9 + i * 14,none⟩) lb9).trans R9.tab;have x1:=(bl.cell (p:=⟨b9,o9 + i * 14 + 1,none⟩) lb9).trans R9.doc
    by_cases ht : r.tab = t
    case pos =>
      obtain ⟨hd1,hd2⟩:=hd0 ht;obtain ⟨dn,hdn⟩ : ∃ dn : Nat,r.doc = (dn : Int):=⟨r.doc.toNat,by omega⟩;rw [hdn] at x1;have hdm : dn < c + 1:=by omega
      have hvc : wl.cell? ⟨ga,dn,none⟩ = some (vs.getD dn undef):=hP.blk.cell dn (by rw [hP.len];exact hdm);have hov:=hP.own dn hdm;have hil:=idxs_len s.rows i (t,(dn : Int));have hne:=fun {b : Nat} => hP.ne (b:=b) hdm;generalize hvd : vs.getD dn undef = vd at hvc hov hne;refine K.kgl ?_;refine WL.idx i (o9 + i * 14) rfl rfl rfl rfl rfl rfl rfl rfl hlt rfl ?_;refine K.kgl ?_;have lga:=VBlk.lt hP.blk;have hSof : ∀ {wx : World},Below wl.heap.size wl wx → wx.cell? ⟨rb,1,none⟩ = some (.slice (some ⟨b9,o9,none⟩) s.rows.length cpr) ∧ wx.cell? ⟨b9,o9 + i * 14 + 1,none⟩ = some (.int .i64 dn) ∧ wx.cell? ⟨ga,dn,none⟩ = some vd:=fun hx =>
        ⟨(hx.cell (p:=⟨rb,1,none⟩) (show rb < wl.heap.size by omega)).trans c1l,(hx.cell (p:=⟨b9,o9 + i * 14 + 1,none⟩) (show b9 < wl.heap.size by omega)).trans x1,(hx.cell (p:=⟨ga,dn,none⟩) lga).trans hvc⟩
      refine WC.drawn 24 (fun wx => wx.cell? ⟨rb,1,none⟩ = some (.slice (some ⟨b9,o9,none⟩) s.rows.length cpr) ∧ wx.cell? ⟨b9,o9 + i * 14 + 1,none⟩ = some (.int .i64 dn) ∧ wx.cell? ⟨ga,dn,none⟩ = some vd) fun wa hdr => ?_;have hB : Below wl.heap.size wl wa:=hdr.below _;have hS:=hSof hB;refine K.fr [0,1,2,3] hS ?_;refine K.wl 4 [6,7,8,23,24] rfl rfl rfl rfl rfl rfl rfl (fun wx hx => hx.1) hS ?_;refine K.fr [5] hS ?_;refine K.wi 6 i (o9 + i * 14) rfl rfl rfl rfl rfl rfl rfl rfl rfl hlt rfl (.inr hS) ?_;refine K.fr [7] hS ?_;refine K.wl 8 [23,24] rfl rfl rfl rfl rfl rfl rfl (fun wx hx => hx.2.1) hS ?_;refine K.fr [9,10,11,12] hS ?_;refine K.wl 13 [15,16,17,18,19,22,23,24] rfl rfl rfl rfl rfl rfl rfl (fun wx hx => hx.1) hS ?_;refine K.fr [14] hS ?_;refine K.wi 15 i (o9 + i * 14) rfl rfl rfl rfl rfl rfl rfl rfl rfl hlt rfl (.inr hS) ?_;refine K.fr [16] hS ?_;refine K.wl 17 [18,19,22,23,24] rfl rfl rfl rfl rfl rfl rfl (fun wx hx => hx.2.1) hS ?_;refine K.wi 18 dn dn rfl rfl rfl rfl rfl rfl rfl rfl rfl hdm (by omega) (.inr hS) ?_;refine K.wl 19 [22,23,24] rfl rfl rfl rfl rfl rfl rfl (fun wx hx => hx.2.2) hS ?_;refine K.fr [20] hS ?_;refine K.wo 21 ?_;refine WL.lit1 rfl rfl rfl rfl rfl rfl (cs:=[Value.int .i64 i]) rfl rfl (by omega) (by kernel_rfl) fun gl wd fd => ?_;have cd:=hB.trans (fd.below.mono hB.size);refine WL.nil (WQ.dk (.inr (hSof cd)) ?_);refine K.wo 22 ?_;have ovd:=hov.keep (Keep.of_below cd) (fun g hg => hov.lt hg);refine WL.appV rfl rfl rfl rfl elemInt rfl ovd rfl (SlV.fresh1 fd (fun u hu => by simp at hu;subst hu;rfl)) (by omega) (by omega) fun v9 we o9' g9 => ?_;have zd:=cd.size;have b9e : Below w.heap.size w we:=(bl.trans (cd.mono zl)).trans (g9.old (by omega) fun g hg => ovd.own hg);have lga2 : ga < wd.heap.size:=by omega
      have nrb : vd.ownBlock ≠ some rb:=fun e => by have : w.heap.size ≤ rb:=ovd.own e;omega
      have nb9 : vd.ownBlock ≠ some b9:=fun e => by have : w.heap.size ≤ b9:=ovd.own e;omega
      have cold:=(g9.1.cell (p:=⟨ga,dn,none⟩) ⟨lga2,fun e => hne e rfl⟩).trans (hSof cd).2.2;have hSe:=(⟨(g9.1.cell (p:=⟨rb,1,none⟩) ⟨show rb < wd.heap.size by omega,nrb⟩).trans (hSof cd).1,(g9.1.cell (p:=⟨b9,o9 + i * 14 + 1,none⟩) ⟨show b9 < wd.heap.size by omega,nb9⟩).trans (hSof cd).2.1,cold⟩ : we.cell? ⟨rb,1,none⟩ = some (.slice (some ⟨b9,o9,none⟩) s.rows.length cpr) ∧ we.cell? ⟨b9,o9 + i * 14 + 1,none⟩ = some (.int .i64 dn) ∧ we.cell? ⟨ga,dn,none⟩ = some vd);refine K.di hSe ?_;have hS:=hSe;refine K.wi 23 dn dn rfl rfl rfl rfl rfl rfl rfl rfl rfl hdm (by omega) (.inr hS) ?_;refine K.wo 24 ?_;have hfz : we.frozen? ⟨ga,dn,none⟩ = false:=VBlk.free (VBlk.keep (VBlk.below hP.blk cd lga) g9.1 ⟨lga2,fun e => hne e rfl⟩) dn;refine WL.store rfl rfl rfl rfl rfl (Cr.OwnV.one o9') (by kernel_rfl) cold hfz ?_;refine K.dl ?_;have bfin : Below w.heap.size w (we.setCell ⟨ga,dn,none⟩ v9):=(Keep.setCell (Keep.of_below b9e) (fun (hh : ga < w.heap.size) => by omega) _).below;refine WD.done (by kernel_rfl) ?_;refine K.kgo ?_;refine WQ.again (i + 1) ⟨rfl,rfl,rfl,rfl,rfl,trivial⟩ ⟨hlt,bfin,vs.set dn v9,?_⟩ (by omega);have hPd:=hP.below cd;refine hPd.put (J':=fun d => idxs s.rows (i + 1) (t,(d : Int))) hdm (by rw [hvd];exact g9) ?_ fun x hx => ?_
      · have e1 : idxs s.rows (i + 1) (t,(dn : Int)) = idxs s.rows i (t,(dn : Int)) ++ [i]:=by rw [hsx dn,if_pos (by rw [← hr,← hdn,← ht])]
        show OwnV iT 1 we _ v9 (idxs s.rows (i + 1) (t,(dn : Int))).length ((idxs s.rows (i + 1) (t,(dn : Int))).map intV)
        rw [e1,List.length_append,List.map_append];exact o9'.mono fun b hb => hb.elim id fun e => by have:=cd.size;omega
      · show idxs s.rows (i + 1) (t,(x : Int)) = idxs s.rows i (t,(x : Int))
        rw [hsx x,if_neg (by rw [← hr];intro q;have:=congrArg Prod.snd q;simp only at this;omega),List.append_nil]
    case neg =>
      refine K.kgl ?_;refine WL.idx i (o9 + i * 14) rfl rfl rfl rfl rfl rfl rfl rfl hlt rfl ?_;refine K.kgl ?_;refine WQ.again (i + 1) ⟨rfl,rfl,rfl,rfl,rfl,trivial⟩ ⟨hlt,bl,vs,?_⟩ (by omega);have e : (fun d : Nat => idxs s.rows (i + 1) (t,(d : Int))) = fun d : Nat => idxs s.rows i (t,(d : Int)):=by
        funext d
        rw [hsx d,if_neg (by rw [← hr];intro q;exact ht (congrArg Prod.fst q)),List.append_nil]
      rw [e];exact hP
  case neg =>
  obtain rfl : i = s.rows.length:=by omega
  have lga:=VBlk.lt hP.blk;refine K.kgl ?_;have hlen : ∀ d,(List.range d).flatMap (fun (i : Nat) => Vw.of s.rows (t,(i : Int))) = (List.range d).flatMap (fun (i : Nat) => Vw.of s.rows (t,(i : Int))):=fun _ => rfl;clear hlen;refine WC.loop (fun x : Nat × Value => [(0,.pointer (some ⟨rb,0,none⟩)),(5,x.2),(7,.slice (some ⟨ga,0,none⟩) (c + 1) (c + 1)),(9,.int .i64 x.1)])
    (fun x w' => x.1 ≤ c + 1 ∧ Below wl.heap.size wl w' ∧ ∃ LL,LL = (List.range x.1).flatMap (fun (i : Nat) => Vw.of s.rows (t,(i : Int))) ∧ LL.length ≤ x.1 * s.rows.length ∧ Grows rrT wl.heap.size f w' x.2 LL) (fun x => c + 1 - x.1) (0,.slice none 0 0) ⟨rfl,rfl,rfl,rfl,trivial⟩
    ⟨Nat.zero_le _,Below.refl _ _,[],rfl,by simp,Grows.nil _ _ _ _⟩ ?_
  rintro ⟨d,v⟩ wk ⟨hd,bk,LL,hLL,hLn,hown⟩;simp only at hd hown hLL hLn;have rowc : ∀ {wx : World},Below wl.heap.size wl wx → wx.cell? ⟨rb,1,none⟩ = some (.slice spr s.rows.length cpr):=fun hx => (hx.cell (p:=⟨rb,1,none⟩) (show rb < wl.heap.size by omega)).trans c1l
  by_cases hdc : d < c + 1
  case neg =>
    obtain rfl : d = c + 1:=by omega
    subst hLL;have hres : RowsPost w f ((List.range (c + 1)).flatMap (fun (i : Nat) => Vw.of s.rows (t,(i : Int)))) (.returned v) wk:=by
      refine ⟨bl.trans (bk.mono zl),v,rfl,?_⟩;exact hown.els.mono (fun b (hb : wl.heap.size ≤ b) => (by omega : w.heap.size ≤ b)) fun _ _ hp => hp.keep (K:=fun _ => True) ⟨rfl,rfl,rfl,Nat.le_refl _,fun _ _ => rfl⟩ (fun _ _ _ => trivial) (fun b (hb : wl.heap.size ≤ b) => (by omega : w.heap.size ≤ b))
    refine K.kgo ?_;exact WQ.ret1 rfl rfl hres
  case pos =>
  have hvc : ∀ {wx : World},Below wl.heap.size wl wx → wx.cell? ⟨ga,d,none⟩ = some (vs.getD d undef):=fun hx => (hx.cell (p:=⟨ga,d,none⟩) lga).trans (hP.blk.cell d (by rw [hP.len];exact hdc));have hov:=hP.own d hdc;have hmp:=idxs_of s.rows (t,(d : Int));have hil:=idxs_len s.rows s.rows.length (t,(d : Int));have hjl:=fun {q : Nat} => idxs_lt (L:=s.rows) (i:=s.rows.length) (k:=(t,(d : Int))) (q:=q);obtain ⟨spd,cpd,hsp,-,-⟩:=hov.slice;rw [hsp] at hov hvc;generalize hJ : idxs s.rows s.rows.length (t,(d : Int)) = J at hov hvc hmp hil hjl;have hofl : (Vw.of s.rows (t,(d : Int))).length = J.length:=by rw [← hmp,List.length_map]
  have hLs : (List.range (d + 1)).flatMap (fun (i : Nat) => Vw.of s.rows (t,(i : Int))) = LL ++ Vw.of s.rows (t,(d : Int)):=by rw [List.range_succ,List.flatMap_append,hLL];simp
  have hb1 : LL.length ≤ 100001 * 100000:=Nat.le_trans hLn (Nat.mul_le_mul (by omega) (by omega));clear hP;refine K.kgo ?_;refine WC.loop (fun x : Nat × Value => [(0,.pointer (some ⟨rb,0,none⟩)),(5,x.2),(7,.slice (some ⟨ga,0,none⟩) (c + 1) (c + 1)),(9,.int .i64 d),(10,.int .i64 x.1)])
    (fun x w' => x.1 ≤ J.length ∧ Below wl.heap.size wl w' ∧ Grows rrT wl.heap.size f w' x.2 (LL ++ (Vw.of s.rows (t,(d : Int))).take x.1)) (fun x => J.length - x.1) (0,v) ⟨rfl,rfl,rfl,rfl,rfl,trivial⟩
    ⟨Nat.zero_le _,bk,by rw [List.take_zero,List.append_nil];exact hown⟩ ?_
  clear hown bk wk;rintro ⟨q,v⟩ wk ⟨hq,bk,hown⟩;simp only at hq hown;have hvk:=hvc bk
  by_cases hqJ : q < J.length
  case neg =>
    obtain rfl : q = J.length:=by omega
    rw [← hofl,List.take_length] at hown;refine K.kgo ?_;refine WL.idx d d rfl rfl rfl rfl rfl rfl rfl rfl hdc (by omega) ?_;refine K.kgl ?_;refine WQ.again (d + 1,v) ⟨rfl,rfl,rfl,rfl,trivial⟩ ⟨hdc,bk,_,hLs.symm,?_,hown⟩ (by show c + 1 - (d + 1) < c + 1 - d;omega);rw [List.length_append,hofl]
    show LL.length + J.length ≤ (d + 1) * s.rows.length
    rw [Nat.succ_mul];omega
  case pos =>
  have hj:=hjl hqJ;obtain ⟨gj,cj,hsj⟩ : ∃ gj cj,Value.slice spd J.length cpd = .slice (some ⟨gj,0,none⟩) J.length cj:=by
    rcases hov.form with ⟨-,h1,-⟩ | ⟨g,cap,cur,e,-⟩
    · omega
    · exact ⟨g,cap,e⟩
  obtain ⟨rfl,rfl⟩ : spd = some ⟨gj,0,none⟩ ∧ cpd = cj:=by simpa using hsj
  clear hsj;have ljj : gj < wl.heap.size:=hov.lt rfl;have hcj : ∀ {wx : World},Below wl.heap.size wl wx → wx.cell? ⟨gj,q,none⟩ = some (.int .i64 (J.getD q 0)):=fun hx => by
    rw [hx.cell (p:=⟨gj,q,none⟩) ljj,hov.at q (by rw [List.length_map];exact hqJ)];simp [intV,List.getD_eq_getElem?_getD,List.getElem?_map,List.getElem?_eq_getElem hqJ]
  have hrow : (Vw.of s.rows (t,(d : Int))).take (q + 1) = (Vw.of s.rows (t,(d : Int))).take q ++ [s.rows.getD (J.getD q 0) noR]:=by
    rw [List.take_add_one,← hmp,List.getElem?_map,List.getElem?_eq_getElem hqJ,getD_lt hqJ];rfl
  generalize J.getD q 0 = jj at hj hcj hrow;obtain ⟨b9,o9,cap9,dc9,es,lb9,-,R9,hvo9,ok9,sm9⟩:=els_at hel hj;obtain ⟨rfl,rfl⟩ : spr = some ⟨b9,o9,none⟩ ∧ cpr = cap9:=by simpa using es
  clear es;generalize s.rows.getD jj noR = r at R9 hvo9 ok9 sm9 hrow;have hdl:=hvo9.len;have up : ∀ {wx : World} {o : Nat},Below wl.heap.size wl wx → wx.cell? ⟨b9,o,none⟩ = w.cell? ⟨b9,o,none⟩:=fun {wx o} hx => (hx.cell (p:=⟨b9,o,none⟩) (show b9 < wl.heap.size by omega)).trans (bl.cell (p:=⟨b9,o,none⟩) lb9);obtain ⟨spv,cpv,hspv,-⟩:=hown.els;subst hspv;have hcat : (LL ++ (Vw.of s.rows (t,(d : Int))).take q).length ≤ 100001 * 100000 + 100000:=by
    rw [List.length_append,List.length_take];omega
  refine K.kgo ?_;refine WL.idx d d rfl rfl rfl rfl rfl rfl rfl rfl hdc (by omega) ?_;refine K.kgl ?_;refine WC.drawn 16 (fun wx => Below wl.heap.size wl wx) fun wa hdr => ?_;have hS : Below wl.heap.size wl wa:=bk.trans (hdr.below _);have hSk : Below wk.heap.size wk wa:=hdr.below _;refine K.fr [0,1,2,3] hS ?_;refine K.wl 4 [12,13,14,15,16,17] rfl rfl rfl rfl rfl rfl rfl (fun wx hx => rowc hx) hS ?_;refine K.fr [5,6] hS ?_;refine K.wi 7 d d rfl rfl rfl rfl rfl rfl rfl rfl rfl hdc (by omega) (.inr hS) ?_;refine K.wl 8 [10,11,12,13,14,15,16,17] rfl rfl rfl rfl rfl rfl rfl (fun wx hx => hvc hx) hS ?_;refine K.fr [9] hS ?_;refine K.wi 10 q q rfl rfl rfl rfl rfl rfl rfl rfl rfl hqJ (by omega) (.inr hS) ?_;refine K.wl 11 [12,13,14,15,16,17] rfl rfl rfl rfl rfl rfl rfl (fun wx hx => hcj hx) hS ?_;refine K.wi 12 jj (o9 + jj * 14) rfl rfl rfl rfl rfl rfl rfl rfl rfl hj rfl (.inr hS) ?_;refine K.wm 13 [14,15,16,17] rfl rfl rfl rfl rfl rfl rfl (fun wx hx => fun q u hu => (up hx).trans (R9.all q u hu)) (rwC_len hdl) hS ?_;refine K.wo 14 ?_;refine WL.call rfl rfl rfl rfl rfl Tryz.func67 rfl (by kernel_rfl) (rown_any (hvo9.isV.below (bl.trans (hS.mono zl))) sm9) ?_;rintro _ wc ⟨bc,dc',rfl,hvc2⟩;refine ⟨_,rfl,?_⟩;have cc:=hS.trans (bc.mono hS.size);refine K.di cc ?_;refine K.wo 15 ?_;refine WL.lit1 rfl rfl rfl rfl rfl rfl (cs:=rwC r dc') rfl (rwC_len hvc2.len) (by omega) (by kernel_rfl) fun gl wd fd => ?_;have cd:=cc.trans (fd.below.mono cc.size);refine K.di cd ?_;refine K.wo 16 ?_;have zS:=hS.size;obtain ⟨Dn,hownd,hrP,hgrw⟩:=(hown.below hSk).snoc zS bc hvc2 fd.below ok9 sm9;refine WL.snoc rfl rfl rfl rfl elemRR rfl hownd rfl fd.blk hrP.one hrP.len hrP (by omega) (by omega) fun v9 we ho9 hgr => ?_;refine K.dl ?_;have bfin : Below wl.heap.size wl we:=cd.trans (hgr.old cd.size hown.own);have hfin:=hgrw ho9 hgr
  (refine K.fzl 17 rfl (q:=?_))
  refine WD.done (by kernel_rfl) ?_;refine K.kgo ?_;refine WQ.again (q + 1,_) ⟨rfl,rfl,rfl,rfl,rfl,trivial⟩ ⟨hqJ,bfin,?_⟩ (by show J.length - (q + 1) < J.length - q;omega)
  show Grows rrT _ f we _ (LL ++ (Vw.of s.rows (t,(d : Int))).take (q + 1))
  rw [hrow,← List.append_assoc];exact hfin
end Vw
namespace K
section
variable {n : NN} {Q : Exit → Act → World → Prop} {l : Env} {w w' : World} {ops : Array Oper} {o : Oper} {rest : List Oper} {d : Nat}
theorem WL.nilS {x y : Operand} {t t2 e sz m c : Nat} {sp : Option Addr} (hg : o.guard = none) (hd : o.dst = some d) (hn : Nat.blt d n.n = true) (ho : o.op = .binOp .eql t x y t2) (ht : tyOf ty t = some (.slice e sz)) (hx : evl l x = some (.slice sp m c)) (hy : evl l y = some (.slice none 0 0))
    (h : WL n ops Q rest ((d,.bool sp.isNone) :: l) w) : WL n ops Q (o :: rest) l w :=
  WL.step hg hd hn (fun a ha => by
    unfold execOp;rw [ho];obtain ⟨hu,-⟩:=TyOk.of tyOk ht;have:=Lib.run_eql_slice_nil w t e sp m c 0 0 hu;have hq : (eqGuard .eql t x y (.slice sp m c) (.slice none 0 0)).run Tryz.prog w = .ok () w:=by simp [eqGuard]
    simp only [ha.eval hx,ha.eval hy,Sem.run_bind,hq,Result.andThen_ok,this]
    rfl) h
end
theorem cloneS_any {w : World} {v : Value} {l : List ByteArray} (h : Strs w v l) (hl : l.length ≤ 1000000) :
    Calls Tryz.prog 78 #[v] w fun r w' => Below w.heap.size w w' ∧ ∃ v',r = .returned v' ∧ Els 1 noT strP (fun b => w.heap.size ≤ b) w' v' l ∧ v'.oneCell' = true:=by
  have h0:=h;obtain ⟨sp,cap,rfl,h1,h2,h3,h4⟩:=h;refine enter (args:=[.slice sp l.length cap]) Tryz.func78 rfl Tryz.ntmps78 rfl ?_;refine K.kgo ?_;refine WL.nilS rfl rfl rfl rfl rfl rfl rfl ?_;cases sp with
  | none =>
    have hl0 : l.length = 0:=by
      rcases Nat.eq_zero_or_pos l.length with h | h
      · exact h
      · obtain ⟨_,_,hc,-⟩:=h4 h;cases hc
    obtain rfl:=List.eq_nil_of_length_eq_zero hl0
    show WL _ _ _ _ ((_,.bool true) :: _) _
    refine K.kgo ?_;exact WQ.ret1 rfl rfl ⟨Below.refl _ _,_,rfl,Els.nil _ _ _ _ _,rfl⟩
  | some ad =>
    show WL _ _ _ _ ((_,.bool false) :: _) _
    refine K.kgo ?_;refine WL.empty rfl rfl rfl rfl rfl fun g w1 hf => ?_;have hf' : Fresh w g w1 9 []:=hf;clear hf;have hg:=hf'.eq;have hz:=hf'.size;have hb1:=hf'.below;refine K.kgo ?_
    by_cases hn0 : l.length = 0
    · obtain rfl:=List.eq_nil_of_length_eq_zero hn0
      refine WL.app0 rfl rfl rfl rfl rfl rfl (Nat.le_refl 0) rfl ?_;refine K.kgo ?_;exact WQ.ret1 rfl rfl ⟨hb1,_,rfl,⟨_,0,rfl,by simp,by omega,(fun h => by cases h),fun h => by simp at h⟩,rfl⟩
    · have hown : OwnV 9 1 w1 (fun x => x = g) (.slice (some ⟨g,0,none⟩) 0 0) 0 []:=⟨⟨by simp,.inr ⟨g,0,#[],rfl,Nat.zero_le _,hf'.blk,Nat.le_refl _,by unfold maxLen;omega,by simp,by simp⟩⟩,fun _ h => (List.not_mem_nil h).elim,fun g h => by cases h;rfl⟩
      have hsl:=strs_slV (Strs.below h0 hb1) (by omega);refine WL.appV rfl rfl rfl rfl elemS1 rfl hown rfl hsl (by omega) (by omega) fun v2 w2 ho2 hg2 => ?_;have hone : v2.oneCell' = true:=by obtain ⟨_,_,rfl,-⟩:=ho2.slice;rfl
      have hb2 : Below w.heap.size w w2:=hb1.trans (hg2.old (B:=w.heap.size) (by omega) (fun x hx => by have : g = x:=Option.some.inj hx;omega));refine K.kgo ?_;simp only [Nat.zero_add,List.nil_append] at ho2;refine WQ.ret1 rfl rfl ⟨hb2,v2,rfl,own_strs (O:=fun b => w.heap.size ≤ b) (ho2.mono fun b hb => by omega) fun s hs => ?_,hone⟩;obtain ⟨j,hj,rfl⟩:=List.getElem_of_mem hs
      simpa [hj] using h3 j hj
end K
namespace K
set_option maxHeartbeats 8000000 in
theorem vown_any {B : Nat} (hB : B ≤ 1000000) : ∀ (f : Nat) {w : World} {v : V} {cs : List Value},IsV f w v cs → Sm B f v →
    Calls Tryz.prog 56 #[.agg cs.toArray] w fun e w' => Below w.heap.size w w' ∧ ∃ cs',e = .returned (.agg cs'.toArray) ∧ IsVo (fun b => w.heap.size ≤ b) f w' v cs'
  | 0,_,_,_,h,_ => h.elim
  | f + 1,w,v,cs,h,hm => by
    obtain ⟨sn,sk,rfl,wk,wn,ws,wt,hnames,hkids⟩:=h;obtain ⟨hmn,hmk,hms⟩:=hm;obtain ⟨sp,cap,rfl,hcap1,hcap2,hrow⟩:=hkids;refine enter (args:=[.agg (six v sn (.slice sp v.kids.length cap)).toArray]) Tryz.func56 rfl Tryz.ntmps56 rfl ?_;refine K.kgo ?_;refine WL.box rfl rfl rfl rfl rfl fun g1 w1 hf1 => ?_;have hf1' : Fresh w g1 w1 48 (six v sn (.slice sp v.kids.length cap)):=hf1;clear hf1;refine WL.alloc (z:=.agg zCells.toArray) rfl rfl rfl rfl (fun _ => by kernel_rfl) fun g2 w2 hf2 => ?_;have hf2' : Fresh w1 g2 w2 48 zCells:=hf2;clear hf2;have hz1:=hf1'.size;have hz2:=hf2'.size;have he1:=hf1'.eq;have he2:=hf2'.eq;have hw2 : Below w.heap.size w w2:=hf1'.below.trans (hf2'.below.mono hf1'.below.size);have B1:=hf1'.blk.below hf2'.below hf1'.blk.lt;have B2:=hf2'.blk;clear hf1' hf2';refine K.kgo ?_;refine WL.load rfl rfl rfl rfl rfl rfl (B1.cell 4 (by simp)) ?_;refine WL.call rfl rfl rfl rfl rfl Tryz.func78 rfl (by kernel_rfl) (cloneS_any (hnames.below hw2) (by omega)) ?_;rintro _ w3 ⟨hb3,sx,rfl,hn3,hsx⟩;refine ⟨_,rfl,?_⟩;have B13:=B1.below hb3 B1.lt;have B23:=B2.below hb3 B2.lt;have hw3 : Below w.heap.size w w3:=hw2.trans (hb3.mono hw2.size);refine K.kgo ?_;refine WL.store rfl rfl rfl rfl rfl hsx (by kernel_rfl) (B13.cell 4 (by simp)) (B13.free 4) ?_;have C1 : VBlk 48 (w3.setCell ⟨g1,4,none⟩ sx) g1 (six v sx (.slice sp v.kids.length cap)):=B13.set 4 sx;have C2 : VBlk 48 (w3.setCell ⟨g1,4,none⟩ sx) g2 zCells:=B23.other _ _ (by show g2 ≠ g1;omega);have hw5 : Below w.heap.size w (w3.setCell ⟨g1,4,none⟩ sx):=Keep.below (Keep.setCell (Keep.of_below hw3) (fun hk => by simp only at hk;omega) _);have hset1 : Keep (fun b => b ≠ g1) w3 (w3.setCell ⟨g1,4,none⟩ sx):=(Keep.refl _ w3).setCell (fun hk => hk rfl) _;have hnm : Els 1 noT strP (fun b => w.heap.size ≤ b ∧ b ≠ g1 ∧ b ≠ g2) (w3.setCell ⟨g1,4,none⟩ sx) sx v.names:=hn3.keep hset1 (fun b hb _ => by omega) (fun b hb => by omega) fun _ _ h => h;generalize w3.setCell ⟨g1,4,none⟩ sx = w5 at C1 C2 hw5 hnm ⊢;clear hset1;have hz5:=hw5.size;have hgg : g1 ≠ g2:=by omega
    have hg1w:=C1.lt;have hg2w:=C2.lt;refine K.kgo ?_;refine WL.load rfl rfl rfl rfl rfl rfl (C1.cell 5 (by simp)) ?_;refine K.kgo ?_;refine WC.loop (fun i : Nat × Value => [(1,.pointer (some ⟨g1,0,none⟩)),(2,.pointer (some ⟨g2,0,none⟩)),(3,i.2),(11,.slice sp v.kids.length cap),(12,.int .i64 v.kids.length),(13,.int .i64 i.1)])
      (fun i wr => i.1 ≤ v.kids.length ∧ Below w5.heap.size w5 wr ∧ ∃ q : Nat → Prop,OwnE 48 6 noV (IsVo q f wr) (fun b => w5.heap.size ≤ b) wr i.2 (v.kids.take i.1) ∧ ∀ b,q b → w5.heap.size ≤ b ∧ b < wr.heap.size ∧ i.2.ownBlock ≠ some b) (fun i => v.kids.length - i.1) (0,.slice none 0 0)
      ⟨rfl,rfl,rfl,rfl,rfl,rfl,trivial⟩ ⟨Nat.zero_le _,Below.refl _ _,fun _ => False,OwnE.nil _ _ _ _ _ _,fun b h => h.elim⟩ ?_
    rintro ⟨i,vk⟩ wr ⟨hi,hbr,q,hoE,hq⟩;simp only at hi hbr hoE hq ⊢;have D1:=C1.below hbr hg1w;have D2:=C2.below hbr hg2w;have hwr : Below w.heap.size w wr:=hw5.trans (hbr.mono hz5);have hzr:=hbr.size
    by_cases hik : i < v.kids.length
    · obtain ⟨kb,ko,rfl,hkb,hcells⟩:=hrow (by omega)
      obtain ⟨c,hc6,hci,hcr⟩:=hcells i hik;refine K.kgo ?_;refine WL.idx i (ko + i * 6) rfl rfl rfl rfl rfl rfl rfl rfl hik rfl ?_;refine WL.loadMid rfl rfl rfl rfl rfl rfl (fun j u hu => (hwr.cell (p:=⟨kb,ko + i * 6 + j,none⟩) hkb).trans (hcr j u hu)) hc6 ?_;refine WL.alloc (z:=.agg zCells.toArray) rfl rfl rfl rfl (fun _ => by kernel_rfl) fun kc wa hfa => ?_;have hfa' : Fresh wr kc wa 48 zCells:=hfa;clear hfa;refine K.kgo ?_;refine WL.storeRow rfl rfl rfl rfl rfl rfl hfa'.blk hc6 (by rfl) (IsV.one hci) ?_;have hka : Below wr.heap.size wr (wa.setRow kc c.toArray):=below_setRow hfa'.below (by rw [hfa'.eq];exact Nat.le_refl _) _;have Ka : VBlk 48 (wa.setRow kc c.toArray) kc c:=hfa'.blk.setRow _;generalize wa.setRow kc c.toArray = wb at hka Ka;clear hfa';have hzb:=hka.size;refine K.kgo ?_;refine WL.loadMid rfl rfl rfl rfl rfl rfl (VBlk.rangeAt Ka) hc6 ?_;refine WL.call rfl rfl rfl rfl rfl Tryz.func56 rfl (by kernel_rfl) (vown_any hB f (hci.below (hwr.trans (hka.mono hwr.size))) (hms _ (by simp [hik]))) ?_;rintro _ w6 ⟨hb6',c6,rfl,hv6'⟩;refine ⟨_,rfl,?_⟩;have hb6 : Below wr.heap.size wr w6:=hka.trans (hb6'.mono hzb);have hv6 : IsVo (fun b => wr.heap.size ≤ b) f w6 (v.kids.getD i noV) c6:=IsVo.mono (fun b hb => by omega) hv6';have hz6:=hb6.size;refine WL.lit1 rfl rfl rfl rfl rfl rfl rfl hv6.len ⟨by omega,by omega⟩ (by kernel_rfl) fun g7 w7 hf7 => ?_;have hz7:=hf7.size;have hk7 : Below wr.heap.size wr w7:=hb6.trans (hf7.below.mono hz6);have hoE7 : OwnE 48 6 noV (IsVo (fun b => q b ∨ (wr.heap.size ≤ b ∧ b < w7.heap.size)) f w7) (fun b => w5.heap.size ≤ b) w7 vk (v.kids.take i) :=
        hoE.keep (Keep.of_below hk7) (fun g hg => hoE.lt hg) (fun _ h => h) fun x cs hx => hx.keep (Keep.of_below hk7) (fun b hb _ => (hq b hb).2.1) fun b hb => .inl hb
      have hv7 : IsVo (fun b => q b ∨ (wr.heap.size ≤ b ∧ b < w7.heap.size)) f w7 (v.kids.getD i noV) c6:=hv6.there.keep (Keep.of_below hf7.below) (fun b _ h => h) fun b hb => .inr ⟨hb.1,by omega⟩;have hlt : (v.kids.take i).length ≤ i:=by rw [List.length_take];omega
      refine WL.snoc rfl rfl rfl rfl elemV6 rfl hoE7 rfl hf7.blk hv6.one hv6.len hv7 (by omega) (by omega) fun vk8 w8 ho8 hg8 => ?_;have hbel8 : Below w5.heap.size w5 w8:=(hbr.trans (hk7.mono hzr)).trans (hg8.old (by omega) fun g hg => hoE7.own hg);have hq8 : ∀ b,(q b ∨ (wr.heap.size ≤ b ∧ b < w7.heap.size)) → w5.heap.size ≤ b ∧ b < w7.heap.size ∧ vk.ownBlock ≠ some b:=fun b hb => hb.elim (fun h => by
          obtain ⟨h1,h2,h3⟩:=hq b h;exact ⟨h1,by omega,h3⟩) fun h => ⟨by omega,h.2,fun e => by have:=hoE.lt e;omega⟩
      have htk : v.kids.take (i + 1) = v.kids.take i ++ [v.kids.getD i noV]:=by
        rw [List.take_add_one];simp [hik]
      refine K.kgo ?_;refine WQ.again (i + 1,vk8) ⟨rfl,rfl,rfl,rfl,rfl,rfl,trivial⟩ ⟨hik,hbel8,(fun b => q b ∨ (wr.heap.size ≤ b ∧ b < w7.heap.size)),?_,fun b hb => ?_⟩ (by show v.kids.length - (i + 1) < v.kids.length - i;omega)
      · show OwnE _ _ _ _ _ _ _ (v.kids.take (i + 1))
        rw [htk];exact ho8.keep (Keep.refl (fun _ => True) w8) (fun _ _ => trivial) (fun b hb => by omega) fun x cs hx => hx.keep hg8.1 (fun b hb _ => (hq8 b hb).2) fun b hb => hb
      · obtain ⟨h1,h2,h3⟩:=hq8 b hb
        exact ⟨h1,Nat.lt_of_lt_of_le h2 hg8.1.size,fun e => (hg8.2 b e).elim h3 fun h4 => by omega⟩
    · obtain rfl : i = v.kids.length:=by omega
      rw [List.take_length] at hoE;have hvk:=hoE.one;have hset : Keep (fun b => b ≠ g1) wr (wr.setCell ⟨g1,5,none⟩ vk):=(Keep.refl _ wr).setCell (fun hk => hk rfl) _;refine K.kgo ?_;refine WL.store rfl rfl rfl rfl rfl hvk (by kernel_rfl) (D1.cell 5 (by simp)) (D1.free 5) ?_;have E1:=D1.set 5 vk;have E2 : VBlk 48 (wr.setCell ⟨g1,5,none⟩ vk) g2 zCells:=D2.other _ _ (by show g2 ≠ g1;omega);have hwE : Below w.heap.size w (wr.setCell ⟨g1,5,none⟩ vk):=Keep.below (Keep.setCell (Keep.of_below hwr) (fun hk => by simp only at hk;omega) _);have hnmE:=(hnm.there (fun _ _ h => h)).keep (O':=fun b => (w.heap.size ≤ b ∧ b ≠ g1 ∧ b ≠ g2)) (Keep.of_below hbr) (fun b hb hlt => hlt) (fun b hb => hb.1) fun _ _ h => h;have hnmF:=hnmE.keep hset (fun b hb _ => hb.2.1) (fun b hb => hb) fun _ _ h => h;have hkdF : Els 6 noV (IsVo (fun b => w5.heap.size ≤ b) f (wr.setCell ⟨g1,5,none⟩ vk)) (fun b => w5.heap.size ≤ b) (wr.setCell ⟨g1,5,none⟩ vk) vk v.kids :=
        hoE.els.keep hset (fun b hb _ => by omega) (fun b hb => hb) fun x cs hx => hx.keep hset (fun b hb _ => by have:=(hq b hb).1;omega) fun b hb => (hq b hb).1
      generalize wr.setCell ⟨g1,5,none⟩ vk = w9 at E1 E2 hwE hnmF hkdF;simp only [List.set_cons_zero,List.set_cons_succ] at E1;refine K.kgo ?_;refine WL.loadMid rfl rfl rfl rfl rfl rfl (VBlk.rangeAt E1) rfl ?_;have hone : Ones [Value.int .i64 v.k,.int .i64 v.n,.int .i64 v.s,.string v.t,sx,vk]:=by
        intro u hu;simp at hu
        rcases hu with rfl | rfl | rfl | rfl | rfl | rfl <;> first | rfl | assumption
      refine WL.storeRow rfl rfl rfl rfl rfl rfl E2 rfl rfl hone ?_;refine K.kgo ?_;have hset2 : ∀ a,Keep (fun b => b ≠ g2) w9 (w9.setRow g2 a):=fun a => Keep.setRow (Keep.refl _ w9) (fun hk => hk rfl) a;refine WQ.retC rfl rfl rfl rfl (E2.setRow _) ⟨Keep.below (Keep.setRow (Keep.of_below hwE) (fun hk => by omega) _),_,rfl,sx,vk,rfl,wk,wn,ws,wt,hnmF.keep (hset2 _) (fun b hb _ => hb.2.2) (fun b hb => hb.1) fun _ _ h => h,?_⟩;exact hkdF.keep (hset2 _) (fun b hb _ => by omega) (fun b hb => by omega) fun x cs hx => hx.keep (hset2 _) (fun b hb _ => by omega) fun b hb => by omega
end K
namespace Cr
open K Cat
set_option maxRecDepth 100000
set_option maxHeartbeats 1000000 in
theorem mclone_any {w : World} {b : Nat} {es : Array MapEntry} {clock : Nat} (hb : w.heap[b]? = some (.map es clock)) :
    Calls Tryz.prog 68 #[.map (some b)] w fun e w' => e = .returned (.map (some w.heap.size)) ∧ w' = w.alloc (.map es clock):=by
  have hq:=fun w => run_eql_map_nil_sl (P:=Tryz.prog) w 110 _ _ (some b) Tryz.underlying110
  go_enter Tryz.func68,Tryz.ntmps68
  go_wp2
  rw [run_callFunc_extern Tryz.func69 (by kernel_rfl) (by kernel_rfl) (by kernel_rfl) (e:=Extern.MapsClone.clone) (by kernel_rfl),run_maps_clone_sl _ 110 hb];simp only [Result.andThen];rw [Oper.upon_value]
  go_wp2
  rw [run_typeAssert_map_sl _ 110 _ _ _ _ Tryz.underlying110];simp only [Result.andThen];rw [Oper.upon_value]
  go_wp2
  go_ret
  exact ⟨rfl,rfl⟩
theorem OwnV.within {e : TypeId} {m : Nat} {w : World} {O : Nat → Prop} {v : Value} {n : Nat} {l : List Value} (h : OwnV e m w O v n l) : OwnV e m w (fun b => O b ∧ b < w.heap.size) v n l:=⟨h.1,h.2.1,fun _ hg => ⟨h.own hg,h.lt hg⟩⟩
theorem Tabs.within {eT eF : TypeId} {w : World} {O : Nat → Prop} {tv : Value} {L : List Tb} (h : Tabs eT eF w O tv L) : Tabs eT eF w (fun b => O b ∧ b < w.heap.size) tv L:=by
  obtain ⟨cells,h1,h2⟩:=h;exact ⟨cells,OwnV.within h1,fun i hi => ⟨(h2 i hi).1,(h2 i hi).2.1,(h2 i hi).2.2.1,OwnV.within (h2 i hi).2.2.2⟩⟩
theorem Tabs.mono {eT eF : TypeId} {w : World} {O O' : Nat → Prop} {tv : Value} {L : List Tb} (h : Tabs eT eF w O tv L) (hO : ∀ b,O b → O' b) : Tabs eT eF w O' tv L:=by
  obtain ⟨cells,h1,h2⟩:=h;exact ⟨cells,h1.mono hO,fun i hi => (h2 i hi).mono hO⟩
abbrev ctT : Nat:=113
theorem builtCt (sp : Option Addr) (m cap : Nat) (dr : Int) (mb : Nat) : Tryz.prog.built ctT [(0,.slice sp m cap),(1,.int .u64 dr),(2,.map (some mb))] = some [.slice sp m cap,.int .u64 dr,.map (some mb)].toArray:=by kernel_rfl
theorem ccopy_any {w : World} {c n : Nat} {O : Nat → Prop} {L : List Tb} (h0 : IsCat w c O n L) : Calls Tryz.prog 41 #[.pointer (some ⟨c,0,none⟩)] w fun e w' => ∃ c' O',e = .returned (.pointer (some ⟨c',0,none⟩)) ∧ IsCat w' c' O' n L ∧ Below w.heap.size w w' ∧ ∀ b,O' b → w.heap.size ≤ b:=by
  obtain ⟨tv,dr,mb,hv,hOc,hOm,hO,hT,hB,hM,hG⟩:=id h0;have k1:=hv.cell 1 (by simp);have k2:=hv.cell 2 (by simp);simp only [List.getD_cons_succ,List.getD_cons_zero] at k1 k2;have hlt:=hO _ hOc;refine enter (args:=[.pointer (some ⟨c,0,none⟩)]) Tryz.func41 rfl Tryz.ntmps41 rfl ?_;refine K.kgo ?_;refine WL.nilP rfl rfl rfl rfl rfl rfl (by kernel_rfl) ?_;refine K.kgo ?_;refine WC.drawn 11 (fun wx => Below w.heap.size w wx) fun w1 hd => ?_;have hS : Below w.heap.size w w1:=hd.below _;refine K.fr [0,2,3,4,6,7,8] hS ?_;refine K.wl 5 [11] rfl rfl rfl rfl rfl rfl rfl (fun wx hx => (hx.cell (p:=⟨c,1,none⟩) hlt).trans k1) hS ?_;refine K.wl 9 [10,11] rfl rfl rfl rfl rfl rfl rfl (fun wx hx => (hx.cell (p:=⟨c,2,none⟩) hlt).trans k2) hS ?_;refine K.wo 1 ?_;refine WL.call rfl rfl rfl rfl rfl Tryz.func35 rfl (by kernel_rfl) (all_any (h0.below hS (Nat.le_refl _))) ?_;rintro _ w2 ⟨sp,cap,rfl,hT2,b2⟩;refine ⟨_,rfl,?_⟩;have c2:=hS.trans (b2.mono hS.size);refine K.di c2 ?_;obtain ⟨es,clock,hm,hM3⟩:=K.MF.clone (hM.below c2 (hO _ hOm));refine K.wo 10 ?_;refine WL.call rfl rfl rfl rfl rfl Tryz.func68 rfl (by kernel_rfl) (mclone_any hm) ?_;rintro _ w3 ⟨rfl,e3⟩;refine ⟨_,rfl,?_⟩;have b3 : Below w2.heap.size w2 w3:=e3 ▸ (Below.refl _ _).alloc (Nat.le_refl _) _;have c3:=c2.trans (b3.mono c2.size);have z3 : w3.heap.size = w2.heap.size + 1:=by rw [e3];show (w2.heap.push _).size = _;simp
  rw [← e3] at hM3;refine K.di c3 ?_;refine K.wo 11 ?_;refine WL.build [.slice sp L.length cap,.int .u64 (dr : Nat),.map (some w2.heap.size)] rfl rfl rfl rfl rfl (builtCt _ _ _ _ _) ?_;refine K.dl ?_;refine K.wo 12 ?_;refine WL.box rfl rfl rfl rfl rfl fun g w4 f4 => ?_;refine K.dl ?_
  (refine K.fzl 13 rfl (q:=?_))
  refine WD.done (by kernel_rfl) ?_;have c4:=c3.trans (f4.below.mono c3.size);have v4 : VBlk ctT w4 g [.slice sp L.length cap,.int .u64 (dr : Nat),.map (some w2.heap.size)]:=f4.blk;have e4:=f4.eq;have hz1:=hS.size;have hz2:=b2.size;have hz4:=f4.size;have hT4 : Tabs 107 153 w4 (fun b => w.heap.size ≤ b ∧ b < w4.heap.size) (.slice sp L.length cap) L :=
    Cr.Tabs.mono (Cat.Tabs.keep (Cr.Tabs.within hT2) (Keep.of_below (b3.trans (f4.below.mono b3.size))) fun b hb => hb.2) fun b (hb : w1.heap.size ≤ b ∧ b < w2.heap.size) => ⟨by omega,by omega⟩
  have hM4:=hM3.below f4.below (by omega);have k2':=v4.cell 2 (by simp);simp only [List.getD_cons_succ,List.getD_cons_zero] at k2';refine K.kgl ?_;refine WL.nilM Tryz.underlying110 rfl rfl rfl rfl rfl ?_;refine K.kgo ?_;exact WQ.ret1 rfl rfl ⟨g,fun b => w.heap.size ≤ b ∧ b < w4.heap.size,rfl,⟨_,dr,_,v4,⟨by omega,by omega⟩,⟨by omega,by omega⟩,fun b hb => hb.2,hT4,hB,hM4,hG⟩,c4,fun b hb => hb.1⟩
end Cr
namespace Vw
open K
set_option maxRecDepth 100000
abbrev pvT : Nat:=85
abbrev prT : Nat:=63
abbrev keT : Nat:=97
theorem keRow : keT < Tryz.prog.types.size:=of_decide_eq_true (by kernel_rfl)
theorem keWide : (match Tryz.prog.underlying keT with | some (.array _ _) | some (.struct _) => true | _ => false) = true:=by rw [show Tryz.prog.underlying keT = _ from Tryz.underlying97]
theorem keKeyed : Keyed Tryz.prog keT:=Keyed.of_law (deep_law_laid Cat.laid (m:=2) (by omega) keRow (by kernel_rfl) keWide)
theorem keKeyType : Tryz.prog.keyType keT = true:=by kernel_rfl
theorem keCells : Tryz.prog.cellsOf keT = 2:=by kernel_rfl
theorem keKey {x : Int × Int} (h1 : R64 x.1) (h2 : R64 x.2) : keyOf Tryz.prog keT (mk2 x) = some (.string (keyBytes [.int .i64 x.1,.int .i64 x.2])) :=
  keyOf_2 Tryz.underlying97 Tryz.underlying3 rfl rfl (by decide) rfl rfl (by decide) keKeyType keCells Cat.intCells Cat.deepEnough x (wf64 h1) (wf64 h2)
def mkI (x : Int) : Value:=.int .i64 x
theorem mkI_inj (x y : Int) (h : mkI x = mkI y) : x = y:=by unfold mkI at h;injection h
theorem inKeyed : Keyed Tryz.prog iT:=int_keyed Tryz.underlying3
theorem inKey {x : Int} (h : R64 x) : keyOf Tryz.prog iT (mkI x) = some (.int .i64 x):=by
  unfold keyOf mkI;have hu : Tryz.prog.underlying iT = some (.int .i64):=Tryz.underlying3;simp [hu,mapKey,wf64 h]
def docF (L : List Rw) (t : Int) : Option Value:=if cnt t L = 0 then none else some (.int .i64 (cnt t L : Nat))
def plcF (L : List Rw) (a : Int × Int) : Option Value:=(L.find? fun r => decide (r.adr = a) && !r.del).map fun r => mk2 r.key
def namF (f : Int × Int → Bool) (a : Int × Int) : Option Value:=if f a = true then some (.bool true) else none
structure PV (w : World) (vb : Nat) (M D : Nat → Prop) (f : Nat) (s : St) (cp : Nat) (Oc : Nat → Prop) (mr md mp mn k N : Nat) (F : Int × Int → Option Value) : Prop where
  vbk : VBlk pvT w vb [.pointer (some ⟨cp,0,none⟩),.map (some mr),.map (some md),.map (some mp),.map (some mn),.int .i64 s.n]
  cat : Cat.IsCat w cp Oc k s.cat
  rows : MF Tryz.prog keT mk2 w mr k F
  els : ∀ x,Els 14 noR (RowP D f w) D w ((F x).getD (.slice none 0 0)) (Vw.of s.rows x)
  docs : MF Tryz.prog iT mkI w md k (docF s.rows)
  plcs : MF Tryz.prog adT mk2 w mp k (plcF s.rows)
  nams : MF Tryz.prog adT mk2 w mn k (namF s.red)
  mvb : M vb
  mmr : M mr
  mmd : M md
  mmp : M mp
  mmn : M mn
  moc : ∀ b,Oc b → M b
  out : ¬ Oc vb ∧ ¬ Oc mr ∧ ¬ Oc md ∧ ¬ Oc mp ∧ ¬ Oc mn
  dis : (mr ≠ md ∧ mr ≠ mp ∧ mr ≠ mn) ∧ (md ≠ mp ∧ md ≠ mn) ∧ mp ≠ mn
  lt : ∀ b,M b ∨ D b → b < w.heap.size
  sep : ∀ b,M b → ¬ D b
  ok : s.n ≤ N ∧ s.rows.length ≤ N ∧ k ≤ N ∧ N ≤ 1000000
def PVs (w : World) (vb : Nat) (M D : Nat → Prop) (f : Nat) (s : St) (N : Nat) : Prop:=∃ cp Oc mr md mp mn k F,PV w vb M D f s cp Oc mr md mp mn k N F
section
variable {w w' : World} {vb : Nat} {M D : Nat → Prop} {f : Nat} {s : St} {cp : Nat} {Oc : Nat → Prop} {mr md mp mn k N : Nat} {F : Int × Int → Option Value}
theorem PV.keep (h : PV w vb M D f s cp Oc mr md mp mn k N F) {K : Nat → Prop} (hk : Keep K w w') (hK : ∀ b,M b ∨ D b → K b) : PV w' vb M D f s cp Oc mr md mp mn k N F :=
  ⟨h.vbk.keep hk (hK _ (.inl h.mvb)),h.cat.keep hk fun b hb => hK b (.inl (h.moc b hb)),h.rows.keep hk (hK _ (.inl h.mmr)),fun x => (h.els x).keep hk (fun b hb _ => hK b (.inr hb)) (fun _ h => h) fun _ _ hp => hp.keep hk (fun b hb _ => hK b (.inr hb)) (fun _ h => h),
    h.docs.keep hk (hK _ (.inl h.mmd)),h.plcs.keep hk (hK _ (.inl h.mmp)),h.nams.keep hk (hK _ (.inl h.mmn)),h.mvb,h.mmr,h.mmd,h.mmp,h.mmn,h.moc,h.out,h.dis,fun b hb => Nat.lt_of_lt_of_le (h.lt b hb) hk.size,h.sep,h.ok⟩
theorem PV.below (h : PV w vb M D f s cp Oc mr md mp mn k N F) (hb : Below w.heap.size w w') : PV w' vb M D f s cp Oc mr md mp mn k N F:=h.keep (Keep.of_below hb) h.lt
theorem PVs.below (h : PVs w vb M D f s N) (hb : Below w.heap.size w w') : PVs w' vb M D f s N:=by obtain ⟨_,_,_,_,_,_,_,_,h⟩:=h;exact ⟨_,_,_,_,_,_,_,_,h.below hb⟩
theorem PVs.keep (h : PVs w vb M D f s N) {K : Nat → Prop} (hk : Keep K w w') (hK : ∀ b,M b ∨ D b → K b) : PVs w' vb M D f s N:=by obtain ⟨_,_,_,_,_,_,_,_,h⟩:=h;exact ⟨_,_,_,_,_,_,_,_,h.keep hk hK⟩
theorem PVs.lt (h : PVs w vb M D f s N) : ∀ b,M b ∨ D b → b < w.heap.size:=by obtain ⟨_,_,_,_,_,_,_,_,h⟩:=h;exact h.lt
theorem PVs.mono (h : PVs w vb M D f s N) {N' : Nat} (h1 : N ≤ N') (h2 : N' ≤ 1000000) : PVs w vb M D f s N':=by
  obtain ⟨cp,Oc,mr,md,mp,mn,k,F,h⟩:=h;exact ⟨cp,Oc,mr,md,mp,mn,k,F,{ h with ok:=by have:=h.ok;omega }⟩
theorem PV.lookR (h : PV w vb M D f s cp Oc mr md mp mn k N F) {x : Int × Int} (h1 : R64 x.1) (h2 : R64 x.2) : (Instr.lookup 80 (.map (some mr)) (mk2 x) false).run Tryz.prog w = .ok ((F x).getD (.slice none 0 0)) w :=
  h.rows.look keKeyed Tryz.underlying80 (by kernel_rfl) (keKey h1 h2)
theorem PV.lookD (h : PV w vb M D f s cp Oc mr md mp mn k N F) {t : Int} (h1 : R64 t) : (Instr.lookup 81 (.map (some md)) (.int .i64 t) false).run Tryz.prog w = .ok (.int .i64 (cnt t s.rows : Nat)) w:=by
  have:=h.docs.look inKeyed Tryz.underlying81 (z:=.int .i64 0) (by kernel_rfl) (inKey h1);unfold mkI at this;rw [this];unfold docF
  by_cases e : cnt t s.rows = 0
  · rw [if_pos e,e];rfl
  · rw [if_neg e];rfl
theorem PV.lookN (h : PV w vb M D f s cp Oc mr md mp mn k N F) {a : Int × Int} (h1 : R64 a.1) (h2 : R64 a.2) : (Instr.lookup 83 (.map (some mn)) (mk2 a) false).run Tryz.prog w = .ok (.bool (s.red a)) w:=by
  have:=h.nams.look adKeyed Tryz.underlying83 (z:=.bool false) (by kernel_rfl) (adKey h1 h2);rw [this];unfold namF;cases s.red a <;> rfl
theorem PV.lookP (h : PV w vb M D f s cp Oc mr md mp mn k N F) {a : Int × Int} (h1 : R64 a.1) (h2 : R64 a.2) : (Instr.lookup 82 (.map (some mp)) (mk2 a) true).run Tryz.prog w = .ok (.tuple #[(plcF s.rows a).getD (mk2 (0,0)),.bool (plcF s.rows a).isSome]) w :=
  h.plcs.look2 adKeyed Tryz.underlying82 (by kernel_rfl) (adKey h1 h2)
end
theorem builtKe (a b : Int) : Tryz.prog.built keT [(0,.int .i64 a),(1,.int .i64 b)] = some [Value.int .i64 a,.int .i64 b].toArray:=by kernel_rfl
theorem zeroCb (w : World) : (zeroValue 107).run Tryz.prog w = .ok (.agg Cr.zTab.toArray) w:=by kernel_rfl
theorem builtPRow0 : Tryz.prog.built prT [] = some (rwC noR zCells).toArray:=by kernel_rfl
set_option maxHeartbeats 2000000 in
theorem told_any {w : World} {f : Nat} {r : Rw} {dc : List Value} (hv : IsV f w r.data dc) (hsm : Sm 3000 f r.data) :
    Calls Tryz.prog 47 #[.agg (rwC r dc).toArray] w fun e w' => Below w.heap.size w w' ∧ ∃ dc',e = .returned (.agg (rwC r dc').toArray) ∧ IsVo (fun b => w.heap.size ≤ b) f w' r.data dc':=by
  have hdl:=hv.len;have hone:=IsV.one hv;refine enter (args:=[.agg (rwC r dc).toArray]) Tryz.func47 rfl Tryz.ntmps47 rfl ?_;refine K.kgn ?_;refine WL.box rfl rfl rfl rfl rfl fun g1 w1 f1 => ?_;have v1 : VBlk prT w1 g1 (rwC r dc):=f1.blk;have b1:=f1.below;have e1:=f1.eq;have s1:=f1.size;clear f1;refine WL.alloc (z:=.agg (rwC noR zCells).toArray) rfl rfl rfl rfl (fun _ => by kernel_rfl) fun g2 w2 f2 => ?_;have v2 : VBlk prT w2 g2 (rwC noR zCells):=f2.blk;have b2:=b1.trans (f2.below.mono b1.size);have e2:=f2.eq;replace v1:=VBlk.below v1 f2.below (VBlk.lt v1);have z1:=b1.size;clear f2;refine K.kgo ?_;refine WL.loadMid rfl rfl rfl rfl rfl rfl (RwAt.of (VBlk.rangeAt v1) hdl).data hdl ?_;refine WL.call rfl rfl rfl rfl rfl Tryz.func56 rfl (by kernel_rfl) (vown_any (B:=3000) (by omega) f (hv.below b2) hsm) ?_;rintro _ w3 ⟨b3,dc',rfl,hv3⟩;refine ⟨_,rfl,?_⟩;have hdl':=hv3.len;have l1:=VBlk.lt v1;have l2:=VBlk.lt v2;replace v1:=VBlk.below v1 b3 l1;replace v2:=VBlk.below v2 b3 l2;have bb:=b2.trans (b3.mono b2.size);refine K.kgo ?_;refine WL.storeMid rfl rfl rfl rfl rfl rfl v1 hdl' (by rw [rwC_len hdl];omega) hv3.one ?_;have v4:=VBlk.setRow v1 ((rwC r dc).take 3 ++ dc' ++ (rwC r dc).drop (3 + 6));have k4 : Keep (fun x => x ≠ g1) w3 (w3.setRow g1 ((rwC r dc).take 3 ++ dc' ++ (rwC r dc).drop (3 + 6)).toArray):=Cr.keepRow (Keep.refl _ _) (by simp) _;rw [rwC_data hdl] at v4 k4;change WL _ _ _ _ _ (w3.setRow g1 ((rwC r dc).take 3 ++ dc' ++ (rwC r dc).drop (3 + 6)).toArray);rw [rwC_data hdl];generalize w3.setRow g1 _ = w4 at v4 k4 ⊢;refine K.kgo ?_;refine WL.loadMid rfl rfl rfl rfl rfl rfl (VBlk.rangeAt v4) (rwC_len hdl') ?_;have v24:=v2.keep k4 (by omega);refine WL.storeRow rfl rfl rfl rfl rfl rfl v24 (rwC_len hdl') rfl (rwC_one hv3.one) ?_;have v5:=VBlk.setRow v24 (rwC r dc');have k5 : Keep (fun x => x ≠ g1 ∧ x ≠ g2) w3 (w4.setRow g2 (rwC r dc').toArray):=Cr.keepRow (k4.mono fun x hx => hx.1) (by simp) _;generalize w4.setRow g2 _ = w5 at v5 k5 ⊢;refine K.kgo ?_;exact WQ.retC rfl rfl rfl (rwC_len hdl') v5 ⟨((Keep.of_below bb).trans (k5.mono fun x (hx : x < w.heap.size) => ⟨by omega,by omega⟩)).below,dc',rfl,hv3.keep k5 (fun x hx _ => ⟨by omega,by omega⟩) fun x hx => by have:=b2.size;omega⟩
set_option maxHeartbeats 2000000 in
theorem pnext_any {w : World} {vb : Nat} {M D : Nat → Prop} {f : Nat} {s : St} {N : Nat} (h0 : PVs w vb M D f s N) {t : Int} (ht : R64 t) :
    Calls Tryz.prog 23 #[.pointer (some ⟨vb,0,none⟩),.int .i64 t] w fun e w' => e = .returned (.int .i64 (next s t)) ∧ Below w.heap.size w w':=by
  obtain ⟨cp,Oc,mr,md,mp,mn,k,F,h⟩:=h0;have c0:=h.vbk.cell 0 (by simp);simp only [List.getD_cons_zero] at c0;refine enter (args:=[.pointer (some ⟨vb,0,none⟩),.int .i64 t]) Tryz.func23 rfl Tryz.ntmps23 rfl ?_;refine K.kgo ?_;refine WL.nilP rfl rfl rfl rfl rfl rfl (by kernel_rfl) ?_;refine K.kgl ?_;refine WL.call rfl rfl rfl rfl rfl Tryz.func50 rfl (by kernel_rfl) (Cat.table_any h.cat t) ?_;rintro _ w2 ⟨sp,c,rfl,ho,b2⟩;refine ⟨_,rfl,?_⟩;refine K.kgo ?_;refine WL.alloc (z:=.agg Cr.zTab.toArray) rfl rfl rfl rfl zeroCb fun g8 w3 f3 => ?_;refine WL.storeRow rfl rfl rfl rfl rfl rfl f3.blk rfl rfl (Cr.ones4 rfl) ?_;obtain ⟨v8,b8,-,q8⟩:=rowed [Value.int .i64 (Cat.tabR s.cat t).1,.string (Cat.tabR s.cat t).2.1.name,.bool (Cat.tabR s.cat t).2.1.dropped,.slice sp (Cat.tabR s.cat t).2.1.fs.length c] b2 f3;generalize w3.setRow g8 _ = w4 at v8 b8 ⊢;clear f3 ho b2 q8 w3 w2 v8;have h4:=h.below b8;have c2:=h4.vbk.cell 2 (by simp);simp only [List.getD_cons_succ,List.getD_cons_zero] at c2;have hl:=h4.lookD ht;have hnx : next s t = if (Cat.tabR s.cat t).2.2 = 0 then (cnt t s.rows : Int) + 1 else 0:=rfl
  rw [hnx];have hcl:=cnt_le t s.rows;have hok:=h.ok;generalize (Cat.tabR s.cat t).2.2 = code;generalize cnt t s.rows = c at *
  by_cases hc : code = 0
  · rw [if_pos hc]
    refine K.kgl ?_;refine WL.look rfl rfl rfl rfl rfl rfl hl ?_;refine K.kgo ?_;exact WQ.ret1 rfl rfl ⟨rfl,b8⟩
  · rw [if_neg hc]
    refine K.kgo ?_;exact WQ.ret1 rfl rfl ⟨rfl,b8⟩
end Vw
namespace Vw
open K
set_option maxRecDepth 100000
def LivePost (w : World) (D : Nat → Prop) (f : Nat) (T : Option Rw) (e : Ending) (w' : World) : Prop :=
  Below w.heap.size w w' ∧ ∃ r dc b,e = .returned (.tuple #[.agg (rwC r dc).toArray,.bool b]) ∧ IsVo D f w' r.data dc ∧ RwOk r ∧ Sm 3000 f r.data ∧ (match T with | some r' => r = r' ∧ b = true | none => b = false)
theorem okNo : RwOk noR:=⟨by decide,by decide,by decide,by decide,by decide,by decide⟩
set_option maxHeartbeats 8000000 in
theorem live_any {w : World} {vb : Nat} {M D : Nat → Prop} {f : Nat} {s : St} {N : Nat} (h0 : PVs w vb M D (f + 1) s N) {t d : Int} (ht : R64 t) (hd : R64 d) :
    Calls Tryz.prog 48 #[.pointer (some ⟨vb,0,none⟩),.agg #[.int .i64 t,.int .i64 d]] w (LivePost w D (f + 1) (liveR s (t,d))):=by
  obtain ⟨cp,Oc,mr,md,mp,mn,k,F,h⟩:=id h0;refine enter (args:=[.pointer (some ⟨vb,0,none⟩),.agg #[.int .i64 t,.int .i64 d]]) Tryz.func48 rfl Tryz.ntmps48 rfl ?_;refine K.kgn ?_;refine WL.box rfl rfl rfl rfl rfl fun g3 w1 f1 => ?_;have v3 : VBlk keT w1 g3 [.int .i64 t,.int .i64 d]:=f1.blk;have b1:=f1.below;have e3:=f1.eq;have s3:=f1.size;clear f1;refine WL.alloc (z:=.agg (rwC noR zCells).toArray) rfl rfl rfl rfl (fun _ => by kernel_rfl) fun g4 w2 f2 => ?_;have v4 : VBlk prT w2 g4 (rwC noR zCells):=f2.blk;have b2:=b1.trans (f2.below.mono b1.size);have e4:=f2.eq;replace v3:=VBlk.below v3 f2.below (VBlk.lt v3);have z1:=b1.size;replace s3 : g3 < g4:=by omega
  have w3g : w.heap.size ≤ g3:=by omega
  clear f2 b1 z1 e4 e3 w1;have h2:=h.below b2;have c0:=h2.vbk.cell 0 (by simp);simp only [List.getD_cons_zero] at c0;have lvb:=h2.lt vb (.inl h2.mvb);have l3:=VBlk.lt v3;have l4:=VBlk.lt v4;have k30:=v3.cell 0 (by simp);simp only [List.getD_cons_zero] at k30;refine K.kgo ?_;refine WC.mid (fun g : Nat => [(0,.pointer (some ⟨vb,0,none⟩)),(3,.pointer (some ⟨g3,0,none⟩)),(4,.pointer (some ⟨g4,0,none⟩)),(6,.pointer (some ⟨g,0,none⟩)),(7,.int .i64 (Cat.tabR s.cat t).2.2)])
    (fun g w' => Below w2.heap.size w2 w' ∧ g < w'.heap.size ∧ w'.cell? ⟨g,2,none⟩ = some (.bool (Cat.tabR s.cat t).2.1.dropped)) rfl ?_ ?_
  · refine WC.drawn 6 (fun wx => Below w2.heap.size w2 wx) fun wa hdr => ?_
    have hS : Below w2.heap.size w2 wa:=hdr.below _;refine K.fr [0,1,2,4] hS ?_;refine K.wl 3 [6,7,8,9,11,12] rfl rfl rfl rfl rfl rfl rfl (fun wx hx => (hx.cell (p:=⟨vb,0,none⟩) lvb).trans c0) hS ?_;refine K.wl 5 [6,7,8,9,11,12] rfl rfl rfl rfl rfl rfl rfl (fun wx hx => (hx.cell (p:=⟨g3,0,none⟩) l3).trans k30) hS ?_;refine WD.two 6 10 (by kernel_rfl) rfl rfl ?_ ?_
    · skip
      refine WL.call rfl rfl rfl rfl rfl Tryz.func50 rfl (by kernel_rfl) (Cat.table_any (h2.below hS).cat t) ?_;rintro _ wb ⟨sp,c,rfl,ho,bb1⟩;refine ⟨_,rfl,?_⟩;refine K.dl ?_
      (refine K.fzl 7 rfl (q:=?_);refine K.fzl 8 rfl (q:=?_);refine K.fzl 9 rfl (q:=?_))
      refine K.wo 10 ?_;refine WL.alloc (z:=.agg Cr.zTab.toArray) rfl rfl rfl rfl zeroCb fun g9 wc f9 => ?_;refine K.dl ?_;refine K.wo 11 ?_;refine WL.storeRow rfl rfl rfl rfl rfl rfl f9.blk rfl rfl (Cr.ones4 rfl) ?_;obtain ⟨vf,bf,-,-⟩:=rowed [Value.int .i64 (Cat.tabR s.cat t).1,.string (Cat.tabR s.cat t).2.1.name,.bool (Cat.tabR s.cat t).2.1.dropped,.slice sp (Cat.tabR s.cat t).2.1.fs.length c] bb1 f9;replace bf:=hS.trans (bf.mono hS.size);refine K.dl ?_
      (refine K.fzl 12 rfl (q:=?_))
      refine WD.done (by kernel_rfl) ?_;refine K.kgo ?_;exact WQ.meet g9 ⟨rfl,rfl,rfl,rfl,rfl,trivial⟩ ⟨bf,vf.lt,vf.cell 2 (by simp)⟩
    · skip
      refine WL.alloc (z:=.agg Cr.zTab.toArray) rfl rfl rfl rfl zeroCb fun g9 wc f9 => ?_;have hSc:=hS.trans (f9.below.mono hS.size);refine K.di hSc ?_;refine K.wo 6 ?_;refine WL.call rfl rfl rfl rfl rfl Tryz.func50 rfl (by kernel_rfl) (Cat.table_any (h2.below hSc).cat t) ?_;rintro _ wb ⟨sp,c,rfl,ho,bb1⟩;refine ⟨_,rfl,?_⟩;refine K.dl ?_
      (refine K.fzl 7 rfl (q:=?_);refine K.fzl 8 rfl (q:=?_);refine K.fzl 9 rfl (q:=?_))
      refine K.wo 11 ?_;have v9:=VBlk.below f9.blk bb1 f9.blk.lt;refine WL.storeRow rfl rfl rfl rfl rfl rfl v9 rfl rfl (Cr.ones4 rfl) ?_;have vf:=v9.setRow [Value.int .i64 (Cat.tabR s.cat t).1,.string (Cat.tabR s.cat t).2.1.name,.bool (Cat.tabR s.cat t).2.1.dropped,.slice sp (Cat.tabR s.cat t).2.1.fs.length c];have hge:=f9.eq;have hgz:=hS.size;have bf:=(Cr.keepRow (K:=fun x => x < w2.heap.size) (g:=g9) (Keep.of_below (hSc.trans (bb1.mono hSc.size))) (fun hh => by omega) [Value.int .i64 (Cat.tabR s.cat t).1,.string (Cat.tabR s.cat t).2.1.name,.bool (Cat.tabR s.cat t).2.1.dropped,.slice sp (Cat.tabR s.cat t).2.1.fs.length c].toArray).below;refine K.dl ?_
      (refine K.fzl 12 rfl (q:=?_))
      refine WD.done (by kernel_rfl) ?_;refine K.kgo ?_;exact WQ.meet g9 ⟨rfl,rfl,rfl,rfl,rfl,trivial⟩ ⟨bf,vf.lt,vf.cell 2 (by simp)⟩
  rintro g6 w3 ⟨b3,lg6,cd⟩;have h3:=h2.below b3;replace v3:=VBlk.below v3 b3 l3;replace v4:=VBlk.below v4 b3 l4;have bw:=b2.trans (b3.mono b2.size);have z3:=b3.size;have c1:=h3.vbk.cell 1 (by simp);simp only [List.getD_cons_succ,List.getD_cons_zero] at c1;have lvb3:=h3.lt vb (.inl h3.mvb);have l3':=VBlk.lt v3;have l4':=VBlk.lt v4;clear c0 k30 h2 b2 b3 l3 l4 lvb;have hlv : liveR s (t,d) = if opn s t = true then (match (Vw.of s.rows (t,d)).getLast? with | some r => if r.del = false ∧ r.gone = false then some r else none | none => none) else none:=rfl
  have hop : opn s t = (decide ((Cat.tabR s.cat t).2.2 = 0) && !(Cat.tabR s.cat t).2.1.dropped):=rfl;rw [hop] at hlv;generalize (Cat.tabR s.cat t).2.2 = code at hlv ⊢;generalize (Cat.tabR s.cat t).2.1.dropped = dr at hlv cd;clear hop;have hlk : ∀ {wx : World},Below w3.heap.size w3 wx → (Instr.lookup 80 (.map (some mr)) (mk2 (t,d)) false).run Tryz.prog wx = .ok ((F (t,d)).getD (.slice none 0 0)) wx:=fun hx => (h3.below hx).lookR ht hd;have hel:=h3.els (t,d);generalize (F (t,d)).getD (.slice none 0 0) = sv at hlk hel;generalize Vw.of s.rows (t,d) = L at hel hlv;obtain ⟨sp,cap,rfl,hl1,hl2,-⟩:=id hel;refine K.kgo ?_;refine WC.drawn 6 (fun wx => Below w3.heap.size w3 wx) fun wa hdr => ?_;have hS : Below w3.heap.size w3 wa:=hdr.below _;clear hdr;refine K.fr [0,1,2] hS ?_;refine K.wl 3 [5,6] rfl rfl rfl rfl rfl rfl rfl (fun wx hx => (hx.cell (p:=⟨vb,1,none⟩) lvb3).trans c1) hS ?_;refine K.wm 4 [5,6] rfl rfl rfl rfl rfl rfl rfl (fun wx hx => VBlk.rangeAt (VBlk.below v3 hx l3')) rfl hS ?_;refine WD.look 5 [6] rfl (by kernel_rfl) rfl rfl (fun _ _ _ _ _ h => h) rfl rfl rfl rfl (fun wx hx => hlk hx) hS ?_;refine K.wo 6 ?_;refine WL.pure rfl rfl rfl rfl ?_;refine K.dl ?_;refine WD.done (by kernel_rfl) ?_;have v4a:=VBlk.below v4 hS l4';have l4a:=VBlk.lt v4a;have cda:=(hS.cell (p:=⟨g6,2,none⟩) lg6).trans cd;have ba:=bw.trans (hS.mono bw.size);have hone0:=(zV_is (fun _ => True) 0 wa).one;have za:=hS.size;have none_ : ∀ {cs : List Value},cs = rwC noR zCells → liveR s (t,d) = none → LivePost w D (f + 1) (liveR s (t,d)) (.returned (.tuple #[.agg cs.toArray,.bool false])) (wa.setRow g4 cs.toArray):=fun {cs} hc hn => by
    subst hc;rw [hn];exact ⟨(Cr.keepRow (K:=fun x => x < w.heap.size) (g:=g4) (Keep.of_below ba) (fun hh => by omega) _).below,noR,zCells,false,rfl,zV_is _ _ _,okNo,zSm _,rfl⟩
  by_cases hc : code = 0
  case neg =>
    rw [decide_eq_false hc] at hlv;refine K.kgl ?_;refine WL.build (rwC noR zCells) rfl rfl rfl rfl rfl builtPRow0 ?_;refine WL.storeRow rfl rfl rfl rfl rfl rfl v4a rfl rfl (rwC_one hone0) ?_;refine K.kgo ?_;exact WQ.retBT rfl rfl rfl rfl rfl (VBlk.setRow v4a _) (none_ rfl hlv)
  case pos =>
  rw [decide_eq_true hc] at hlv;cases dr with
  | true =>
    refine K.kgl ?_;refine WL.build (rwC noR zCells) rfl rfl rfl rfl rfl builtPRow0 ?_;refine WL.storeRow rfl rfl rfl rfl rfl rfl v4a rfl rfl (rwC_one hone0) ?_;refine K.kgo ?_;exact WQ.retBT rfl rfl rfl rfl rfl (VBlk.setRow v4a _) (none_ rfl hlv)
  | false =>
  by_cases hn0 : L.length = 0
  case pos =>
    obtain rfl : L = []:=List.eq_nil_of_length_eq_zero hn0;refine K.kgl ?_;refine WL.build (rwC noR zCells) rfl rfl rfl rfl rfl builtPRow0 ?_;refine WL.storeRow rfl rfl rfl rfl rfl rfl v4a rfl rfl (rwC_one hone0) ?_;refine K.kgo ?_;exact WQ.retBT rfl rfl rfl rfl rfl (VBlk.setRow v4a _) (none_ rfl hlv)
  case neg =>
  have hi : L.length - 1 < L.length:=by omega
  have hla : L.getLast? = some (L.getD (L.length - 1) noR):=by rw [List.getLast?_eq_getElem?,List.getD_eq_getElem?_getD,List.getElem?_eq_getElem hi];rfl
  rw [hla] at hlv;obtain ⟨b9,o9,cap9,dc9,es,lb9,-,R9,hvo9,ok9,sm9⟩:=els_at hel hi;obtain ⟨rfl,rfl⟩ : sp = some ⟨b9,o9,none⟩ ∧ cap = cap9:=by simpa using es
  clear es;generalize L.getD (L.length - 1) noR = r at R9 hvo9 ok9 sm9 hlv;have R9a:=R9.below (Keep.of_below hS) lb9;have x3:=R9a.all;have hdl:=hvo9.len;refine K.kgl ?_;refine WL.idx (L.length - 1) (o9 + (L.length - 1) * 14) rfl rfl rfl rfl rfl rfl rfl (by omega) hi rfl ?_;refine WL.loadMid rfl rfl rfl rfl rfl rfl x3 (rwC_len hdl) ?_;refine WL.alloc (z:=.agg (rwC noR zCells).toArray) rfl rfl rfl rfl (fun _ => by kernel_rfl) fun g9 w4 f4 => ?_;refine WL.storeRow rfl rfl rfl rfl rfl rfl f4.blk (rwC_len hdl) rfl (rwC_one hvo9.one) ?_;obtain ⟨v9,b9',-,q9⟩:=rowed (rwC r dc9) (Below.refl wa.heap.size wa) f4;generalize w4.setRow g9 _ = w5 at v9 b9' ⊢;clear f4;have l9:=VBlk.lt v9;have v45:=VBlk.below v4a b9' l4a;have A9 : RwAt w5 g9 0 r dc9:=RwAt.of (VBlk.rangeAt v9) hdl;have z5:=b9'.size;have hl0:=h3.lt;have fin : ∀ {wx : World} {b : Bool},Below w5.heap.size w5 wx → (match liveR s (t,d) with | some r' => r = r' ∧ b = true | none => b = false) → LivePost w D (f + 1) (liveR s (t,d)) (.returned (.tuple #[.agg (rwC r dc9).toArray,.bool b])) (wx.setRow g4 (rwC r dc9).toArray):=fun {wx b} hx hm => by
    have kx : Keep (fun x => x ≠ g4) wx (wx.setRow g4 (rwC r dc9).toArray):=Cr.keepRow (Keep.refl _ _) (by simp) _;have b3x : Below w3.heap.size w3 wx:=hS.trans ((b9'.trans (hx.mono z5)).mono za);refine ⟨((Keep.of_below (bw.trans (b3x.mono bw.size))).trans (kx.mono fun x (hx : x < w.heap.size) e => by omega)).below,r,dc9,b,rfl,?_,ok9,sm9,hm⟩;exact hvo9.keep ((Keep.of_below b3x).mono (fun x (hx : x < w3.heap.size ∧ x ≠ g4) => hx.1) |>.trans (kx.mono fun x hx => hx.2)) (fun x hx hxl => ⟨hxl,fun e => by
      have:=h.lt x (.inr hx);omega⟩) (fun _ h => h)
  have A9d:=A9.del;have A9g:=A9.gone;refine K.kgo ?_;have g94 : g9 ≠ g4:=by omega
  replace hlv : liveR s (t,d) = if r.del = false ∧ r.gone = false then some r else none:=hlv
  clear A9d A9g;cases hrd : r.del with
  | true =>
    rw [hrd] at hlv;refine WC.drawn 10 (fun wx => VBlk prT wx g9 (rwC r dc9)) fun wb hdr => ?_;have hB : Below w5.heap.size w5 wb:=hdr.below _;have hS : VBlk prT wb g9 (rwC r dc9):=VBlk.below v9 hB l9;clear hdr;have v45b:=VBlk.below v45 hB (VBlk.lt v45);refine K.wm 0 [9,10] rfl rfl rfl rfl rfl rfl rfl (fun wx hx => VBlk.rangeAt hx) (rwC_len hdl) hS ?_;refine K.fr [1] hS ?_;refine K.wl 2 [3,4,5,6,7,8,9,10] rfl rfl rfl rfl rfl rfl rfl (fun wx hx => (RwAt.of (VBlk.rangeAt hx) hdl).del.trans (by rw [hrd])) hS ?_;refine K.fr [3,4,5] hS ?_;refine K.fr [6] hS ?_;refine K.fr [7,8] hS ?_;refine K.wo 9 ?_;refine WL.storeRow rfl rfl rfl rfl rfl rfl v45b (rwC_len hdl) rfl (rwC_one hvo9.one) ?_;refine WL.nil (WQ.dk (.inr (hS.keep (Cr.keepRow (K:=fun x => x ≠ g4) (Keep.refl _ _) (by simp) _) g94)) ?_);refine K.wo 10 ?_;refine WL.pure rfl rfl rfl rfl ?_;refine K.dl ?_;refine WD.done (by kernel_rfl) ?_;refine K.kgo ?_;refine WQ.retBT rfl rfl rfl (congrArg some (rwC_len hdl)).symm rfl (VBlk.setRow v45b _) (fin hB ?_);rw [hlv]
    rfl
  | false =>
    rw [hrd] at hlv;refine WC.drawn 10 (fun wx => VBlk prT wx g9 (rwC r dc9)) fun wb hdr => ?_;have hB : Below w5.heap.size w5 wb:=hdr.below _;have hS : VBlk prT wb g9 (rwC r dc9):=VBlk.below v9 hB l9;clear hdr;generalize hrg : r.gone = gn at hlv;have v45b:=VBlk.below v45 hB (VBlk.lt v45);refine K.wm 0 [9,10] rfl rfl rfl rfl rfl rfl rfl (fun wx hx => VBlk.rangeAt hx) (rwC_len hdl) hS ?_;refine K.fr [1] hS ?_;refine K.wl 2 [3,4,5,6,7,8,9,10] rfl rfl rfl rfl rfl rfl rfl (fun wx hx => (RwAt.of (VBlk.rangeAt hx) hdl).del.trans (by rw [hrd])) hS ?_;refine K.fr [3,4,5] hS ?_;refine K.wl 6 [7,8,10] rfl rfl rfl rfl rfl rfl rfl (fun wx hx => (RwAt.of (VBlk.rangeAt hx) hdl).gone.trans (by rw [hrg])) hS ?_;refine K.fr [7,8] hS ?_;refine K.wo 9 ?_;refine WL.storeRow rfl rfl rfl rfl rfl rfl v45b (rwC_len hdl) rfl (rwC_one hvo9.one) ?_;refine WL.nil (WQ.dk (.inr (hS.keep (Cr.keepRow (K:=fun x => x ≠ g4) (Keep.refl _ _) (by simp) _) g94)) ?_);refine K.wo 10 ?_;refine WL.pure rfl rfl rfl rfl ?_;refine K.dl ?_;refine WD.done (by kernel_rfl) ?_;refine K.kgo ?_;refine WQ.retBT rfl rfl rfl (congrArg some (rwC_len hdl)).symm rfl (VBlk.setRow v45b _) (fin hB ?_);rw [hlv];cases gn
    · exact ⟨rfl,rfl⟩
    · rfl
end Vw
namespace Vw
open K
set_option maxRecDepth 100000
theorem elemPR : ElemV Tryz.prog 61 prT 14 144:=ElemV.mk' (z:=.agg (rwC noR zCells).toArray) Tryz.underlying61 (by kernel_rfl) rfl (by omega)
set_option maxHeartbeats 8000000 in
theorem pdoc_any {w : World} {vb : Nat} {M D : Nat → Prop} {f : Nat} {s : St} {N : Nat} (h0 : PVs w vb M D (f + 1) s N) {t d : Int} (ht : R64 t) (hd : R64 d) :
    Calls Tryz.prog 19 #[.pointer (some ⟨vb,0,none⟩),.int .i64 t,.int .i64 d] w (DocPost w (f + 1) (liveR s (t,d))):=by
  refine enter (args:=[.pointer (some ⟨vb,0,none⟩),.int .i64 t,.int .i64 d]) Tryz.func19 rfl Tryz.ntmps19 rfl ?_;refine K.kgn ?_;refine WL.alloc (z:=.agg (rwC noR zCells).toArray) rfl rfl rfl rfl (fun _ => by kernel_rfl) fun g6 w1 f1 => ?_;have v6 : VBlk prT w1 g6 (rwC noR zCells):=f1.blk;have b1:=f1.below;have e6:=f1.eq;clear f1;have h1:=h0.below b1;have l6:=VBlk.lt v6;have z1:=b1.size;refine K.kgo ?_;refine WL.nilP rfl rfl rfl rfl rfl rfl (by kernel_rfl) ?_;refine K.kgl ?_;refine WL.build [Value.int .i64 t,.int .i64 d] rfl rfl rfl rfl rfl (builtKe _ _) ?_;refine WL.call rfl rfl rfl rfl rfl Tryz.func48 rfl (by kernel_rfl) (live_any h1 ht hd) ?_;rintro _ wb ⟨bb1,r,dc,b,rfl,hv,ok,sm,hm⟩;refine ⟨_,rfl,?_⟩;have hdl:=hv.len;refine K.kgo ?_;refine WL.alloc (z:=.agg (rwC noR zCells).toArray) rfl rfl rfl rfl (fun _ => by kernel_rfl) fun g8 wc f9 => ?_;refine WL.storeRow rfl rfl rfl rfl rfl rfl f9.blk (rwC_len hdl) rfl (rwC_one hv.one) ?_;obtain ⟨v8,b3,-,-⟩:=rowed (rwC r dc) bb1 f9;have hgq:=f9.eq;have bz:=bb1.size;have hg8 : w1.heap.size ≤ g8:=by omega
  have bcf : Below wb.heap.size wb (wc.setRow g8 (rwC r dc).toArray):=(Cr.keepRow (K:=fun x => x < wb.heap.size) (g:=g8) (Keep.of_below f9.below) (fun hh => by omega) _).below;replace hv:=hv.keep (Keep.of_below bcf) (fun x hx hl => hl) (fun _ h => h);generalize wc.setRow g8 _ = w3 at v8 b3 hv ⊢;clear f9 bcf;have h3:=h1.below b3;have bw:=b1.trans (b3.mono z1);have z3:=b3.size;replace v6:=VBlk.below v6 b3 l6;have l6':=VBlk.lt v6;have l8:=VBlk.lt v8;refine K.kgo ?_;cases b with
  | false =>
    have hT : liveR s (t,d) = none:=by
      cases hh : liveR s (t,d) with
      | none => rfl
      | some r' => rw [hh] at hm;cases hm.2
    have hone0:=(zV_is (fun _ => True) 0 w3).one;refine K.kgl ?_;refine WL.build (rwC noR zCells) rfl rfl rfl rfl rfl builtPRow0 ?_;refine WL.storeRow rfl rfl rfl rfl rfl rfl v6 rfl rfl (rwC_one hone0) ?_;refine K.kgo ?_;refine WQ.retBT rfl rfl rfl rfl rfl (VBlk.setRow v6 _) ?_;rw [hT];exact ⟨(Cr.keepRow (K:=fun x => x < w.heap.size) (g:=g6) (Keep.of_below bw) (fun hh => by omega) _).below,noR,zCells,false,rfl,zV_is _ _ _,rfl,rfl⟩
  | true =>
    have hT : liveR s (t,d) = some r:=by
      cases hh : liveR s (t,d) with
      | none => rw [hh] at hm;cases hm
      | some r' => rw [hh] at hm;rw [hm.1]
    refine K.kgl ?_;refine WL.loadMid rfl rfl rfl rfl rfl rfl (VBlk.rangeAt v8) (rwC_len hdl) ?_;refine WL.call rfl rfl rfl rfl rfl Tryz.func47 rfl (by kernel_rfl) (told_any hv.isV sm) ?_;rintro _ w7 ⟨b7,dc',rfl,hv7⟩;refine ⟨_,rfl,?_⟩;replace v6:=VBlk.below v6 b7 l6';refine WL.storeRow rfl rfl rfl rfl rfl rfl v6 (rwC_len hv7.len) rfl (rwC_one hv7.one) ?_;have k7 : Keep (fun x => x ≠ g6) w7 (w7.setRow g6 (rwC r dc').toArray):=Cr.keepRow (Keep.refl _ _) (by simp) _;have v7:=VBlk.setRow v6 (rwC r dc');generalize w7.setRow g6 _ = w8 at v7 k7 ⊢;refine K.kgo ?_;refine WQ.retBT rfl rfl rfl (congrArg some (rwC_len hv7.len)).symm rfl v7 ?_;rw [hT];exact ⟨((Keep.of_below (bw.trans (b7.mono bw.size))).trans (k7.mono fun x (hx : x < w.heap.size) e => by omega)).below,r,dc',true,rfl,hv7.keep k7 (fun x hx _ e => by omega) (fun x hx => by have:=bw.size;omega),rfl,rfl⟩
set_option maxHeartbeats 16000000 in
theorem pdocs_any {w : World} {vb : Nat} {M D : Nat → Prop} {f : Nat} {s : St} {N : Nat} (h0 : PVs w vb M D (f + 1) s N) {t : Int} (ht : R64 t) :
    Calls Tryz.prog 22 #[.pointer (some ⟨vb,0,none⟩),.int .i64 t] w (RowsPost w (f + 1) (docsR s t)):=by
  have hcl:=cnt_le t s.rows;have hok : s.rows.length ≤ N ∧ N ≤ 1000000:=by obtain ⟨cp,Oc,mr,md,mp,mn,k,F,h⟩:=id h0;have:=h.ok;omega
  have hdR : docsR s t = (List.range (cnt t s.rows)).filterMap (fun (i : Nat) => liveR s (t,(i : Int) + 1)):=rfl;rw [hdR];refine enter (args:=[.pointer (some ⟨vb,0,none⟩),.int .i64 t]) Tryz.func22 rfl Tryz.ntmps22 rfl ?_;refine K.kgo ?_;refine WL.nilP rfl rfl rfl rfl rfl rfl (by kernel_rfl) ?_;refine K.kgl ?_;refine WC.loop (fun x : Nat × Value => [(0,.pointer (some ⟨vb,0,none⟩)),(1,.int .i64 t),(5,x.2),(6,.int .i64 ((x.1 : Int) + 1))])
    (fun x w' => x.1 ≤ cnt t s.rows ∧ Below w.heap.size w w' ∧ Grows prT w.heap.size (f + 1) w' x.2 ((List.range x.1).filterMap (fun (i : Nat) => liveR s (t,(i : Int) + 1)))) (fun x => cnt t s.rows - x.1) (0,.slice none 0 0) ⟨rfl,rfl,rfl,rfl,trivial⟩
    ⟨Nat.zero_le _,Below.refl _ _,Grows.nil _ _ _ _⟩ ?_
  rintro ⟨d,v⟩ w1 ⟨hd,b1,hown⟩;simp only at hd hown;have h1:=h0.below b1;have z1:=b1.size;obtain ⟨cp,Oc,mr,md,mp,mn,k,F,h⟩:=id h1;have c2:=h.vbk.cell 2 (by simp);simp only [List.getD_cons_succ,List.getD_cons_zero] at c2;have hl:=h.lookD ht;have hst:=docs_step (s:=s) (t:=t) d;generalize hcn : cnt t s.rows = c at *
  by_cases hdc : d < c
  case neg =>
    obtain rfl : d = c:=by omega
    have hres : RowsPost w (f + 1) ((List.range d).filterMap (fun (i : Nat) => liveR s (t,(i : Int) + 1))) (.returned v) w1:=⟨b1,v,rfl,hown.els⟩;generalize (List.range d).filterMap (fun (i : Nat) => liveR s (t,(i : Int) + 1)) = LL at hres;clear hown hst;refine K.kgl ?_;refine WL.look rfl rfl rfl rfl rfl rfl hl ?_;refine K.kgl ?_;exact WQ.ret1 rfl rfl hres
  case pos =>
  obtain ⟨spv,cpv,hspv,-⟩:=hown.els;subst hspv;refine K.kgl ?_;refine WL.look rfl rfl rfl rfl rfl rfl hl ?_;refine K.kgl ?_;refine WL.build [Value.int .i64 t,.int .i64 ((d : Int) + 1)] rfl rfl rfl rfl rfl (builtKe _ _) ?_;refine WL.call rfl rfl rfl rfl rfl Tryz.func48 rfl (by kernel_rfl) (live_any h1 ht (d:=(d : Int) + 1) ⟨by omega,by omega⟩) ?_;rintro _ wb ⟨bb1,r,dc,b,rfl,hv,ok,sm,hm⟩;refine ⟨_,rfl,?_⟩;have hdl:=hv.len;refine K.kgo ?_;refine WL.alloc (z:=.agg (rwC noR zCells).toArray) rfl rfl rfl rfl (fun _ => by kernel_rfl) fun g8 wc f9 => ?_;refine WL.storeRow rfl rfl rfl rfl rfl rfl f9.blk (rwC_len hdl) rfl (rwC_one hv.one) ?_;obtain ⟨v8,b3,-,-⟩:=rowed (rwC r dc) bb1 f9;have hgq:=f9.eq;have bz:=bb1.size;have hg8 : w1.heap.size ≤ g8:=by omega
  have bcf : Below wb.heap.size wb (wc.setRow g8 (rwC r dc).toArray):=(Cr.keepRow (K:=fun x => x < wb.heap.size) (g:=g8) (Keep.of_below f9.below) (fun hh => by omega) _).below;replace hv:=hv.keep (Keep.of_below bcf) (fun x hx hl => hl) (fun _ h => h);generalize wc.setRow g8 _ = w3 at v8 b3 hv ⊢;clear f9 bcf;have bw:=b1.trans (b3.mono z1);replace hown:=hown.below (b3.mono (Nat.le_refl _));cases b with
  | false =>
    have hT : liveR s (t,(d : Int) + 1) = none:=by
      cases hh : liveR s (t,(d : Int) + 1) with
      | none => rfl
      | some r' => rw [hh] at hm;cases hm.2
    rw [hT,Option.toList_none,List.append_nil] at hst;refine K.kgo ?_;refine WQ.again (d + 1,_) ⟨rfl,rfl,rfl,rfl,trivial⟩ ⟨hdc,bw,?_⟩ (by show c - (d + 1) < c - d;omega)
    show Grows prT _ (f + 1) w3 _ ((List.range (d + 1)).filterMap _)
    rw [hst];exact hown
  | true =>
    have hT : liveR s (t,(d : Int) + 1) = some r:=by
      cases hh : liveR s (t,(d : Int) + 1) with
      | none => rw [hh] at hm;cases hm
      | some r' => rw [hh] at hm;rw [hm.1]
    rw [hT,Option.toList_some] at hst;have hLL : ((List.range d).filterMap (fun (i : Nat) => liveR s (t,(i : Int) + 1))).length ≤ d:=by
      have:=List.length_filterMap_le (fun (i : Nat) => liveR s (t,(i : Int) + 1)) (List.range d)
      rwa [List.length_range] at this
    generalize hLe : (List.range d).filterMap (fun (i : Nat) => liveR s (t,(i : Int) + 1)) = LL at hown hLL hst;refine K.kgl ?_;refine WL.loadMid rfl rfl rfl rfl rfl rfl (VBlk.rangeAt v8) (rwC_len hdl) ?_;refine WL.call rfl rfl rfl rfl rfl Tryz.func47 rfl (by kernel_rfl) (told_any hv.isV sm) ?_;rintro _ wt ⟨bt,dct,rfl,hvt⟩;refine ⟨_,rfl,?_⟩;have zb:=bw.size;have ct:=bw.trans (bt.mono zb);refine WL.lit1 rfl rfl rfl rfl rfl rfl (cs:=rwC r dct) rfl (rwC_len hvt.len) (by omega) (by kernel_rfl) fun gl wd fd => ?_;have cd:=ct.trans (fd.below.mono ct.size);obtain ⟨Dn,hownd,hrP,hgrw⟩:=hown.snoc zb bt hvt fd.below ok sm;refine WL.snoc rfl rfl rfl rfl elemPR rfl hownd rfl fd.blk hrP.one hrP.len hrP (by omega) (by omega) fun v9 we ho9 hgr => ?_;have bfin : Below w.heap.size w we:=cd.trans (hgr.old cd.size hown.own);have hfin:=hgrw ho9 hgr;refine K.kgo ?_;refine WQ.again (d + 1,_) ⟨rfl,rfl,rfl,rfl,trivial⟩ ⟨hdc,bfin,?_⟩ (by show c - (d + 1) < c - d;omega)
    show Grows prT _ (f + 1) we _ ((List.range (d + 1)).filterMap _)
    rw [hst];exact hfin
theorem of_len (L : List Rw) (x : Int × Int) : (Vw.of L x).length ≤ L.length:=List.length_filter_le _ _
set_option maxHeartbeats 16000000 in
theorem phist_any {w : World} {vb : Nat} {M D : Nat → Prop} {f : Nat} {s : St} {N : Nat} (h0 : PVs w vb M D f s N) (hN : N ≤ 100000) {t : Int} (ht : R64 t) :
    Calls Tryz.prog 18 #[.pointer (some ⟨vb,0,none⟩),.int .i64 t] w (RowsPost w f (histR s t)):=by
  obtain ⟨cp,Oc,mr,md,mp,mn,k,F,h⟩:=id h0;have hcl:=cnt_le t s.rows;have hok:=h.ok;have hdR : histR s t = (List.range (cnt t s.rows)).flatMap (fun (i : Nat) => Vw.of s.rows (t,(i : Int) + 1)):=rfl;rw [hdR];refine enter (args:=[.pointer (some ⟨vb,0,none⟩),.int .i64 t]) Tryz.func18 rfl Tryz.ntmps18 rfl ?_;refine K.kgo ?_;refine WL.nilP rfl rfl rfl rfl rfl rfl (by kernel_rfl) ?_;refine K.kgl ?_;refine WC.loop (fun x : Nat × Value => [(0,.pointer (some ⟨vb,0,none⟩)),(1,.int .i64 t),(5,x.2),(6,.int .i64 ((x.1 : Int) + 1))])
    (fun x w' => x.1 ≤ cnt t s.rows ∧ Below w.heap.size w w' ∧ ∃ LL,LL = (List.range x.1).flatMap (fun (i : Nat) => Vw.of s.rows (t,(i : Int) + 1)) ∧ LL.length ≤ x.1 * s.rows.length ∧ Grows prT w.heap.size f w' x.2 LL) (fun x => cnt t s.rows - x.1) (0,.slice none 0 0) ⟨rfl,rfl,rfl,rfl,trivial⟩
    ⟨Nat.zero_le _,Below.refl _ _,[],rfl,by simp,Grows.nil _ _ _ _⟩ ?_
  rintro ⟨d,v⟩ w1 ⟨hd,b1,LL,hLL,hLn,hown⟩;simp only at hd hown hLL hLn;have h1:=h.below b1;have z1:=b1.size;have c1:=h1.vbk.cell 1 (by simp);have c2:=h1.vbk.cell 2 (by simp);simp only [List.getD_cons_succ,List.getD_cons_zero] at c1 c2;have hl:=h1.lookD ht;have hcn0:=hcl;generalize hcn : cnt t s.rows = c at *
  by_cases hdc : d < c
  case neg =>
    obtain rfl : d = c:=by omega
    subst hLL;have hres : RowsPost w f ((List.range d).flatMap (fun (i : Nat) => Vw.of s.rows (t,(i : Int) + 1))) (.returned v) w1:=⟨b1,v,rfl,hown.els⟩;generalize (List.range d).flatMap (fun (i : Nat) => Vw.of s.rows (t,(i : Int) + 1)) = LL at hres;clear hown hLn;refine K.kgl ?_;refine WL.look rfl rfl rfl rfl rfl rfl hl ?_;refine K.kgl ?_;exact WQ.ret1 rfl rfl hres
  case pos =>
  have hel:=h.els (t,(d : Int) + 1);have hdr : R64 ((d : Int) + 1):=⟨by omega,by omega⟩;have hlk:=h1.lookR (x:=(t,(d : Int) + 1)) ht hdr;have hLs : (List.range (d + 1)).flatMap (fun (i : Nat) => Vw.of s.rows (t,(i : Int) + 1)) = LL ++ Vw.of s.rows (t,(d : Int) + 1):=by rw [List.range_succ,List.flatMap_append,hLL];simp
  have hJl:=of_len s.rows (t,(d : Int) + 1);have hb1 : LL.length ≤ 100000 * 100000:=Nat.le_trans hLn (Nat.mul_le_mul (by omega) (by omega));generalize (F (t,(d : Int) + 1)).getD (.slice none 0 0) = sv at hel hlk;generalize Vw.of s.rows (t,(d : Int) + 1) = J at hel hLs hJl;obtain ⟨spv,cpv,rfl,hsl1,hsl2,-⟩:=id hel;refine K.kgl ?_;refine WL.look rfl rfl rfl rfl rfl rfl hl ?_;refine K.kgl ?_;refine WL.build [Value.int .i64 t,.int .i64 ((d : Int) + 1)] rfl rfl rfl rfl rfl (builtKe _ _) ?_;refine WL.look rfl rfl rfl rfl rfl rfl hlk ?_;refine K.kgo ?_;refine WC.loop (fun x : Nat × Value => [(0,.pointer (some ⟨vb,0,none⟩)),(1,.int .i64 t),(5,x.2),(6,.int .i64 ((d : Int) + 1)),(28,.slice spv J.length cpv),(29,.int .i64 (J.length : Nat)),(30,.int .i64 x.1)])
    (fun x w' => x.1 ≤ J.length ∧ Below w.heap.size w w' ∧ Grows prT w.heap.size f w' x.2 (LL ++ J.take x.1)) (fun x => J.length - x.1) (0,v) ⟨rfl,rfl,rfl,rfl,rfl,rfl,rfl,trivial⟩
    ⟨Nat.zero_le _,b1,by simpa using hown⟩ ?_
  clear hown c1 c2 hl hlk h1 z1;rintro ⟨q,v2⟩ w2 ⟨hq,b2,hown⟩;simp only at hq hown
  by_cases hqJ : q < J.length
  case neg =>
    obtain rfl : q = J.length:=by omega
    rw [List.take_length] at hown;refine K.kgo ?_;refine WQ.again (d + 1,v2) ⟨rfl,rfl,rfl,rfl,trivial⟩ ⟨hdc,b2,_,hLs.symm,?_,hown⟩ (by show c - (d + 1) < c - d;omega);rw [List.length_append,Nat.succ_mul];omega
  case pos =>
  obtain ⟨b9,o9,cap9,dc,es,lb9,-,R9,hvo9,ok,sm⟩:=els_at hel hqJ;obtain ⟨rfl,rfl⟩ : spv = some ⟨b9,o9,none⟩ ∧ cpv = cap9:=by simpa using es
  clear es;have hrow : J.take (q + 1) = J.take q ++ [J.getD q noR]:=by rw [List.take_add_one,List.getElem?_eq_getElem hqJ,getD_lt hqJ];rfl
  generalize J.getD q noR = r at R9 hvo9 ok sm hrow;have R2:=R9.below (Keep.of_below b2) lb9;have hdl:=hvo9.len;have x3:=R2.all;have hcat : (LL ++ J.take q).length ≤ 100000 * 100000 + 100000:=by
    rw [List.length_append,List.length_take];omega
  have z2:=b2.size;obtain ⟨sp2,cp2,hs2,-⟩:=hown.els;subst hs2;refine K.kgo ?_;refine WL.idx q (o9 + q * 14) rfl rfl rfl rfl rfl rfl rfl rfl hqJ rfl ?_;refine WL.loadMid rfl rfl rfl rfl rfl rfl x3 (rwC_len hdl) ?_;refine WL.alloc (z:=.agg (rwC noR zCells).toArray) rfl rfl rfl rfl (fun _ => by kernel_rfl) fun g8 wc f9 => ?_;refine WL.storeRow rfl rfl rfl rfl rfl rfl f9.blk (rwC_len hdl) rfl (rwC_one hvo9.one) ?_;obtain ⟨v8,b3,-,-⟩:=rowed (rwC r dc) (Below.refl w2.heap.size w2) f9;generalize wc.setRow g8 _ = w3 at v8 b3 ⊢;clear f9;have bw:=b2.trans (b3.mono z2);replace hown:=hown.below b3;have hv:=hvo9.keep (Keep.of_below bw) (fun x hx _ => h.lt x (.inr hx)) (fun _ h => h);have hrm : (LL ++ J.take (q + 1)) = (LL ++ J.take q) ++ [r]:=by rw [hrow,List.append_assoc]
  generalize LL ++ J.take q = LJ at hcat hown hrm;refine K.kgo ?_;refine WL.loadMid rfl rfl rfl rfl rfl rfl (VBlk.rangeAt v8) (rwC_len hdl) ?_;refine WL.call rfl rfl rfl rfl rfl Tryz.func47 rfl (by kernel_rfl) (told_any hv.isV sm) ?_;rintro _ wt ⟨bt,dct,rfl,hvt⟩;refine ⟨_,rfl,?_⟩;have zb:=bw.size;have ct:=bw.trans (bt.mono zb);refine WL.lit1 rfl rfl rfl rfl rfl rfl (cs:=rwC r dct) rfl (rwC_len hvt.len) (by omega) (by kernel_rfl) fun gl wd fd => ?_;have cd:=ct.trans (fd.below.mono ct.size);obtain ⟨Dn,hownd,hrP,hgrw⟩:=hown.snoc zb bt hvt fd.below ok sm;refine WL.snoc rfl rfl rfl rfl elemPR rfl hownd rfl fd.blk hrP.one hrP.len hrP (by omega) (by omega) fun v9 we ho9 hgr => ?_;have bfin : Below w.heap.size w we:=cd.trans (hgr.old cd.size hown.own);have hfin:=hgrw ho9 hgr;refine K.kgo ?_;refine WQ.again (q + 1,_) ⟨rfl,rfl,rfl,rfl,rfl,rfl,rfl,trivial⟩ ⟨hqJ,bfin,?_⟩ (by show J.length - (q + 1) < J.length - q;omega)
  show Grows prT _ f we _ (LL ++ J.take (q + 1))
  rw [hrm];exact hfin
end Vw
namespace Vw
open K
set_option maxRecDepth 100000
set_option maxHeartbeats 1000000 in
theorem cloneR_any {w : World} {b : Nat} {es : Array MapEntry} {clock : Nat} (hb : w.heap[b]? = some (.map es clock)) :
    Calls Tryz.prog 42 #[.map (some b)] w fun e w' => e = .returned (.map (some w.heap.size)) ∧ w' = w.alloc (.map es clock):=by
  have hq:=fun w => run_eql_map_nil_sl (P:=Tryz.prog) w 80 _ _ (some b) Tryz.underlying80
  go_enter Tryz.func42,Tryz.ntmps42
  go_wp2
  rw [run_callFunc_extern Tryz.func69 (by kernel_rfl) (by kernel_rfl) (by kernel_rfl) (e:=Extern.MapsClone.clone) (by kernel_rfl),run_maps_clone_sl _ 80 hb];simp only [Result.andThen];rw [Oper.upon_value]
  go_wp2
  rw [run_typeAssert_map_sl _ 80 _ _ _ _ Tryz.underlying80];simp only [Result.andThen];rw [Oper.upon_value]
  go_wp2
  go_ret
  exact ⟨rfl,rfl⟩
set_option maxHeartbeats 1000000 in
theorem cloneD_any {w : World} {b : Nat} {es : Array MapEntry} {clock : Nat} (hb : w.heap[b]? = some (.map es clock)) :
    Calls Tryz.prog 43 #[.map (some b)] w fun e w' => e = .returned (.map (some w.heap.size)) ∧ w' = w.alloc (.map es clock):=by
  have hq:=fun w => run_eql_map_nil_sl (P:=Tryz.prog) w 81 _ _ (some b) Tryz.underlying81
  go_enter Tryz.func43,Tryz.ntmps43
  go_wp2
  rw [run_callFunc_extern Tryz.func69 (by kernel_rfl) (by kernel_rfl) (by kernel_rfl) (e:=Extern.MapsClone.clone) (by kernel_rfl),run_maps_clone_sl _ 81 hb];simp only [Result.andThen];rw [Oper.upon_value]
  go_wp2
  rw [run_typeAssert_map_sl _ 81 _ _ _ _ Tryz.underlying81];simp only [Result.andThen];rw [Oper.upon_value]
  go_wp2
  go_ret
  exact ⟨rfl,rfl⟩
set_option maxHeartbeats 1000000 in
theorem cloneP_any {w : World} {b : Nat} {es : Array MapEntry} {clock : Nat} (hb : w.heap[b]? = some (.map es clock)) :
    Calls Tryz.prog 44 #[.map (some b)] w fun e w' => e = .returned (.map (some w.heap.size)) ∧ w' = w.alloc (.map es clock):=by
  have hq:=fun w => run_eql_map_nil_sl (P:=Tryz.prog) w 82 _ _ (some b) Tryz.underlying82
  go_enter Tryz.func44,Tryz.ntmps44
  go_wp2
  rw [run_callFunc_extern Tryz.func69 (by kernel_rfl) (by kernel_rfl) (by kernel_rfl) (e:=Extern.MapsClone.clone) (by kernel_rfl),run_maps_clone_sl _ 82 hb];simp only [Result.andThen];rw [Oper.upon_value]
  go_wp2
  rw [run_typeAssert_map_sl _ 82 _ _ _ _ Tryz.underlying82];simp only [Result.andThen];rw [Oper.upon_value]
  go_wp2
  go_ret
  exact ⟨rfl,rfl⟩
set_option maxHeartbeats 1000000 in
theorem cloneN_any {w : World} {b : Nat} {es : Array MapEntry} {clock : Nat} (hb : w.heap[b]? = some (.map es clock)) :
    Calls Tryz.prog 45 #[.map (some b)] w fun e w' => e = .returned (.map (some w.heap.size)) ∧ w' = w.alloc (.map es clock):=by
  have hq:=fun w => run_eql_map_nil_sl (P:=Tryz.prog) w 83 _ _ (some b) Tryz.underlying83
  go_enter Tryz.func45,Tryz.ntmps45
  go_wp2
  rw [run_callFunc_extern Tryz.func69 (by kernel_rfl) (by kernel_rfl) (by kernel_rfl) (e:=Extern.MapsClone.clone) (by kernel_rfl),run_maps_clone_sl _ 83 hb];simp only [Result.andThen];rw [Oper.upon_value]
  go_wp2
  rw [run_typeAssert_map_sl _ 83 _ _ _ _ Tryz.underlying83];simp only [Result.andThen];rw [Oper.upon_value]
  go_wp2
  go_ret
  exact ⟨rfl,rfl⟩
theorem builtPv (p : Addr) (a b c d : Nat) (x : Int) : Tryz.prog.built pvT [(0,.pointer (some p)),(1,.map (some a)),(2,.map (some b)),(3,.map (some c)),(4,.map (some d)),(5,.int .i64 x)] = some [Value.pointer (some p),.map (some a),.map (some b),.map (some c),.map (some d),.int .i64 x].toArray:=by kernel_rfl
theorem builtPvNew (p : Addr) (a b c d : Nat) : Tryz.prog.built pvT [(0,.pointer (some p)),(1,.map (some a)),(2,.map (some b)),(3,.map (some c)),(4,.map (some d))] = some [Value.pointer (some p),.map (some a),.map (some b),.map (some c),.map (some d),.int .i64 0].toArray:=by kernel_rfl
theorem docF_nil : docF [] = fun _ => none:=by funext t;rfl
theorem plcF_nil : plcF [] = fun _ => none:=by funext t;rfl
theorem namF_none : namF (fun _ => false) = fun _ => none:=by funext t;rfl
set_option maxHeartbeats 4000000 in
theorem pnew_any {w : World} {f : Nat} : Calls Tryz.prog 10 #[] w fun e w' => ∃ vb M,e = .returned (.pointer (some ⟨vb,0,none⟩)) ∧ PVs w' vb M (fun _ => False) f st0 0 ∧ Below w.heap.size w w' ∧ ∀ b,M b → w.heap.size ≤ b:=by
  refine enter (args:=[]) Tryz.func10 rfl Tryz.ntmps10 rfl ?_;refine K.kgo ?_;refine WL.call rfl rfl rfl rfl rfl Tryz.func27 rfl (by kernel_rfl) (Cat.new_any w) ?_;rintro _ w1 ⟨Oc,rfl,hc,b1,hOc⟩;refine ⟨_,rfl,?_⟩;have hcl : ∀ b,Oc b → b < w1.heap.size:=hc.lt;generalize w.heap.size + 1 = cp at hc ⊢;refine WL.mkMap rfl rfl rfl rfl ?_;have hr:=MF.made Tryz.prog keT mk2 w1;have b2 : Below w1.heap.size w1 (w1.alloc (.map #[] 0)):=(Below.refl _ w1).alloc (Nat.le_refl _) _;have z2 : (w1.alloc (.map #[] 0)).heap.size = w1.heap.size + 1:=by show (w1.heap.push _).size = _;simp
  obtain ⟨mr,e2⟩ : ∃ mr,mr = w1.heap.size:=⟨_,rfl⟩;rw [← e2] at hr ⊢;generalize w1.alloc (.map #[] 0) = w2 at hr b2 z2 ⊢;refine WL.mkMap rfl rfl rfl rfl ?_;have hd:=MF.made Tryz.prog iT mkI w2;have b3 : Below w2.heap.size w2 (w2.alloc (.map #[] 0)):=(Below.refl _ w2).alloc (Nat.le_refl _) _;have z3 : (w2.alloc (.map #[] 0)).heap.size = w2.heap.size + 1:=by show (w2.heap.push _).size = _;simp
  obtain ⟨md,e3⟩ : ∃ md,md = w2.heap.size:=⟨_,rfl⟩;rw [← e3] at hd ⊢;generalize w2.alloc (.map #[] 0) = w3 at hd b3 z3 ⊢;refine WL.mkMap rfl rfl rfl rfl ?_;have hp:=MF.made Tryz.prog adT mk2 w3;have b4 : Below w3.heap.size w3 (w3.alloc (.map #[] 0)):=(Below.refl _ w3).alloc (Nat.le_refl _) _;have z4 : (w3.alloc (.map #[] 0)).heap.size = w3.heap.size + 1:=by show (w3.heap.push _).size = _;simp
  obtain ⟨mp,e4⟩ : ∃ mp,mp = w3.heap.size:=⟨_,rfl⟩;rw [← e4] at hp ⊢;generalize w3.alloc (.map #[] 0) = w4 at hp b4 z4 ⊢;refine WL.mkMap rfl rfl rfl rfl ?_;have hn:=MF.made Tryz.prog adT mk2 w4;have b5 : Below w4.heap.size w4 (w4.alloc (.map #[] 0)):=(Below.refl _ w4).alloc (Nat.le_refl _) _;have z5 : (w4.alloc (.map #[] 0)).heap.size = w4.heap.size + 1:=by show (w4.heap.push _).size = _;simp
  obtain ⟨mn,e5⟩ : ∃ mn,mn = w4.heap.size:=⟨_,rfl⟩;rw [← e5] at hn ⊢;generalize w4.alloc (.map #[] 0) = w5 at hn b5 z5 ⊢;refine WL.build [Value.pointer (some ⟨cp,0,none⟩),.map (some mr),.map (some md),.map (some mp),.map (some mn),.int .i64 0] rfl rfl rfl rfl rfl (builtPvNew _ _ _ _ _) ?_;refine WL.box rfl rfl rfl rfl rfl fun vb w6 f6 => ?_;refine K.kgo ?_;have e6:=f6.eq;have s6:=f6.size;have b6:=f6.below;have z1:=b1.size;have c3:=b2.trans (b3.mono b2.size);have c4:=c3.trans (b4.mono c3.size);have c5:=c4.trans (b5.mono c4.size);have c6:=c5.trans (b6.mono c5.size);refine WQ.ret1 rfl rfl ⟨vb,fun b => Oc b ∨ b = mr ∨ b = md ∨ b = mp ∨ b = mn ∨ b = vb,rfl,⟨cp,Oc,mr,md,mp,mn,0,fun _ => none,⟨f6.blk,hc.below c6 (Nat.le_refl _),
    hr.below ((b3.trans ((b4.trans ((b5.trans (b6.mono b5.size)).mono b4.size)).mono b3.size))) (by omega),fun x => Els.nil _ _ _ _ _,?_,?_,?_,by simp,by simp,by simp,by simp,by simp,fun b hb => .inl hb,?_,⟨⟨by omega,by omega,by omega⟩,⟨by omega,by omega⟩,by omega⟩,?_,(fun _ _ h => h),⟨Nat.le_refl _,Nat.le_refl _,Nat.le_refl _,by omega⟩⟩⟩,b1.trans (c6.mono z1),?_⟩
  · show MF Tryz.prog iT mkI w6 md 0 (docF [])
    rw [docF_nil];exact hd.below (b4.trans ((b5.trans (b6.mono b5.size)).mono b4.size)) (by omega)
  · show MF Tryz.prog adT mk2 w6 mp 0 (plcF [])
    rw [plcF_nil];exact hp.below (b5.trans (b6.mono b5.size)) (by omega)
  · show MF Tryz.prog adT mk2 w6 mn 0 (namF fun _ => false)
    rw [namF_none];exact hn.below b6 (by omega)
  · exact ⟨fun q => by have:=hcl _ q;omega,fun q => by have:=hcl _ q;omega,fun q => by have:=hcl _ q;omega,fun q => by have:=hcl _ q;omega,fun q => by have:=hcl _ q;omega⟩
  · rintro b ((hb | hb | hb | hb | hb | hb) | hb)
    · have:=hcl _ hb;omega
    · omega
    · omega
    · omega
    · omega
    · omega
    · exact hb.elim
  · rintro b (hb | hb | hb | hb | hb | hb)
    · exact hOc b hb
    all_goals omega
set_option maxHeartbeats 8000000 in
theorem pcopy_any {w : World} {vb : Nat} {M D : Nat → Prop} {f : Nat} {s : St} {N : Nat} (h0 : PVs w vb M D f s N) :
    Calls Tryz.prog 16 #[.pointer (some ⟨vb,0,none⟩)] w fun e w' => ∃ vb' M',e = .returned (.pointer (some ⟨vb',0,none⟩)) ∧ PVs w' vb' M' D f s N ∧ Below w.heap.size w w' ∧ ∀ b,M' b → w.heap.size ≤ b:=by
  obtain ⟨cp,Oc,mr,md,mp,mn,k,F,h⟩:=id h0;have c0:=h.vbk.cell 0 (by simp);have c1:=h.vbk.cell 1 (by simp);have c2:=h.vbk.cell 2 (by simp);have c3:=h.vbk.cell 3 (by simp);have c4:=h.vbk.cell 4 (by simp);have c5:=h.vbk.cell 5 (by simp);simp only [List.getD_cons_succ,List.getD_cons_zero] at c0 c1 c2 c3 c4 c5;have lvb:=h.lt vb (.inl h.mvb);refine enter (args:=[.pointer (some ⟨vb,0,none⟩)]) Tryz.func16 rfl Tryz.ntmps16 rfl ?_;refine K.kgo ?_;refine WL.nilP rfl rfl rfl rfl rfl rfl (by kernel_rfl) ?_;refine K.kgl ?_;refine WC.drawn 29 (fun wx => Below w.heap.size w wx) fun wa hdr => ?_;have hS : Below w.heap.size w wa:=hdr.below _;refine K.fr [0,1,2] hS ?_;refine K.wl 3 [4,9,14,19,24,29,30,31] rfl rfl rfl rfl rfl rfl rfl (fun wx hx => (hx.cell (p:=⟨vb,0,none⟩) lvb).trans c0) hS ?_;refine K.fr [5,6,7] hS ?_;refine K.wl 8 [9,14,19,24,29,30,31] rfl rfl rfl rfl rfl rfl rfl (fun wx hx => (hx.cell (p:=⟨vb,1,none⟩) lvb).trans c1) hS ?_;refine K.fr [10,11,12] hS ?_;refine K.wl 13 [14,19,24,29,30,31] rfl rfl rfl rfl rfl rfl rfl (fun wx hx => (hx.cell (p:=⟨vb,2,none⟩) lvb).trans c2) hS ?_;refine K.fr [15,16,17] hS ?_;refine K.wl 18 [19,24,29,30,31] rfl rfl rfl rfl rfl rfl rfl (fun wx hx => (hx.cell (p:=⟨vb,3,none⟩) lvb).trans c3) hS ?_;refine K.fr [20,21,22] hS ?_;refine K.wl 23 [24,29,30,31] rfl rfl rfl rfl rfl rfl rfl (fun wx hx => (hx.cell (p:=⟨vb,4,none⟩) lvb).trans c4) hS ?_;refine K.fr [25,26,27] hS ?_;refine K.wl 28 [29,30,31] rfl rfl rfl rfl rfl rfl rfl (fun wx hx => (hx.cell (p:=⟨vb,5,none⟩) lvb).trans c5) hS ?_;refine K.wo 4 ?_;refine WL.call rfl rfl rfl rfl rfl Tryz.func41 rfl (by kernel_rfl) (Cr.ccopy_any (h.below hS).cat) ?_;rintro _ w1 ⟨c',O',rfl,hc',bc,hO'⟩;refine ⟨_,rfl,?_⟩;have S1:=hS.trans (bc.mono hS.size);refine K.di S1 ?_;have hcl : ∀ b,O' b → b < w1.heap.size:=hc'.lt;have z0:=hS.size;have z1:=bc.size;obtain ⟨es0,clock0,hm0,hr⟩:=K.MF.clone (h.below S1).rows;refine K.wo 9 ?_;refine WL.call rfl rfl rfl rfl rfl Tryz.func42 rfl (by kernel_rfl) (cloneR_any hm0) ?_;rintro _ w2 ⟨rfl,e2⟩;refine ⟨_,rfl,?_⟩;have b2 : Below w1.heap.size w1 w2:=e2 ▸ (Below.refl _ _).alloc (Nat.le_refl _) _;have z2 : w2.heap.size = w1.heap.size + 1:=by rw [e2];show (w1.heap.push _).size = _;simp
  rw [← e2] at hr;clear hm0 e2;have S2:=S1.trans (b2.mono S1.size);refine K.di S2 ?_;obtain ⟨mr',x0⟩ : ∃ mr',mr' = w1.heap.size:=⟨_,rfl⟩;rw [← x0] at hr ⊢;obtain ⟨es1,clock1,hm1,hd⟩:=K.MF.clone (h.below S2).docs;refine K.wo 14 ?_;refine WL.call rfl rfl rfl rfl rfl Tryz.func43 rfl (by kernel_rfl) (cloneD_any hm1) ?_;rintro _ w3 ⟨rfl,e3⟩;refine ⟨_,rfl,?_⟩;have b3 : Below w2.heap.size w2 w3:=e3 ▸ (Below.refl _ _).alloc (Nat.le_refl _) _;have z3 : w3.heap.size = w2.heap.size + 1:=by rw [e3];show (w2.heap.push _).size = _;simp
  rw [← e3] at hd;clear hm1 e3;have S3:=S2.trans (b3.mono S2.size);refine K.di S3 ?_;obtain ⟨md',x1⟩ : ∃ md',md' = w2.heap.size:=⟨_,rfl⟩;rw [← x1] at hd ⊢;obtain ⟨es2,clock2,hm2,hp⟩:=K.MF.clone (h.below S3).plcs;refine K.wo 19 ?_;refine WL.call rfl rfl rfl rfl rfl Tryz.func44 rfl (by kernel_rfl) (cloneP_any hm2) ?_;rintro _ w4 ⟨rfl,e4⟩;refine ⟨_,rfl,?_⟩;have b4 : Below w3.heap.size w3 w4:=e4 ▸ (Below.refl _ _).alloc (Nat.le_refl _) _;have z4 : w4.heap.size = w3.heap.size + 1:=by rw [e4];show (w3.heap.push _).size = _;simp
  rw [← e4] at hp;clear hm2 e4;have S4:=S3.trans (b4.mono S3.size);refine K.di S4 ?_;obtain ⟨mp',x2⟩ : ∃ mp',mp' = w3.heap.size:=⟨_,rfl⟩;rw [← x2] at hp ⊢;obtain ⟨es3,clock3,hm3,hn⟩:=K.MF.clone (h.below S4).nams;refine K.wo 24 ?_;refine WL.call rfl rfl rfl rfl rfl Tryz.func45 rfl (by kernel_rfl) (cloneN_any hm3) ?_;rintro _ w5 ⟨rfl,e5⟩;refine ⟨_,rfl,?_⟩;have b5 : Below w4.heap.size w4 w5:=e5 ▸ (Below.refl _ _).alloc (Nat.le_refl _) _;have z5 : w5.heap.size = w4.heap.size + 1:=by rw [e5];show (w4.heap.push _).size = _;simp
  rw [← e5] at hn;clear hm3 e5;have S5:=S4.trans (b5.mono S4.size);refine K.di S5 ?_;obtain ⟨mn',x3⟩ : ∃ mn',mn' = w4.heap.size:=⟨_,rfl⟩;rw [← x3] at hn ⊢;refine K.wo 29 ?_;refine WL.build [Value.pointer (some ⟨c',0,none⟩),.map (some mr'),.map (some md'),.map (some mp'),.map (some mn'),.int .i64 s.n] rfl rfl rfl rfl rfl (builtPv _ _ _ _ _ _) ?_;refine K.dl ?_;refine K.wo 30 ?_;refine WL.box rfl rfl rfl rfl rfl fun vb' w6 f6 => ?_;refine K.dl ?_
  (refine K.fzl 31 rfl (q:=?_))
  refine WD.done (by kernel_rfl) ?_;refine K.kgo ?_;have e6:=f6.eq;have s6:=f6.size;have b6:=f6.below;have q3:=b2.trans (b3.mono b2.size);have q4:=q3.trans (b4.mono q3.size);have q5:=q4.trans (b5.mono q4.size);have q6:=q5.trans (b6.mono q5.size);have S6:=S5.trans (b6.mono S5.size);have hk:=h.below S6;have hlt:=h.lt;have zz:=S6.size;refine WQ.ret1 rfl rfl ⟨vb',fun b => O' b ∨ b = mr' ∨ b = md' ∨ b = mp' ∨ b = mn' ∨ b = vb',rfl,⟨c',O',mr',md',mp',mn',k,F,⟨f6.blk,hc'.below q6 (Nat.le_refl _),
    hr.below ((b3.trans ((b4.trans ((b5.trans (b6.mono b5.size)).mono b4.size)).mono b3.size))) (by omega),hk.els,hd.below (b4.trans ((b5.trans (b6.mono b5.size)).mono b4.size)) (by omega),hp.below (b5.trans (b6.mono b5.size)) (by omega),hn.below b6 (by omega),by simp,by simp,by simp,by simp,by simp,fun b hb => .inl hb,?_,⟨⟨by omega,by omega,by omega⟩,⟨by omega,by omega⟩,by omega⟩,?_,?_,h.ok⟩⟩,S6,?_⟩
  · exact ⟨fun q => by have:=hcl _ q;omega,fun q => by have:=hcl _ q;omega,fun q => by have:=hcl _ q;omega,fun q => by have:=hcl _ q;omega,fun q => by have:=hcl _ q;omega⟩
  · rintro b ((hb | hb | hb | hb | hb | hb) | hb)
    · have:=hcl _ hb;omega
    · omega
    · omega
    · omega
    · omega
    · omega
    · exact hk.lt b (.inr hb)
  · rintro b (hb | hb | hb | hb | hb | hb) hd
    · have:=hO' b hb;have:=hlt b (.inr hd);omega
    all_goals (have:=hlt b (.inr hd);omega)
  · rintro b (hb | hb | hb | hb | hb | hb)
    · have:=hO' b hb;omega
    all_goals omega
theorem pcat_any {w : World} {vb : Nat} {M D : Nat → Prop} {f : Nat} {s : St} {cp : Nat} {Oc : Nat → Prop} {mr md mp mn k N : Nat} {F : Int × Int → Option Value} (h : PV w vb M D f s cp Oc mr md mp mn k N F) :
    Calls Tryz.prog 20 #[.pointer (some ⟨vb,0,none⟩)] w fun e w' => e = .returned (.pointer (some ⟨cp,0,none⟩)) ∧ w' = w:=by
  have c0:=h.vbk.cell 0 (by simp);simp only [List.getD_cons_zero] at c0;refine enter (args:=[.pointer (some ⟨vb,0,none⟩)]) Tryz.func20 rfl Tryz.ntmps20 rfl ?_;refine K.kgo ?_;refine WL.nilP rfl rfl rfl rfl rfl rfl (by kernel_rfl) ?_;refine K.kgl ?_;exact WQ.ret1 rfl rfl ⟨rfl,rfl⟩
theorem pblocks_any {w : World} {vb : Nat} {M D : Nat → Prop} {f : Nat} {s : St} {N : Nat} (h0 : PVs w vb M D f s N) :
    Calls Tryz.prog 24 #[.pointer (some ⟨vb,0,none⟩)] w fun e w' => e = .returned (.int .i64 s.n) ∧ w' = w:=by
  obtain ⟨cp,Oc,mr,md,mp,mn,k,F,h⟩:=id h0;have c5:=h.vbk.cell 5 (by simp);simp only [List.getD_cons_succ,List.getD_cons_zero] at c5;refine enter (args:=[.pointer (some ⟨vb,0,none⟩)]) Tryz.func24 rfl Tryz.ntmps24 rfl ?_;refine K.kgo ?_;refine WL.nilP rfl rfl rfl rfl rfl rfl (by kernel_rfl) ?_;refine K.kgl ?_;exact WQ.ret1 rfl rfl ⟨rfl,rfl⟩
end Vw
namespace K
set_option maxRecDepth 100000
section
variable {n : NN} {ops : Array Oper} {Q : Exit → Act → World → Prop} {rest : List Oper} {o : Oper} {d : Nat} {l : Env} {w : World}
theorem WL.clip {t e s m cap : Nat} {x hi mx : Operand} {sp : Option Addr} {k1 k2 : IntKind} (hg : o.guard = none) (hd : o.dst = some d) (hn : Nat.blt d n.n = true) (ho : o.op = .slice t x none (some hi) (some mx)) (ht : tyOf ty t = some (.slice e s))
    (hx : evl l x = some (.slice sp m cap)) (hhi : evl l hi = some (.int k1 (m : Int))) (hmx : evl l mx = some (.int k2 (m : Int))) (hc : m ≤ cap) (hsp : 0 < m → ∃ b o,sp = some ⟨b,o,none⟩) (h : WL n ops Q rest ((d,.slice sp m m) :: l) w) : WL n ops Q (o :: rest) l w:=by
  have hsl : sliced sp 0 m m s = .slice sp m m:=by
    unfold sliced;simp only [Nat.sub_zero]
    by_cases h0 : m = 0
    · rw [if_pos h0]
    · rw [if_neg h0]
      obtain ⟨b,o,rfl⟩:=hsp (by omega);simp [Addr.add_mid]
  refine WL.step hg hd hn (v:=.slice sp m m) (fun a ha => ?_) h;obtain ⟨hu,hsz⟩:=TyOk.of tyOk ht;have he : Tryz.prog.elem t = e:=by simp [Program.elem,hu]
  have hu' : Tryz.prog.underlying t = some (.slice (Tryz.prog.elem t)):=by rw [he];exact hu
  have hs : (sizeOf e).run Tryz.prog w = .ok s w:=by
    cases hq : Tryz.prog.info? e with
    | none => rw [hq] at hsz;cases hsz
    | some q => rw [hq] at hsz;simp at hsz;simp [sizeOf,typeInfo,hq,hsz]
  unfold execOp;rw [ho];simp [ha.eval hx,ha.eval hhi,ha.eval hmx,run_sliceAt_slice w t _ _ _ _ hu',run_slice_hm w t sp m cap hu' k1 k2 (m : Int) (m : Int) (by omega) (Int.le_refl _) (by omega),he,hs,hsl]
theorem WL.growV {s x : Operand} {t e : TypeId} {m bytes k k2 cc : Nat} {sp : Option Addr} {xv : Value} {l1 l2 : List Value} {O O2 : Nat → Prop} (hg : o.guard = none) (hd : o.dst = some d) (hn : Nat.blt d n.n = true)
    (ho : o.op = .call { callee:=.builtin .append,args:=#[s,x],argTypes:=#[t,t] }) (E : ElemV Tryz.prog t e m bytes) (hs : evl l s = some (.slice sp k k)) (hown : SlV w O m (.slice sp k cc) k l1) (hx : evl l x = some xv) (hsl : SlV w O2 m xv k2 l2) (h0 : 0 < k2) (hb : (k + k2) * bytes ≤ 140737488355328) (hb1 : k + k2 ≤ 140737488355328)
    (h : ∀ v' w',OwnV e m w' (fun g => w.heap.size ≤ g) v' (k + k2) (l1 ++ l2) → Below w.heap.size w w' → WL n ops Q rest ((d,v') :: l) w') : WL n ops Q (o :: rest) l w :=
  ⟨fun a ha => by
    refine lw_via hg (by rw [ho];intro c hc;cases hc) ?_;refine wpList_plain hg fun K hK => ?_;have:=step_growV (P:=Tryz.prog) (ops:=#[]) (K:=K) (Q:=Exit.then (lw n.md Tryz.prog ops Q rest) (NoOut Q)) (F:=False) hg s x t ho E (ha.eval hs) hown (ha.eval hx) hsl h0 rfl (by unfold maxLen;omega) hb fun sp c w' h2 h3 => by
      refine hK _ _ ?_;rw [hd];exact (h _ w' h2 ((grown_keep h3).mono fun b hb => ⟨hb,by simp⟩).below).go _ (ha.put hn _)
    rw [if_pos (by simp [Region.wanted,hg])] at this;exact this⟩
end
end K
namespace Vw
open K
set_option maxRecDepth 100000
theorem rows_slV {P : Rw → List Value → Prop} {O : Nat → Prop} {w : World} {v : Value} {es : List Rw} (h : Els 14 noR P O w v es) (h1 : ∀ x cs,P x cs → Ones cs) :
    ∃ kcs : List (List Value),kcs.length = es.length ∧ (∀ j,j < es.length → (kcs.getD j []).length = 14 ∧ P (es.getD j noR) (kcs.getD j [])) ∧ SlV w O 14 v es.length kcs.flatten:=by
  obtain ⟨sp,cap,rfl,h2,h3,h5,h4⟩:=h;have key : ∀ j,j < es.length → ∃ cs : List Value,cs.length = 14 ∧ P (es.getD j noR) cs ∧ ∀ b o,sp = some ⟨b,o,none⟩ → w.rangeAt b (o + j * 14) cs:=fun j hj => by
    obtain ⟨b,o,rfl,-,-,hr⟩:=h4 (by omega);obtain ⟨cs,a1,a2,a3⟩:=hr j hj;exact ⟨cs,a1,a2,fun b' o' e => by cases e;exact a3⟩
  obtain ⟨f,hf⟩:=Deep.choose_lt key;have hget : ∀ k,k < es.length → ((List.range es.length).map f).getD k [] = f k:=fun k hk => by simp [hk]
  have hall : ∀ x ∈ (List.range es.length).map f,x.length = 14:=fun x hx => by
    obtain ⟨i,hi,rfl⟩:=List.mem_map.1 hx;exact (hf i (List.mem_range.1 hi)).1
  have hlen : ((List.range es.length).map f).length = es.length:=by simp
  refine ⟨(List.range es.length).map f,hlen,fun j hj => by rw [hget j hj];exact ⟨(hf j hj).1,(hf j hj).2.1⟩,by rw [flat_len' hall,hlen],fun u hu => ?_,sp,cap,rfl,h2,h3,h5,fun h0 => ?_⟩
  · obtain ⟨x,hx,hu⟩:=List.mem_flatten.1 hu
    obtain ⟨i,hi,rfl⟩:=List.mem_map.1 hx;exact h1 _ _ (hf i (List.mem_range.1 hi)).2.1 u hu
  · obtain ⟨b,o,rfl,hb,hO,-⟩:=h4 h0
    refine ⟨b,o,rfl,hb,hO,fun q hq => ?_⟩;rw [flat_len' hall,hlen] at hq;have hk : q / 14 < es.length:=by omega
    have hm : q % 14 < 14:=Nat.mod_lt _ (by omega);have e1 : q / 14 * 14 + q % 14 = q:=by omega
    have hg:=flatten_get _ hall (q / 14) (q % 14) (by rw [hlen];exact hk) hm;rw [e1,hget _ hk] at hg;have hx : (f (q / 14))[q % 14]? = some ((f (q / 14))[q % 14]'(by rw [(hf _ hk).1];exact hm)):=List.getElem?_eq_getElem _;have:=(hf _ hk).2.2 b o rfl (q % 14) _ hx;rw [Nat.add_assoc,e1] at this;rw [this,← hx,← hg];have hql : q < ((List.range es.length).map f).flatten.length:=by rw [flat_len' hall,hlen];omega
    generalize ((List.range es.length).map f).flatten = F at hql;simp [hql]
theorem snoc_rows {P : Rw → List Value → Prop} {O : Nat → Prop} {w : World} {v : Value} {L : List Rw} {r : Rw} {cs : List Value} {kcs : List (List Value)} (h1 : kcs.length = L.length) (h2 : ∀ j,j < L.length → (kcs.getD j []).length = 14 ∧ P (L.getD j noR) (kcs.getD j []))
    (hc : cs.length = 14) (hp : P r cs) (h : OwnV prT 14 w O v (L.length + 1) (kcs.flatten ++ cs)) : OwnE prT 14 noR P O w v (L ++ [r]):=K.OwnE.snoc h1 h2 hc hp h
theorem pclone_any {P : Rw → List Value → Prop} {O : Nat → Prop} {w : World} {v : Value} {L : List Rw} (h : Els 14 noR P O w v L) (h1 : ∀ x cs,P x cs → Ones cs) (hn : 0 < L.length) (hl : L.length ≤ 1000000) :
    Calls Tryz.prog 57 #[v] w fun r w' => Below w.heap.size w w' ∧ ∃ v',r = .returned v' ∧ OwnE prT 14 noR P (fun g => w.heap.size ≤ g) w' v' L:=by
  obtain ⟨kcs,k1,k2,k3⟩:=rows_slV h h1;obtain ⟨sp,cap,rfl,-,-,-,h4⟩:=id h;obtain ⟨b,o,rfl,-⟩:=h4 hn;refine enter (args:=[.slice (some ⟨b,o,none⟩) L.length cap]) Tryz.func57 rfl Tryz.ntmps57 rfl ?_;refine K.kgo ?_;refine WL.nilS rfl rfl rfl rfl rfl rfl rfl ?_
  show WL _ _ _ _ ((_,.bool false) :: _) _
  refine K.kgo ?_;refine WL.empty rfl rfl rfl rfl rfl fun g w1 hf => ?_;have hf' : Fresh w g w1 prT []:=hf;clear hf;have hg:=hf'.eq;have hz:=hf'.size;have hb1:=hf'.below;refine K.kgo ?_;have hown : OwnV prT 14 w1 (fun x => x = g) (.slice (some ⟨g,0,none⟩) 0 0) 0 []:=⟨⟨by simp,.inr ⟨g,0,#[],rfl,Nat.zero_le _,hf'.blk,Nat.le_refl _,by unfold maxLen;omega,by simp,by simp⟩⟩,fun _ h => (List.not_mem_nil h).elim,fun g h => by cases h;rfl⟩;refine WL.appV rfl rfl rfl rfl elemPR rfl hown rfl (k3.below hb1 (Nat.le_refl _)) (by omega) (by omega) fun v2 w2 ho2 hg2 => ?_;have hb2 : Below w.heap.size w w2:=hb1.trans (hg2.old (B:=w.heap.size) (by omega) (fun x hx => by have : g = x:=Option.some.inj hx;omega));simp only [Nat.zero_add,List.nil_append] at ho2;refine K.kgo ?_;exact WQ.ret1 rfl rfl ⟨hb2,v2,rfl,kcs,k1,k2,ho2.mono fun x hx => by omega⟩
theorem at_any {w : World} {g : Nat} {r : Rw} {dc : List Value} (hdl : dc.length = 6) {a b : Int} (ha : w.cell? ⟨g,44,none⟩ = some (.int .i64 a)) (hb : w.cell? ⟨g,45,none⟩ = some (.int .i64 b)) (hlt : g < w.heap.size) :
    Calls Tryz.prog 59 #[.agg (rwC r dc).toArray,.pointer (some ⟨g,0,none⟩)] w fun e w' => Below w.heap.size w w' ∧ e = .returned (.bool (decide (r.adr = (a,b)))):=by
  have hd : decide (r.adr = (a,b)) = (decide (r.blk = a) && decide (r.ent = b)):=by
    rw [← Bool.decide_and];exact decide_eq_decide.2 ⟨fun q => ⟨congrArg Prod.fst q,congrArg Prod.snd q⟩,fun q => Prod.ext q.1 q.2⟩
  rw [hd];refine enter (args:=[.agg (rwC r dc).toArray,.pointer (some ⟨g,0,none⟩)]) Tryz.func59 rfl Tryz.ntmps59 rfl ?_;refine K.kgn ?_;refine WL.box rfl rfl rfl rfl rfl fun g2 w1 f1 => ?_;have v2 : VBlk prT w1 g2 (rwC r dc):=f1.blk;have b1:=f1.below;have R2 : RwAt w1 g2 0 r dc:=RwAt.of (VBlk.rangeAt v2) hdl;clear f1;replace ha:=(b1.cell (p:=⟨g,44,none⟩) hlt).trans ha;replace hb:=(b1.cell (p:=⟨g,45,none⟩) hlt).trans hb;have x1:=R2.blk;have x2:=R2.ent
  by_cases h0 : r.blk = a
  · rw [decide_eq_true h0]
    refine K.kgl ?_;exact WQ.ret1 rfl rfl ⟨b1,rfl⟩
  · rw [decide_eq_false h0]
    refine K.kgl ?_;exact WQ.ret1 rfl rfl ⟨b1,rfl⟩
end Vw
namespace Vw
open K
set_option maxRecDepth 100000
set_option maxHeartbeats 2000000 in
theorem pindex_any {w : World} {D O : Nat → Prop} {f : Nat} {v : Value} {L : List Rw} (h : Els 14 noR (RowP D f w) O w v L) (hl : L.length ≤ 1000000) {g : Nat} {a b : Int} (ha : w.cell? ⟨g,44,none⟩ = some (.int .i64 a)) (hb : w.cell? ⟨g,45,none⟩ = some (.int .i64 b)) (hlt : g < w.heap.size) :
    Calls Tryz.prog 58 #[v,.func (.func 59) #[] #[.pointer (some ⟨g,0,none⟩)]] w fun e w' => Below w.heap.size w w' ∧ e = .returned (.int .i64 (lastZ (L.findIdx? fun r => decide (r.adr = (a,b))))):=by
  obtain ⟨sp,cap,rfl,-⟩:=id h;refine enter (args:=[.slice sp L.length cap,.func (.func 59) #[] #[.pointer (some ⟨g,0,none⟩)]]) Tryz.func58 rfl Tryz.ntmps58 rfl ?_;refine K.kgo ?_;refine WC.loop (fun i : Nat => [(0,.slice sp L.length cap),(1,.func (.func 59) #[] #[.pointer (some ⟨g,0,none⟩)]),(7,.int .i64 (L.length : Nat)),(8,.int .i64 i)])
    (fun i w' => i ≤ L.length ∧ Below w.heap.size w w' ∧ ∀ j,j < i → (L.getD j noR).adr ≠ (a,b)) (fun i => L.length - i) 0 ⟨rfl,rfl,rfl,rfl,trivial⟩ ⟨Nat.zero_le _,Below.refl _ _,fun j hj => absurd hj (Nat.not_lt_zero j)⟩ ?_
  rintro i w1 ⟨hi,b1,hno⟩
  by_cases hlt2 : i < L.length
  case neg =>
    obtain rfl : i = L.length:=by omega
    refine K.kgo ?_;refine WQ.ret1 rfl rfl ⟨b1,?_⟩;rw [find_no fun j hj => decide_eq_false (hno j hj)]
    rfl
  case pos =>
  obtain ⟨b9,o9,cap9,dc9,es,lb9,-,R9,hvo9,-,-⟩:=els_at h hlt2;obtain ⟨rfl,rfl⟩ : sp = some ⟨b9,o9,none⟩ ∧ cap = cap9:=by simpa using es
  clear es;have R1:=R9.below (Keep.of_below b1) lb9;have hdl:=hvo9.len;have x3:=R1.all;have z1:=b1.size;refine K.kgo ?_;refine WL.idx i (o9 + i * 14) rfl rfl rfl rfl rfl rfl rfl rfl hlt2 rfl ?_;refine WL.loadMid rfl rfl rfl rfl rfl rfl x3 (rwC_len hdl) ?_;refine WL.callF rfl rfl rfl rfl rfl rfl Tryz.func59 rfl (by kernel_rfl) (at_any hdl ((b1.cell (p:=⟨g,44,none⟩) hlt).trans ha) ((b1.cell (p:=⟨g,45,none⟩) hlt).trans hb) (by omega)) ?_;rintro _ w2 ⟨b2,rfl⟩;refine ⟨_,rfl,?_⟩;have bw:=b1.trans (b2.mono z1)
  by_cases hq : (L.getD i noR).adr = (a,b)
  · rw [decide_eq_true hq]
    refine K.kgo ?_;refine WQ.ret1 rfl rfl ⟨bw,?_⟩;rw [find_at hlt2 (fun j hj => decide_eq_false (hno j hj)) (decide_eq_true hq)]
    rfl
  · rw [decide_eq_false hq]
    refine K.kgo ?_;refine WQ.again (i + 1) ⟨rfl,rfl,rfl,rfl,trivial⟩ ⟨hlt2,bw,fun j hj => ?_⟩ (by omega)
    by_cases e : j = i
    · rw [e];exact hq
    · exact hno j (by omega)
structure PG (w : World) (vb : Nat) (M D : Nat → Prop) (f : Nat) (n : Nat) (cat : List Cat.Tb) (A : Int × Int → List Rw) (dF : Int → Option Value) (pF nF : Int × Int → Option Value) (cp : Nat) (Oc : Nat → Prop) (mr md mp mn k : Nat) (F : Int × Int → Option Value) : Prop where
  vbk : VBlk pvT w vb [.pointer (some ⟨cp,0,none⟩),.map (some mr),.map (some md),.map (some mp),.map (some mn),.int .i64 n]
  cat : Cat.IsCat w cp Oc k cat
  rows : MF Tryz.prog keT mk2 w mr k F
  els : ∀ x,Els 14 noR (RowP D f w) D w ((F x).getD (.slice none 0 0)) (A x)
  docs : MF Tryz.prog iT mkI w md k dF
  plcs : MF Tryz.prog adT mk2 w mp k pF
  nams : MF Tryz.prog adT mk2 w mn k nF
  mvb : M vb
  mmr : M mr
  mmd : M md
  mmp : M mp
  mmn : M mn
  moc : ∀ b,Oc b → M b
  out : ¬ Oc vb ∧ ¬ Oc mr ∧ ¬ Oc md ∧ ¬ Oc mp ∧ ¬ Oc mn
  dis : (mr ≠ md ∧ mr ≠ mp ∧ mr ≠ mn) ∧ (md ≠ mp ∧ md ≠ mn) ∧ mp ≠ mn
  lt : ∀ b,M b ∨ D b → b < w.heap.size
  sep : ∀ b,M b → ¬ D b
section
variable {w w' : World} {vb : Nat} {M D : Nat → Prop} {f : Nat} {s : St} {n : Nat} {cat : List Cat.Tb} {A : Int × Int → List Rw} {dF : Int → Option Value} {pF nF : Int × Int → Option Value} {cp : Nat} {Oc : Nat → Prop} {mr md mp mn k N : Nat} {F : Int × Int → Option Value}
theorem PV.pg (h : PV w vb M D f s cp Oc mr md mp mn k N F) : PG w vb M D f s.n s.cat (Vw.of s.rows) (docF s.rows) (plcF s.rows) (namF s.red) cp Oc mr md mp mn k F :=
  ⟨h.vbk,h.cat,h.rows,h.els,h.docs,h.plcs,h.nams,h.mvb,h.mmr,h.mmd,h.mmp,h.mmn,h.moc,h.out,h.dis,h.lt,h.sep⟩
theorem PG.pv (h : PG w vb M D f n cat A dF pF nF cp Oc mr md mp mn k F) (hn : s.n = n) (hc : s.cat = cat) (hA : ∀ x,Vw.of s.rows x = A x) (hd : ∀ x,docF s.rows x = dF x) (hp : ∀ x,plcF s.rows x = pF x) (hnm : ∀ x,namF s.red x = nF x) (hok : s.n ≤ N ∧ s.rows.length ≤ N ∧ k ≤ N ∧ N ≤ 1000000) : PV w vb M D f s cp Oc mr md mp mn k N F:=by
  subst hn hc;exact ⟨h.vbk,h.cat,h.rows,fun x => by rw [hA];exact h.els x,h.docs.congr hd,h.plcs.congr hp,h.nams.congr hnm,h.mvb,h.mmr,h.mmd,h.mmp,h.mmn,h.moc,h.out,h.dis,h.lt,h.sep,hok⟩
theorem PG.keep (h : PG w vb M D f n cat A dF pF nF cp Oc mr md mp mn k F) {K : Nat → Prop} (hk : Keep K w w') (hK : ∀ b,M b ∨ D b → K b) : PG w' vb M D f n cat A dF pF nF cp Oc mr md mp mn k F :=
  ⟨h.vbk.keep hk (hK _ (.inl h.mvb)),h.cat.keep hk fun b hb => hK b (.inl (h.moc b hb)),h.rows.keep hk (hK _ (.inl h.mmr)),fun x => (h.els x).keep hk (fun b hb _ => hK b (.inr hb)) (fun _ h => h) fun _ _ hp => hp.keep hk (fun b hb _ => hK b (.inr hb)) (fun _ h => h),
    h.docs.keep hk (hK _ (.inl h.mmd)),h.plcs.keep hk (hK _ (.inl h.mmp)),h.nams.keep hk (hK _ (.inl h.mmn)),h.mvb,h.mmr,h.mmd,h.mmp,h.mmn,h.moc,h.out,h.dis,fun b hb => Nat.lt_of_lt_of_le (h.lt b hb) hk.size,h.sep⟩
theorem PG.below (h : PG w vb M D f n cat A dF pF nF cp Oc mr md mp mn k F) (hb : Below w.heap.size w w') : PG w' vb M D f n cat A dF pF nF cp Oc mr md mp mn k F:=h.keep (Keep.of_below hb) h.lt
theorem PG.kmono (h : PG w vb M D f n cat A dF pF nF cp Oc mr md mp mn k F) {k' : Nat} (hk : k ≤ k') : PG w vb M D f n cat A dF pF nF cp Oc mr md mp mn k' F :=
  { h with cat:=h.cat.mono hk,rows:=h.rows.mono hk,docs:=h.docs.mono hk,plcs:=h.plcs.mono hk,nams:=h.nams.mono hk }
theorem PG.more (h : PG w vb M D f n cat A dF pF nF cp Oc mr md mp mn k F) {D' : Nat → Prop} (hD : ∀ b,D b → D' b) (hl : ∀ b,D' b → b < w.heap.size) (hs : ∀ b,M b → ¬ D' b) : PG w vb M D' f n cat A dF pF nF cp Oc mr md mp mn k F :=
  { h with
    els:=fun x => (h.els x).mono hD fun _ _ hp => hp.keep (Keep.refl (fun _ => True) w) (fun _ _ _ => trivial) hD
    lt:=fun b hb => hb.elim (fun q => h.lt b (.inl q)) (hl b)
    sep:=hs }
theorem PG.vb_ne (h : PG w vb M D f n cat A dF pF nF cp Oc mr md mp mn k F) : mr ≠ vb ∧ md ≠ vb ∧ mp ≠ vb ∧ mn ≠ vb :=
  ⟨Cat.MF.tag_ne h.rows (show w.heap[vb]? = _ from h.vbk),Cat.MF.tag_ne h.docs (show w.heap[vb]? = _ from h.vbk),Cat.MF.tag_ne h.plcs (show w.heap[vb]? = _ from h.vbk),Cat.MF.tag_ne h.nams (show w.heap[vb]? = _ from h.vbk)⟩
theorem PG.putR (h : PG w vb M D f n cat A dF pF nF cp Oc mr md mp mn k F) (hk : k ≤ 1000000) {x : Int × Int} (h1 : R64 x.1) (h2 : R64 x.2) {v : Value} {L : List Rw} (hv : Els 14 noR (RowP D f w) D w v L) :
    ∃ w',(Instr.mapUpdate 80 (.map (some mr)) (mk2 x) v).run Tryz.prog w = .ok () w' ∧ Keep (fun b => b ≠ mr) w w' ∧ PG w' vb M D f n cat (fun y => if y = x then L else A y) dF pF nF cp Oc mr md mp mn (k + 1) (mfPut F x v):=by
  obtain ⟨w',h3,h4,h5⟩:=h.rows.put mk2_inj keKeyed Tryz.underlying80 (by unfold maxLen;omega) v (keKey h1 h2);have hv2:=h.vb_ne;have hD : ∀ b,D b → b ≠ mr:=fun b hb e => h.sep mr h.mmr (e ▸ hb);refine ⟨w',h3,h5,⟨h.vbk.keep h5 hv2.1.symm,(h.cat.keep h5 fun b hb e => h.out.2.1 (e ▸ hb)).mono (Nat.le_succ k),h4,fun y => ?_,(h.docs.keep h5 h.dis.1.1.symm).mono (Nat.le_succ k),(h.plcs.keep h5 h.dis.1.2.1.symm).mono (Nat.le_succ k),(h.nams.keep h5 h.dis.1.2.2.symm).mono (Nat.le_succ k),
    h.mvb,h.mmr,h.mmd,h.mmp,h.mmn,h.moc,h.out,h.dis,fun b hb => Nat.lt_of_lt_of_le (h.lt b hb) h5.size,h.sep⟩⟩
  unfold mfPut
  by_cases e : y = x
  · rw [if_pos e,if_pos e]
    exact hv.keep h5 (fun b hb _ => hD b hb) (fun _ h => h) fun _ _ hp => hp.keep h5 (fun b hb _ => hD b hb) (fun _ h => h)
  · rw [if_neg e,if_neg e]
    exact (h.els y).keep h5 (fun b hb _ => hD b hb) (fun _ h => h) fun _ _ hp => hp.keep h5 (fun b hb _ => hD b hb) (fun _ h => h)
theorem PG.putD (h : PG w vb M D f n cat A dF pF nF cp Oc mr md mp mn k F) (hk : k ≤ 1000000) {x : Int} (h1 : R64 x) (v : Value) :
    ∃ w',(Instr.mapUpdate 81 (.map (some md)) (.int .i64 x) v).run Tryz.prog w = .ok () w' ∧ Keep (fun b => b ≠ md) w w' ∧ PG w' vb M D f n cat A (mfPut dF x v) pF nF cp Oc mr md mp mn (k + 1) F:=by
  obtain ⟨w',h3,h4,h5⟩:=h.docs.put mkI_inj inKeyed Tryz.underlying81 (by unfold maxLen;omega) v (inKey h1);have hv2:=h.vb_ne;have hD : ∀ b,D b → b ≠ md:=fun b hb e => h.sep md h.mmd (e ▸ hb);exact ⟨w',h3,h5,⟨h.vbk.keep h5 hv2.2.1.symm,(h.cat.keep h5 fun b hb e => h.out.2.2.1 (e ▸ hb)).mono (Nat.le_succ k),(h.rows.keep h5 h.dis.1.1).mono (Nat.le_succ k),fun y => (h.els y).keep h5 (fun b hb _ => hD b hb) (fun _ h => h) fun _ _ hp => hp.keep h5 (fun b hb _ => hD b hb) (fun _ h => h),h4,(h.plcs.keep h5 h.dis.2.1.1.symm).mono (Nat.le_succ k),(h.nams.keep h5 h.dis.2.1.2.symm).mono (Nat.le_succ k),
    h.mvb,h.mmr,h.mmd,h.mmp,h.mmn,h.moc,h.out,h.dis,fun b hb => Nat.lt_of_lt_of_le (h.lt b hb) h5.size,h.sep⟩⟩
theorem PG.putP (h : PG w vb M D f n cat A dF pF nF cp Oc mr md mp mn k F) (hk : k ≤ 1000000) {x : Int × Int} (h1 : R64 x.1) (h2 : R64 x.2) (v : Value) :
    ∃ w',(Instr.mapUpdate 82 (.map (some mp)) (mk2 x) v).run Tryz.prog w = .ok () w' ∧ Keep (fun b => b ≠ mp) w w' ∧ PG w' vb M D f n cat A dF (mfPut pF x v) nF cp Oc mr md mp mn (k + 1) F:=by
  obtain ⟨w',h3,h4,h5⟩:=h.plcs.put mk2_inj adKeyed Tryz.underlying82 (by unfold maxLen;omega) v (adKey h1 h2);have hv2:=h.vb_ne;have hD : ∀ b,D b → b ≠ mp:=fun b hb e => h.sep mp h.mmp (e ▸ hb);exact ⟨w',h3,h5,⟨h.vbk.keep h5 hv2.2.2.1.symm,(h.cat.keep h5 fun b hb e => h.out.2.2.2.1 (e ▸ hb)).mono (Nat.le_succ k),(h.rows.keep h5 h.dis.1.2.1).mono (Nat.le_succ k),fun y => (h.els y).keep h5 (fun b hb _ => hD b hb) (fun _ h => h) fun _ _ hp => hp.keep h5 (fun b hb _ => hD b hb) (fun _ h => h),(h.docs.keep h5 h.dis.2.1.1).mono (Nat.le_succ k),h4,(h.nams.keep h5 h.dis.2.2.symm).mono (Nat.le_succ k),
    h.mvb,h.mmr,h.mmd,h.mmp,h.mmn,h.moc,h.out,h.dis,fun b hb => Nat.lt_of_lt_of_le (h.lt b hb) h5.size,h.sep⟩⟩
theorem PG.putN (h : PG w vb M D f n cat A dF pF nF cp Oc mr md mp mn k F) (hk : k ≤ 1000000) {x : Int × Int} (h1 : R64 x.1) (h2 : R64 x.2) (v : Value) :
    ∃ w',(Instr.mapUpdate 83 (.map (some mn)) (mk2 x) v).run Tryz.prog w = .ok () w' ∧ Keep (fun b => b ≠ mn) w w' ∧ PG w' vb M D f n cat A dF pF (mfPut nF x v) cp Oc mr md mp mn (k + 1) F:=by
  obtain ⟨w',h3,h4,h5⟩:=h.nams.put mk2_inj adKeyed Tryz.underlying83 (by unfold maxLen;omega) v (adKey h1 h2);have hv2:=h.vb_ne;have hD : ∀ b,D b → b ≠ mn:=fun b hb e => h.sep mn h.mmn (e ▸ hb);exact ⟨w',h3,h5,⟨h.vbk.keep h5 hv2.2.2.2.symm,(h.cat.keep h5 fun b hb e => h.out.2.2.2.2 (e ▸ hb)).mono (Nat.le_succ k),(h.rows.keep h5 h.dis.1.2.2).mono (Nat.le_succ k),fun y => (h.els y).keep h5 (fun b hb _ => hD b hb) (fun _ h => h) fun _ _ hp => hp.keep h5 (fun b hb _ => hD b hb) (fun _ h => h),(h.docs.keep h5 h.dis.2.1.2).mono (Nat.le_succ k),(h.plcs.keep h5 h.dis.2.2).mono (Nat.le_succ k),h4,
    h.mvb,h.mmr,h.mmd,h.mmp,h.mmn,h.moc,h.out,h.dis,fun b hb => Nat.lt_of_lt_of_le (h.lt b hb) h5.size,h.sep⟩⟩
theorem PG.app (h : PG w vb M D f n cat A dF pF nF cp Oc mr md mp mn k F) {cat' : List Cat.Tb} {O' : Nat → Prop} (hc : Cat.IsCat w' cp O' (k + 1) cat') (hk : Keep (fun b => b < w.heap.size ∧ ¬ Oc b) w w') (ho : ∀ b,O' b → Oc b ∨ w.heap.size ≤ b) :
    PG w' vb (fun b => M b ∨ (w.heap.size ≤ b ∧ b < w'.heap.size)) D f n cat' A dF pF nF cp O' mr md mp mn (k + 1) F:=by
  have l:=h.lt;have hz:=hk.size;have hn : ∀ b,M b → ¬ Oc b → ¬ O' b:=fun b hb hno q => by
    rcases ho b q with q | q
    · exact hno q
    · have:=l b (.inl hb);omega
  have hD : ∀ b,D b → b < w.heap.size ∧ ¬ Oc b:=fun b hb => ⟨l b (.inr hb),fun q => h.sep b (h.moc b q) hb⟩;have hM : ∀ b,M b → ¬ Oc b → b < w.heap.size ∧ ¬ Oc b:=fun b hb q => ⟨l b (.inl hb),q⟩;exact ⟨h.vbk.keep hk (hM _ h.mvb h.out.1),hc,(h.rows.keep hk (hM _ h.mmr h.out.2.1)).mono (Nat.le_succ k),fun x => (h.els x).keep hk (fun b hb _ => hD b hb) (fun _ h => h) fun _ _ hp => hp.keep hk (fun b hb _ => hD b hb) (fun _ h => h),
    (h.docs.keep hk (hM _ h.mmd h.out.2.2.1)).mono (Nat.le_succ k),(h.plcs.keep hk (hM _ h.mmp h.out.2.2.2.1)).mono (Nat.le_succ k),(h.nams.keep hk (hM _ h.mmn h.out.2.2.2.2)).mono (Nat.le_succ k),.inl h.mvb,.inl h.mmr,.inl h.mmd,.inl h.mmp,.inl h.mmn,
    fun b hb => (ho b hb).elim (fun q => .inl (h.moc b q)) fun q => .inr ⟨q,hc.lt b hb⟩,⟨hn _ h.mvb h.out.1,hn _ h.mmr h.out.2.1,hn _ h.mmd h.out.2.2.1,hn _ h.mmp h.out.2.2.2.1,hn _ h.mmn h.out.2.2.2.2⟩,h.dis,
    fun b hb => by
      rcases hb with (q | q) | q
      · have:=l b (.inl q);omega
      · exact q.2
      · have:=l b (.inr q);omega,fun b hb => by
      rcases hb with q | q
      · exact h.sep b q
      · intro q2;have:=l b (.inr q2);omega⟩
end
end Vw
namespace Vw
structure Named (s : St) (a : Int × Int) (r : Rw) (i j : Nat) : Prop where
  lt : i < s.rows.length
  here : s.rows.getD i noR = r
  idx : s.rows.findIdx? (hit s a) = some i
  jlt : j < (Vw.of s.rows r.key).length
  jhere : (Vw.of s.rows r.key).getD j noR = r
  jdx : (Vw.of s.rows r.key).findIdx? (fun x => decide (x.adr = a)) = some j
  ofs : ∀ x,Vw.of (s.rows.set i (shut r)) x = if x = r.key then (Vw.of s.rows r.key).set j (shut r) else Vw.of s.rows x
  cnts : ∀ t,cnt t (s.rows.set i (shut r)) = cnt t s.rows
  plc : ∀ x,plcF (s.rows.set i (shut r)) x = plcF s.rows x
theorem place_some {s : St} (hI : Inv s) {a : Int × Int} {r : Rw} (hf : s.rows.find? (fun x => decide (x.adr = a) && !x.del) = some r) (hred : s.red a = false) : ∃ i j,Named s a r i j:=by
  obtain ⟨hp,i,hi,hri,hno⟩:=List.find?_eq_some_iff_getElem.1 hf;have hra : r.adr = a:=by simp only [Bool.and_eq_true,decide_eq_true_eq] at hp;exact hp.1
  have hrd : r.del = false:=by simp only [Bool.and_eq_true,Bool.not_eq_true'] at hp;exact hp.2
  have hg : s.rows.getD i noR = r:=by rw [getD_lt hi];exact hri
  have hhit : ∀ x : Rw,hit s a x = (decide (x.adr = a) && !x.del):=fun x => by
    unfold hit;rw [hred,Bool.not_false,Bool.and_true]
    congr 1
    rw [← Bool.decide_and];exact decide_eq_decide.2 ⟨fun q => Prod.ext q.1 q.2,fun q => ⟨congrArg Prod.fst q,congrArg Prod.snd q⟩⟩
  obtain ⟨A,B,e,hAl,hs⟩:=set_split hi;rw [hg] at e;have hd:=hI.dis;rw [e,List.map_append,List.map_cons,List.nodup_append] at hd;have hA : ∀ x ∈ A,x.adr ≠ a:=fun x hx q => hd.2.2 _ (List.mem_map_of_mem hx) _ (List.mem_cons_self ..) (by rw [q,hra]);have hof : Vw.of s.rows r.key = Vw.of A r.key ++ r :: Vw.of B r.key:=by rw [e,of_split,if_pos rfl];rfl
  have hjl : (Vw.of A r.key).length < (Vw.of s.rows r.key).length:=by rw [hof,List.length_append,List.length_cons];omega
  have hjr : (Vw.of s.rows r.key).getD (Vw.of A r.key).length noR = r:=by rw [hof];simp [List.getD_eq_getElem?_getD]
  refine ⟨i,(Vw.of A r.key).length,hi,hg,find_at hi (fun j hj => ?_) ?_,hjl,hjr,find_at hjl (fun j hj => ?_) ?_,fun x => ?_,fun t => ?_,fun x => ?_⟩
  · rw [hhit,getD_lt (by omega)]
    have:=hno j hj
    simpa only [Bool.not_eq_true'] using this
  · rw [hhit,hg];exact hp
  · refine decide_eq_false ?_
    rw [hof,List.getD_eq_getElem?_getD,List.getElem?_append_left hj,List.getElem?_eq_getElem hj];exact hA _ (List.mem_filter.1 (List.getElem_mem hj)).1
  · rw [hjr];exact decide_eq_true hra
  · rw [hs,of_split]
    by_cases q : x = r.key
    · subst q
      rw [if_pos rfl,if_pos (show (shut r).key = r.key from rfl),hof];simp
    · rw [if_neg q,if_neg (show ¬ (shut r).key = x from fun y => q y.symm),e,of_split,if_neg (fun y => q y.symm)]
  · rw [hs,e,cnt_split]
  · unfold plcF
    rw [hs,e,List.find?_append,List.find?_append,List.find?_cons,List.find?_cons];have hps : (decide ((shut r).adr = x) && !(shut r).del) = (decide (r.adr = x) && !r.del):=rfl;rw [hps];cases A.find? (fun y => decide (y.adr = x) && !y.del) with
    | some y => rfl
    | none =>
      rw [Option.none_or,Option.none_or];cases (decide (r.adr = x) && !r.del) <;> rfl
theorem place_none {s : St} {a : Int × Int} (hf : s.rows.find? (fun x => decide (x.adr = a) && !x.del) = none ∨ s.red a = true) : s.rows.findIdx? (hit s a) = none:=by
  refine find_no fun j hj => ?_;unfold hit;rcases hf with hf | hf
  · have:=List.find?_eq_none.1 hf (s.rows.getD j noR) (by rw [getD_lt hj];exact List.getElem_mem hj)
    cases hq : (decide ((s.rows.getD j noR).blk = a.1) && decide ((s.rows.getD j noR).ent = a.2)) with
    | false => rw [Bool.false_and,Bool.false_and]
    | true =>
      simp only [Bool.and_eq_true,decide_eq_true_eq] at hq;have ha : (s.rows.getD j noR).adr = a:=Prod.ext hq.1 hq.2;rw [decide_eq_true ha,Bool.true_and] at this;simp only [Bool.not_eq_true',Bool.not_eq_false] at this;rw [this]
      rfl
  · rw [hf,Bool.not_true,Bool.and_false]
end Vw
end Go.Proofs.YtchgjaaadfjiiaaGreat
