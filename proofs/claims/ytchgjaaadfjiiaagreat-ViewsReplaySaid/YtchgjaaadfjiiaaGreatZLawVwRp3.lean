/- Texts for LawVwRp, part 3 of 9. -/
import Derived.Test.YtchgjaaadfjiiaaGreatZLawVwRp2
import Derived.StillTailTactics
import Derived.Deep.RegionLaw
import Derived.DeepKeys
import Derived.Laws.CopyRow
import Derived.WideShapes
import Derived.Laws.Strings
import GoSem.Op.String
namespace Go.Proofs.YtchgjaaadfjiiaaGreat
open Go.RowKit
namespace K
theorem take_snoc_eq {α : Type} {a b : List α} {i : Nat} (h : a.take i = b.take i) (ha : i < a.length) (hb : i < b.length) (he : a[i] = b[i]) : a.take (i + 1) = b.take (i + 1):=by
  rw [List.take_add_one,List.take_add_one,h,List.getElem?_eq_getElem ha,List.getElem?_eq_getElem hb,he]
theorem V.ext' {a b : V} (h1 : a.k = b.k) (h2 : a.n = b.n) (h3 : a.s = b.s) (h4 : a.t = b.t) (h5 : a.names = b.names) (h6 : a.kids = b.kids) : a = b:=by
  cases a;cases b
  simp only [V.k,V.n,V.s,V.t,V.names,V.kids] at h1 h2 h3 h4 h5 h6;subst h1;subst h2;subst h3;subst h4;subst h5;subst h6
  rfl
theorem bytes_ne {a b : ByteArray} (h : ¬ a = b) : ¬ a.toList = b.toList:=fun e => h (by
  rw [ByteArray.toList_eq,ByteArray.toList_eq] at e;exact ByteArray.ext (Array.toList_inj.1 e))
set_option maxHeartbeats 8000000 in
theorem equal_any : ∀ (f : Nat) {f2 : Nat} {w : World} {v1 v2 : V} {c1 c2 : List Value},IsV f w v1 c1 → IsV f2 w v2 c2 →
    Calls Tryz.prog 49 #[.agg c1.toArray,.agg c2.toArray] w fun e w' => (∃ b,e = .returned (.bool b) ∧ (b = true ↔ v1 = v2)) ∧ Below w.heap.size w w'
  | 0,_,_,_,_,_,_,h,_ => h.elim
  | _ + 1,0,_,_,_,_,_,_,h => h.elim
  | f + 1,f2 + 1,w,v1,v2,c1,c2,h1,h2 => by
    obtain ⟨sn1,sk1,rfl,-,-,-,-,hn1,hk1⟩:=h1;obtain ⟨sn2,sk2,rfl,-,-,-,-,hn2,hk2⟩:=h2;obtain ⟨np1,nc1,rfl,nl1,nm1,-,nr1⟩:=hn1;obtain ⟨np2,nc2,rfl,nl2,nm2,-,nr2⟩:=hn2;obtain ⟨kp1,kc1,rfl,kl1,km1,kr1⟩:=hk1;obtain ⟨kp2,kc2,rfl,kl2,km2,kr2⟩:=hk2;refine enter (args:=[.agg (six v1 (.slice np1 v1.names.length nc1) (.slice kp1 v1.kids.length kc1)).toArray,.agg (six v2 (.slice np2 v2.names.length nc2) (.slice kp2 v2.kids.length kc2)).toArray]) Tryz.func49 rfl Tryz.ntmps49 rfl ?_;refine K.kgo ?_;refine WL.box rfl rfl rfl rfl rfl fun g1 w1 hf1 => ?_;have hf1' : Fresh w g1 w1 48 (six v1 (.slice np1 v1.names.length nc1) (.slice kp1 v1.kids.length kc1)):=hf1;clear hf1;refine WL.box rfl rfl rfl rfl rfl fun g2 w2 hf2 => ?_;have hf2' : Fresh w1 g2 w2 48 (six v2 (.slice np2 v2.names.length nc2) (.slice kp2 v2.kids.length kc2)):=hf2;clear hf2;have hb2 : Below w.heap.size w w2:=hf1'.below.trans (hf2'.below.mono hf1'.below.size);have B1:=hf1'.blk.below hf2'.below hf1'.blk.lt;have B2:=hf2'.blk;clear hf1' hf2';have no : ∀ {wx : World},Below w.heap.size w wx → ¬ v1 = v2 → (∃ b,Ending.returned (Value.bool false) = .returned (.bool b) ∧ (b = true ↔ v1 = v2)) ∧ Below w.heap.size w wx:=fun h1 h2 => ⟨⟨false,rfl,by simp [h2]⟩,h1⟩;refine K.kgo ?_;refine WL.load rfl rfl rfl rfl rfl rfl (B1.cell 0 (by simp)) ?_;refine K.kgo ?_;refine WL.load rfl rfl rfl rfl rfl rfl (B2.cell 0 (by simp)) ?_
    by_cases e1 : v1.k = v2.k
    rotate_left
    · refine K.kgo ?_
      exact WQ.ret1 rfl rfl (no hb2 fun e => e1 (by rw [e]))
    refine K.kgo ?_;refine WL.load rfl rfl rfl rfl rfl rfl (B1.cell 1 (by simp)) ?_;refine K.kgo ?_;refine WL.load rfl rfl rfl rfl rfl rfl (B2.cell 1 (by simp)) ?_
    by_cases e2 : v1.n = v2.n
    rotate_left
    · refine K.kgo ?_
      exact WQ.ret1 rfl rfl (no hb2 fun e => e2 (by rw [e]))
    refine K.kgo ?_;refine WL.load rfl rfl rfl rfl rfl rfl (B1.cell 2 (by simp)) ?_;refine K.kgo ?_;refine WL.load rfl rfl rfl rfl rfl rfl (B2.cell 2 (by simp)) ?_
    by_cases e3 : v1.s = v2.s
    rotate_left
    · refine K.kgo ?_
      exact WQ.ret1 rfl rfl (no hb2 fun e => e3 (by rw [e]))
    refine K.kgo ?_;refine WL.load rfl rfl rfl rfl rfl rfl (B1.cell 3 (by simp)) ?_;refine K.kgo ?_;refine WL.load rfl rfl rfl rfl rfl rfl (B2.cell 3 (by simp)) ?_
    by_cases e4 : v1.t = v2.t
    rotate_left
    · refine WL.on rfl rfl ?_
      refine WL.pureAs (.bool true) rfl rfl rfl rfl (by simp [bytes_ne e4]) ?_;refine K.kgo ?_;exact WQ.ret1 rfl rfl (no hb2 fun e => e4 (by rw [e]))
    refine WL.on rfl rfl ?_;refine WL.pureAs (.bool false) rfl rfl rfl rfl (by simp [e4]) ?_;refine K.kgo ?_;refine WL.load rfl rfl rfl rfl rfl rfl (B1.cell 4 (by simp)) ?_;refine K.kgo ?_;refine WL.load rfl rfl rfl rfl rfl rfl (B2.cell 4 (by simp)) ?_
    by_cases e5 : v1.names.length = v2.names.length
    rotate_left
    · refine K.kgo ?_
      exact WQ.ret1 rfl rfl (no hb2 fun e => e5 (by rw [e]))
    refine K.kgo ?_;refine WL.load rfl rfl rfl rfl rfl rfl (B1.cell 5 (by simp)) ?_;refine K.kgo ?_;refine WL.load rfl rfl rfl rfl rfl rfl (B2.cell 5 (by simp)) ?_
    by_cases e6 : v1.kids.length = v2.kids.length
    rotate_left
    · refine K.kgo ?_
      exact WQ.ret1 rfl rfl (no hb2 fun e => e6 (by rw [e]))
    have hz2:=hb2.size;refine K.kgb ?_;refine WC.mid (fun _ : Unit => [(2,.pointer (some ⟨g1,0,none⟩)),(3,.pointer (some ⟨g2,0,none⟩))]) (fun _ wx => v1.names = v2.names ∧ Below w2.heap.size w2 wx) rfl ?_ ?_
    · refine K.kgo ?_
      refine WC.loop (fun i : Nat => [(2,.pointer (some ⟨g1,0,none⟩)),(3,.pointer (some ⟨g2,0,none⟩)),(5,.int .i64 i)]) (fun i wx => i ≤ v1.names.length ∧ v1.names.take i = v2.names.take i ∧ Below w2.heap.size w2 wx) (fun i => v1.names.length - i) 0 ⟨rfl,rfl,rfl,trivial⟩ ⟨Nat.zero_le _,by simp,Below.refl _ _⟩ ?_;rintro i wr ⟨hi,ht,hbr⟩;have R1:=B1.below hbr B1.lt;have R2:=B2.below hbr B2.lt;refine K.kgo ?_;refine WL.load rfl rfl rfl rfl rfl rfl (R1.cell 4 (by simp)) ?_
      by_cases hik : i < v1.names.length
      · obtain ⟨b1,o1,rfl,hlt1,hc1⟩:=nr1 (by omega)
        obtain ⟨b2,o2,rfl,hlt2,hc2⟩:=nr2 (by omega);have hc1:=hc1 i hik;have hc2:=hc2 i (by omega);have hbw : Below w.heap.size w wr:=hb2.trans (hbr.mono hz2);refine K.kgo ?_;refine WC.drawn 10 (fun wx => wx.heap = wr.heap) fun w3 hd => ?_;have hS : w3.heap = wr.heap:=hd.heap;have hb3 : Below w2.heap.size w2 w3:=hbr.trans (hd.below _);refine K.fr [0] hS ?_;refine K.wl 1 [3,4,10] rfl rfl rfl rfl rfl rfl rfl (fun wx hx => (heap_cell hx _).trans (R1.cell 4 (by simp))) hS ?_;refine K.fr [2] hS ?_;refine K.wi 3 i (o1 + i) rfl rfl rfl rfl rfl rfl rfl rfl rfl hik (by omega) (.inr hS) ?_;refine K.wl 4 [10] rfl rfl rfl rfl rfl rfl rfl (fun wx hx => (heap_cell hx _).trans ((hbw.cell (p:=⟨b1,o1 + i,none⟩) hlt1).trans hc1)) hS ?_;refine K.fr [5] hS ?_;refine K.wl 6 [8,9,10] rfl rfl rfl rfl rfl rfl rfl (fun wx hx => (heap_cell hx _).trans (R2.cell 4 (by simp))) hS ?_;refine K.fr [7] hS ?_;refine K.wi 8 i (o2 + i) rfl rfl rfl rfl rfl rfl rfl rfl rfl (by omega) (by omega) (.inr hS) ?_;refine K.wl 9 [10] rfl rfl rfl rfl rfl rfl rfl (fun wx hx => (heap_cell hx _).trans ((hbw.cell (p:=⟨b2,o2 + i,none⟩) hlt2).trans hc2)) hS ?_;refine K.wo 10 ?_;refine WL.pure rfl rfl rfl rfl ?_;refine K.dl ?_;refine WD.done (by kernel_rfl) ?_;refine K.kgo ?_;have hg1 : v1.names.getD i noT = v1.names[i]:=by simp [hik]
        have hg2 : v2.names.getD i noT = v2.names[i]:=by simp [show i < v2.names.length by omega]
        refine WC.condB rfl (fun hne => ?_) fun heq => ?_
        · refine K.kgo ?_
          refine WQ.ret1 rfl rfl (no (hb2.trans (hb3.mono hz2)) fun e => ?_);have h:=congrArg (fun v => v.names.getD i noT) e;rw [h] at hne;simp at hne
        · refine K.kgo ?_
          refine WQ.again (i + 1) ⟨rfl,rfl,rfl,trivial⟩ ⟨hik,take_snoc_eq ht hik (by omega) ?_,hb3⟩ (by show v1.names.length - (i + 1) < v1.names.length - i;omega);rw [← hg1,← hg2];refine Classical.byContradiction fun hne => ?_;exact bytes_ne hne (by simpa using heq)
      · obtain rfl : i = v1.names.length:=by omega
        refine K.kgo ?_;exact WQ.meet () ⟨rfl,rfl,trivial⟩ ⟨by rw [List.take_length,e5,List.take_length] at ht;exact ht,hbr⟩
    rintro _ w5 ⟨e7,hb5⟩;refine K.kgo ?_;refine WC.loop (fun i : Nat => [(2,.pointer (some ⟨g1,0,none⟩)),(3,.pointer (some ⟨g2,0,none⟩)),(6,.int .i64 i)]) (fun i wx => i ≤ v1.kids.length ∧ v1.kids.take i = v2.kids.take i ∧ Below w2.heap.size w2 wx) (fun i => v1.kids.length - i) 0 ⟨rfl,rfl,rfl,trivial⟩ ⟨Nat.zero_le _,by simp,hb5⟩ ?_;rintro i wr ⟨hi,ht,hbr⟩;have R1:=B1.below hbr B1.lt;have R2:=B2.below hbr B2.lt;refine K.kgo ?_;refine WL.load rfl rfl rfl rfl rfl rfl (R1.cell 5 (by simp)) ?_
    by_cases hik : i < v1.kids.length
    · obtain ⟨b1,o1,rfl,hlt1,hc1⟩:=kr1 (by omega)
      obtain ⟨b2,o2,rfl,hlt2,hc2⟩:=kr2 (by omega);obtain ⟨cs1,hl1,hv1,ha1⟩:=hc1 i hik;obtain ⟨cs2,hl2,hv2,ha2⟩:=hc2 i (by omega);have hbw : Below w.heap.size w wr:=hb2.trans (hbr.mono hz2);have ha1' : ∀ {wx : World},wx.heap = wr.heap → wx.rangeAt b1 (o1 + i * 6) cs1:=fun hx j u hu => (heap_cell hx _).trans ((hbw.cell (p:=⟨b1,o1 + i * 6 + j,none⟩) hlt1).trans (ha1 j u hu));have ha2' : ∀ {wx : World},wx.heap = wr.heap → wx.rangeAt b2 (o2 + i * 6) cs2:=fun hx j u hu => (heap_cell hx _).trans ((hbw.cell (p:=⟨b2,o2 + i * 6 + j,none⟩) hlt2).trans (ha2 j u hu));refine K.kgo ?_;refine WC.drawn 10 (fun wx => wx.heap = wr.heap) fun w3 hd => ?_;have hS : w3.heap = wr.heap:=hd.heap;have hb3 : Below w2.heap.size w2 w3:=hbr.trans (hd.below _);refine K.fr [0] hS ?_;refine K.wl 1 [3,4,10,11] rfl rfl rfl rfl rfl rfl rfl (fun wx hx => (heap_cell hx _).trans (R1.cell 5 (by simp))) hS ?_;refine K.fr [2] hS ?_;refine K.wi 3 i (o1 + i * 6) rfl rfl rfl rfl rfl rfl rfl rfl rfl hik rfl (.inr hS) ?_;refine K.wm 4 [10,11] rfl rfl rfl rfl rfl rfl rfl (fun wx hx => ha1' hx) hl1 hS ?_;refine K.fr [5] hS ?_;refine K.wl 6 [8,9,10,11] rfl rfl rfl rfl rfl rfl rfl (fun wx hx => (heap_cell hx _).trans (R2.cell 5 (by simp))) hS ?_;refine K.fr [7] hS ?_;refine K.wi 8 i (o2 + i * 6) rfl rfl rfl rfl rfl rfl rfl rfl rfl (by omega) rfl (.inr hS) ?_;refine K.wm 9 [10,11] rfl rfl rfl rfl rfl rfl rfl (fun wx hx => ha2' hx) hl2 hS ?_;refine K.wo 10 ?_;have hbw3 : Below w.heap.size w w3:=hb2.trans (hb3.mono hz2);refine WL.call rfl rfl rfl rfl rfl Tryz.func49 rfl (by kernel_rfl) (equal_any f (hv1.below hbw3) (hv2.below hbw3)) ?_;rintro _ w4 ⟨⟨b,rfl,hb⟩,hb4⟩;refine ⟨_,rfl,?_⟩;have hb4' : Below w2.heap.size w2 w4:=hb3.trans (hb4.mono hb3.size);refine K.dl ?_;refine K.wo 11 ?_;refine WL.pure rfl rfl rfl rfl ?_;refine K.dl ?_;refine WD.done (by kernel_rfl) ?_;refine K.kgo ?_;have hg1 : v1.kids.getD i noV = v1.kids[i]:=by simp [hik]
      have hg2 : v2.kids.getD i noV = v2.kids[i]:=by simp [show i < v2.kids.length by omega]
      refine WC.condB rfl (fun hne => ?_) fun heq => ?_
      · refine K.kgo ?_
        refine WQ.ret1 rfl rfl (no (hb2.trans (hb4'.mono hz2)) fun e => ?_);have:=hb.2 (by rw [e]);simp [this] at hne
      · refine K.kgo ?_
        refine WQ.again (i + 1) ⟨rfl,rfl,rfl,trivial⟩ ⟨hik,take_snoc_eq ht hik (by omega) ?_,hb4'⟩ (by show v1.kids.length - (i + 1) < v1.kids.length - i;omega);rw [← hg1,← hg2];exact hb.1 (by simpa using heq)
    · obtain rfl : i = v1.kids.length:=by omega
      refine K.kgo ?_;refine WQ.ret1 rfl rfl ⟨⟨true,rfl,⟨fun _ => ?_,fun _ => rfl⟩⟩,hb2.trans (hbr.mono hz2)⟩;rw [List.take_length,e6,List.take_length] at ht;exact V.ext' e1 e2 e3 e4 e7 ht
end K
namespace K
def encR (v : V) : List Int × Int:=if chk 16 v ≠ 0 then ([],chk 16 v) else if 65536 < (encV 16 v).length then ([],5) else (encV 16 v,0)
def EncPost (w : World) (v : V) (e : Ending) (w' : World) : Prop:=∃ b,e = .returned (.tuple #[b,.int .i64 (encR v).2]) ∧ Bu w' b (encR v).1 ∧ Below w.heap.size w w' ∧ ∀ g,b.ownBlock = some g → w.heap.size ≤ g
theorem encode_any {f : Nat} {w : World} {v : V} {cs : List Value} (h : IsV f w v cs) (hlen : chk 16 v = 0 → (encV 16 v).length ≤ 70368744177664) :
    Calls Tryz.prog 77 #[.agg cs.toArray] w (EncPost w v):=by
  have hcs:=h.len;refine enter (args:=[.agg cs.toArray]) Tryz.func77 rfl Tryz.ntmps77 rfl ?_;refine K.kgo ?_;refine WL.box rfl rfl rfl rfl rfl fun g w1 hf => ?_;have hf' : Fresh w g w1 48 cs:=hf;clear hf;have hz1:=hf'.size;have h1:=h.below hf'.below;refine K.kgo ?_;refine WL.loadMid rfl rfl rfl rfl rfl rfl (VBlk.rangeAt hf'.blk) hcs ?_;refine WL.call rfl rfl rfl rfl rfl Tryz.func99 rfl (by kernel_rfl) (Vl.Check_any h1) ?_;rintro _ w2 ⟨rfl,hb2⟩;refine ⟨_,rfl,?_⟩;have hw2 : Below w.heap.size w w2:=hf'.below.trans (hb2.mono (by omega))
  by_cases hc : chk 16 v = 0
  · refine K.kgo ?_
    refine WL.loadMid rfl rfl rfl rfl rfl rfl (VBlk.rangeAt (hf'.blk.below hb2 hf'.blk.lt)) hcs ?_;refine WL.call rfl rfl rfl rfl rfl Tryz.func100 rfl (by kernel_rfl) (clay_all 16 (h1.below hb2) hc (Bu.nil w2) ⟨Below.refl _ _,fun g hg => by cases hg⟩ (by have:=hlen hc;simp only [List.length_nil];omega)) ?_;rintro _ w3 ⟨b,rfl,hb,hg⟩;refine ⟨_,rfl,?_⟩;rw [List.nil_append] at hb;obtain ⟨sp,cap,rfl,hl1,hl2⟩:=hb.form;have hw3 : Below w.heap.size w w3:=hw2.trans (hg.old (B:=w.heap.size) (hw2.size) fun g h => by cases h)
    by_cases hbig : 65536 < (encV 16 v).length
    · have hr : encR v = ([],5):=by unfold encR;rw [if_neg (by simpa using hc),if_pos hbig]
      refine K.kgo ?_;exact WQ.ret2 rfl rfl rfl ⟨_,by rw [hr],by rw [hr];exact Bu.nil _,hw3,fun g hg => by cases hg⟩
    · have hr : encR v = (encV 16 v,0):=by unfold encR;rw [if_neg (by simpa using hc),if_neg hbig]
      refine K.kgo ?_;exact WQ.ret2 rfl rfl rfl ⟨_,by rw [hr],by rw [hr];exact hb,hw3,fun g h => (hg.2 g h).elim (fun h2 => by cases h2) fun h2 => by have:=hw2.size;omega⟩
  · have hr : encR v = ([],chk 16 v):=by unfold encR;rw [if_pos hc]
    refine K.kgo ?_;exact WQ.ret2 rfl rfl rfl ⟨_,by rw [hr],by rw [hr];exact Bu.nil _,hw2,fun g hg => by cases hg⟩
theorem uvB_len (u : Nat) : (uvB u).length ≤ 10:=uvF_len 10 u
theorem enc_pieces (ky : V → List Int) (st : Bool) (names : List ByteArray) (kids : List V) (hn : st = true → names.length = kids.length ∧ ∀ s ∈ names,s.size ≤ 40) :
    ((List.range kids.length).flatMap (pieceE ky st names kids)).length ≤ 50 * names.length + (kids.flatMap ky).length:=by
  have key : ∀ i,i ≤ kids.length → ((List.range i).flatMap (pieceE ky st names kids)).length ≤ (if st then 50 * i else 0) + ((kids.take i).flatMap ky).length:=by
    intro i
    induction i with
    | zero => intro _;simp
    | succ i ih =>
      intro hi;have h1:=ih (by omega);have ht : kids.take (i + 1) = kids.take i ++ [kids.getD i noV]:=by
        rw [List.take_add_one];simp [show i < kids.length by omega]
      rw [range_piece,List.length_append,ht,List.flatMap_append,List.length_append];have h2 : (pieceE ky st names kids i).length ≤ (if st then 50 else 0) + ([kids.getD i noV].flatMap ky).length:=by
        unfold pieceE;rw [List.length_append];cases st with
        | false => simp
        | true =>
          have hs : (names.getD i noT).size ≤ 40:=(hn rfl).2 _ (by have:=(hn rfl).1;simp [show i < names.length by omega]);have hu:=uvB_len (names.getD i noT).size;have hb:=byI_len (names.getD i noT);generalize names.getD i noT = nm at hs hu hb ⊢;generalize kids.getD i noV = kd;simp
          omega
      generalize ((List.range i).flatMap (pieceE ky st names kids)).length = a1 at h1 ⊢;generalize (pieceE ky st names kids i).length = a2 at h2 ⊢;generalize ((kids.take i).flatMap ky).length = a3 at h1 ⊢;generalize ([kids.getD i noV].flatMap ky).length = a4 at h2 ⊢;cases st with
      | false => rw [if_neg (by simp)] at h1 h2 ⊢;omega
      | true => rw [if_pos rfl] at h1 h2 ⊢;omega
  have:=key kids.length (Nat.le_refl _);rw [List.take_length] at this;cases st with
  | false => rw [if_neg (by simp)] at this;omega
  | true => have h:=(hn rfl).1;rw [if_pos rfl] at this;omega
theorem grtK_enc {B f m : Nat} (ih : ∀ (v : V) (n : Nat),Sml f v → chk m v = 0 → grt B f v n ≤ B → n ≤ grt B f v n ∧ (encV m v).length + 80 * n ≤ 80 * grt B f v n) :
    ∀ (l : List V) (n : Nat),(∀ x ∈ l,Sml f x ∧ chk m x = 0) → grtK B (grt B f) l n ≤ B → n ≤ grtK B (grt B f) l n ∧ (l.flatMap (encV m)).length + 80 * n ≤ 80 * grtK B (grt B f) l n
  | [],n,_,_ => by simp [grtK]
  | k :: r,n,h,hB => by
    unfold grtK at hB ⊢
    by_cases hn : n ≤ B
    · rw [if_pos hn] at hB ⊢
      have hk:=h k List.mem_cons_self;have hle : grt B f k n ≤ B:=by
        rcases Nat.lt_or_ge B (grt B f k n) with h1 | h1
        · rw [grtK_over r h1] at hB;omega
        · exact h1
      have h1:=ih k n hk.1 hk.2 hle;have h2:=grtK_enc ih r (grt B f k n) (fun x hx => h x (List.mem_cons_of_mem _ hx)) hB;rw [List.flatMap_cons,List.length_append];omega
    · rw [if_neg hn] at hB;omega
theorem grt_enc {B : Nat} : ∀ (f m : Nat) (v : V) (n : Nat),Sml f v → chk m v = 0 → grt B f v n ≤ B → n ≤ grt B f v n ∧ (encV m v).length + 80 * n ≤ 80 * grt B f v n
  | 0,_,_,_,h,_,_ => h.elim
  | _ + 1,0,_,_,_,h,_ => by cases h
  | f + 1,m + 1,v,n,hs,hc,hB => by
    obtain ⟨-,-,hsk⟩:=hs;have hk : ∀ x ∈ v.kids,Sml f x ∧ chk m x = 0:=fun x hx => ⟨hsk _ hx,chk_mem hc hx⟩;unfold grt at hB ⊢;have h1:=grtK_enc (grt_enc f m) v.kids _ hk hB;obtain ⟨-,-,-,-,-,-,-,f9⟩:=shp_form (chk_shp hc);refine ⟨by omega,?_⟩;have hbody : (encV (m + 1) v).length ≤ 40 + 20 * (v.t.size / 20) + 50 * v.names.length + (v.kids.flatMap (encV m)).length:=by
      rw [encV_two,List.length_cons];have hu1:=uvB_len (zig v.n);have hu2:=uvB_len v.n.toNat;have hu3:=uvB_len v.t.size;have hu4:=uvB_len v.kids.length;have hb:=byI_len v.t;have hp:=enc_pieces (encV m) (decide (v.k = 9)) v.names v.kids fun h => f9 (of_decide_eq_true h)
      split
      · simp;omega
      split
      · omega
      split
      · simp;omega
      split
      · omega
      split
      · rw [List.length_append];omega
      split
      · rw [List.length_append];omega
      · simp;omega
    omega
theorem IsV.rng {w : World} : ∀ {f : Nat} {v : V} {cs : List Value},IsV f w v cs → Rng f v
  | 0,_,_,h => h
  | f + 1,v,_,h => by
    obtain ⟨sn,sk,-,-,wn,-,-,-,hk⟩:=h;refine ⟨by simp [Lit.wf,IntKind.min,IntKind.max,IntKind.bits,IntKind.signed] at wn;omega,fun x hx => ?_⟩;obtain ⟨j,hj,rfl⟩:=List.getElem_of_mem hx;obtain ⟨sp,cap,-,-,-,hr⟩:=hk;obtain ⟨b,o,-,-,hc⟩:=hr (by omega);obtain ⟨cs,-,hp,-⟩:=hc j hj;have:=IsV.rng hp
    simpa [hj] using this
theorem encR_ok {v : V} (h : (encR v).2 = 0) : chk 16 v = 0 ∧ (encV 16 v).length ≤ 65536 ∧ (encR v).1 = encV 16 v:=by
  unfold encR at h ⊢
  by_cases hc : chk 16 v = 0
  · rw [if_neg (by simpa using hc)] at h ⊢
    by_cases hb : 65536 < (encV 16 v).length
    · rw [if_pos hb] at h;cases h
    · rw [if_neg hb];exact ⟨hc,by omega,rfl⟩
  · rw [if_pos hc] at h;exact absurd h hc
theorem bits_mask (x : Int) (m : Nat) (hm : m < 4611686018427387904) : ∃ r : Nat,r ≤ m ∧ bits .and .i64 x (m : Int) = (r : Int):=by
  refine ⟨(BitVec.ofInt 64 x).toNat &&& m,Nat.and_le_right,?_⟩;have h2 : (BitVec.ofInt 64 (m : Int)).toNat = m:=by
    rw [BitVec.ofInt_natCast,BitVec.toNat_ofNat];exact Nat.mod_eq_of_lt (by omega)
  have h3 : (BitVec.ofInt 64 x).toNat &&& m ≤ m:=Nat.and_le_right
  show IntKind.i64.wrap ((BitVec.ofInt 64 x &&& BitVec.ofInt 64 (m : Int)).toNat : Int) = _
  rw [BitVec.toNat_and,h2];exact IntWalk.i64_in _ (by omega)
end K
namespace Dig
def rotr (x n : Int) : Int:=bits .or .u32 (x / 2 ^ n.toNat) (x * 2 ^ (32 - n).toNat % 4294967296)
def word (a b c d : Int) : Int :=
  bits .or .u32 (bits .or .u32 (bits .or .u32 (a % 4294967296 * 16777216 % 4294967296) (b % 4294967296 * 65536 % 4294967296)) (c % 4294967296 * 256 % 4294967296)) (d % 4294967296)
set_option maxHeartbeats 400000 in
theorem turn_any (x n : Int) (w : World) (hn : 0 ≤ n) (hn2 : n ≤ 32) :
    Calls Tryz.prog 119 #[.int .u32 x,.int .u64 n] w fun e w' => e = .returned (.int .u32 (rotr x n)) ∧ w = w':=by
  go_enter Tryz.func119,Tryz.ntmps119
  go_wp2
  go_ret
  exact ⟨rfl,rfl⟩
set_option maxHeartbeats 400000 in
theorem word_any (b o len cap : Nat) (x0 x1 x2 x3 : Int) (w : World) (hl : 4 ≤ len)
   (h0 : w.cell? ⟨b, o, none⟩ = some (.int .u8 x0)) (h1 : w.cell? ⟨b, o + 1, none⟩ = some (.int .u8 x1))
   (h2 : w.cell? ⟨b, o + 2, none⟩ = some (.int .u8 x2)) (h3 : w.cell? ⟨b, o + 3, none⟩ = some (.int .u8 x3)) :
    Calls Tryz.prog 118 #[.slice (some ⟨b, o, none⟩) len cap] w fun e w' => e = .returned (.int .u32 (word x0 x1 x2 x3)) ∧ Drawn w w' := by
  have a0 : (0 : Int) < len := by omega
  have a1 : (1 : Int) < len := by omega
  have a2 : (2 : Int) < len := by omega
  have a3 : (3 : Int) < len := by omega
  go_enter Tryz.func118, Tryz.ntmps118
  go_wp2
  go_quiet (fail)
  go_wp2
  go_ret
  exact ⟨rfl, Drawn.mk _ _⟩
end Dig
namespace Dig
def wordAt (by_ : List Int) (j : Nat) : Int:=word (nth by_ j) (nth by_ (j + 1)) (nth by_ (j + 2)) (nth by_ (j + 3))
def load (by_ : List Int) : Nat → List Int
  | 0 => List.replicate 64 0
  | n + 1 => (load by_ n).set n (wordAt by_ (4 * n))
theorem load_length (by_ : List Int) (n : Nat) : (load by_ n).length = 64:=by
  induction n with
  | zero => rfl
  | succ n ih => rw [load,List.length_set,ih]
def sig0 (x : Int) : Int:=bits .xor .u32 (bits .xor .u32 (rotr x 7) (rotr x 18)) (x / 8)
def sig1 (x : Int) : Int:=bits .xor .u32 (bits .xor .u32 (rotr x 17) (rotr x 19)) (x / 1024)
def sched (l : List Int) : Nat → List Int
  | 0 => l
  | n + 1 => (sched l n).set (16 + n) ((nth (sched l n) n + sig0 (nth (sched l n) (n + 1)) + nth (sched l n) (n + 9) + sig1 (nth (sched l n) (n + 14))) % 4294967296)
theorem sched_length (l : List Int) (n : Nat) : (sched l n).length = l.length:=by
  induction n with
  | zero => rfl
  | succ n ih => rw [sched,List.length_set,ih]
theorem eight (l : List Int) (h : l.length = 8) : l = [nth l 0,nth l 1,nth l 2,nth l 3,nth l 4,nth l 5,nth l 6,nth l 7]:=by
  match l,h with
  | [a,b,c,d,e,f,g,i],_ => rfl
theorem mk8 (w : World) (l : List Int) (h : l.length = 8) :
    IBlk .u32 180 (w.alloc (.cells #[.int .u32 (nth l 0),.int .u32 (nth l 1),.int .u32 (nth l 2),.int .u32 (nth l 3),.int .u32 (nth l 4),.int .u32 (nth l 5),.int .u32 (nth l 6),.int .u32 (nth l 7)] 180)) w.heap.size l:=by
  have:=VBlk.mk w (l.map (Value.int .u32)) 180
  match l,h with
  | [a,b,c,d,e,f,g,i],_ => exact this
def rt (kk W v : List Int) (i : Nat) : Int :=
  nth v 7 + bits .xor .u32 (bits .xor .u32 (rotr (nth v 4) 6) (rotr (nth v 4) 11)) (rotr (nth v 4) 25) +
    bits .xor .u32 (bits .and .u32 (nth v 4) (nth v 5)) (bits .and .u32 (bits .xor .u32 IntKind.u32.max (nth v 4)) (nth v 6)) + nth kk i + nth W i
def ru (v : List Int) : Int :=
  bits .xor .u32 (bits .xor .u32 (rotr (nth v 0) 2) (rotr (nth v 0) 13)) (rotr (nth v 0) 22) +
    bits .xor .u32 (bits .xor .u32 (bits .and .u32 (nth v 0) (nth v 1)) (bits .and .u32 (nth v 0) (nth v 2))) (bits .and .u32 (nth v 1) (nth v 2))
def rnd (kk W v : List Int) (i : Nat) : List Int :=
  [(rt kk W v i + ru v) % 4294967296,nth v 0,nth v 1,nth v 2,(nth v 3 + rt kk W v i) % 4294967296,nth v 4,nth v 5,nth v 6]
def rounds (kk W v : List Int) : Nat → List Int
  | 0 => v
  | n + 1 => rnd kk W (rounds kk W v n) n
theorem rounds_length (kk W v : List Int) (n : Nat) (h : v.length = 8) : (rounds kk W v n).length = 8:=by
  cases n with
  | zero => exact h
  | succ n => rfl
theorem set8 {k : IntKind} {T : TypeId} {w : World} {b : Nat} {l : List Int} (h : IBlk k T w b l) (hl : l.length = 8) (x0 x1 x2 x3 x4 x5 x6 x7 : Int) :
    IBlk k T ((((((((w.setCell ⟨b,0,none⟩ (.int k x0)).setCell ⟨b,1,none⟩ (.int k x1)).setCell ⟨b,2,none⟩ (.int k x2)).setCell ⟨b,3,none⟩ (.int k x3)).setCell ⟨b,4,none⟩ (.int k x4)).setCell ⟨b,5,none⟩ (.int k x5)).setCell ⟨b,6,none⟩ (.int k x6)).setCell ⟨b,7,none⟩ (.int k x7)) b [x0,x1,x2,x3,x4,x5,x6,x7]:=by
  have:=(((((((h.set 0 x0).set 1 x1).set 2 x2).set 3 x3).set 4 x4).set 5 x5).set 6 x6).set 7 x7
  match l,hl with
  | [a,b,c,d,e,f,g,i],_ => exact this
theorem oth8 {K : Nat → Prop} {w w' : World} {b : Nat} (h : Keep K w w') (hK : ¬ K b) (x0 x1 x2 x3 x4 x5 x6 x7 : Value) :
    Keep K w ((((((((w'.setCell ⟨b,0,none⟩ x0).setCell ⟨b,1,none⟩ x1).setCell ⟨b,2,none⟩ x2).setCell ⟨b,3,none⟩ x3).setCell ⟨b,4,none⟩ x4).setCell ⟨b,5,none⟩ x5).setCell ⟨b,6,none⟩ x6).setCell ⟨b,7,none⟩ x7) :=
  (((((((h.setCell hK x0).setCell hK x1).setCell hK x2).setCell hK x3).setCell hK x4).setCell hK x5).setCell hK x6).setCell hK x7
def addInto (st v : List Int) : Nat → List Int
  | 0 => st
  | n + 1 => (addInto st v n).set n ((nth (addInto st v n) n + nth v n) % 4294967296)
theorem addInto_length (st v : List Int) (n : Nat) : (addInto st v n).length = st.length:=by
  induction n with
  | zero => rfl
  | succ n ih => rw [addInto,List.length_set,ih]
def compress (kk by_ st : List Int) : List Int:=addInto st (rounds kk (sched (load by_ 16) 48) st 64) 8
set_option maxRecDepth 100000 in
set_option maxHeartbeats 1000000 in
theorem take_any (bs bb ob n cap bk : Nat) (st by_ kk : List Int) (T T' : TypeId) (w : World) (hn : 64 ≤ n) (hn2 : n ≤ 9223372036854775807) (hcap : n ≤ cap)
    (hbb : bb < w.heap.size) 
    (hst : IBlk .u32 T w bs st) (hby : Row .u8 w bb ob by_) (hkk : IBlk .u32 T' w bk kk) (hl1 : st.length = 8) (hl2 : 64 ≤ by_.length) (hl3 : kk.length = 64) :
    Calls Tryz.prog 116 #[.pointer (some ⟨bs,0,none⟩),.slice (some ⟨bb,ob,none⟩) n cap,.pointer (some ⟨bk,0,none⟩)] w
      fun e w' => e = .returned (.tuple #[]) ∧ IBlk .u32 T w' bs (compress kk by_ st) ∧ Keep (fun k => k < w.heap.size ∧ k ≠ bs) w w':=by
  have hbs:=hst.lt;have hbk:=hkk.lt
  go_enter Tryz.func116,Tryz.ntmps116
  go_wp2
  have hW : IBlk .u32 173 (w.alloc (.cells ((List.replicate 64 (0:Int)).map (Value.int .u32)).toArray 173)) w.heap.size (load by_ 0):=VBlk.mk w _ _;have hB : Below w.heap.size w (w.alloc (.cells ((List.replicate 64 (0:Int)).map (Value.int .u32)).toArray 173)):=(Below.refl _ _).alloc (Nat.le_refl _) _;simp only [List.replicate,List.map] at hW hB;generalize w.alloc _ = w1 at hW hB ⊢
  go_loopw [20] (fun c wr => ∃ i : Nat,i ≤ 16 ∧ c = .int .i64 i ∧ IBlk .u32 173 wr w.heap.size (load by_ i) ∧ Below w.heap.size w wr)
    (fun c _ => 16 - (intOf c).toNat)
  case atStart => exact ⟨0,by omega,rfl,hW,hB⟩
  case round =>
    obtain ⟨i,hi,rfl,hWr,hBr⟩:=hrel;have hlw:=load_length by_ i
    by_cases h16 : i < 16
    · have hbyr:=hby.below hBr hbb
      have c0:=hWr.cell i (by omega);have f0:=hWr.free i
      go_wp2_with (go_at_call 118;refine (word_any bb (ob + 4 * i) _ _ _ _ _ _ _ (by omega) (hbyr.at (4 * i) (by omega)) (hbyr.at' (4 * i + 1) _ (by omega) (by omega)) (hbyr.at' (4 * i + 2) _ (by omega) (by omega)) (hbyr.at' (4 * i + 3) _ (by omega) (by omega))).mono ?_;rintro e w' ⟨rfl,nq,rfl⟩)
      go_roundw
      case rel => exact ⟨i + 1,by omega,by go_num,(hWr.drewN nq).set _ _,(hBr.trans (Keep.below ((Keep.refl _ _).drewN nq))).setCell (Nat.le_refl _) _⟩
      case measure => simp [intOf];omega
    · have e16 : i = 16:=by omega
      have hWf : IBlk .u32 173 wr w.heap.size (load by_ 16):=by rw [← e16];exact hWr
      clear e16 hWr
      go_wp2
      go_loopw [8] (fun c wr => ∃ i : Nat,i ≤ 48 ∧ c = .int .i64 (16 + (i : Int)) ∧ IBlk .u32 173 wr w.heap.size (sched (load by_ 16) i) ∧ Below w.heap.size w wr)
        (fun c _ => 64 - (intOf c).toNat)
      case atStart => exact ⟨0,by omega,rfl,hWf,hBr⟩
      case round =>
        clear hWf hBr hlw;obtain ⟨i,hi2,rfl,hWr,hBr⟩:=hrel;have hlw:=(sched_length (load by_ 16) i).trans (load_length by_ 16)
        by_cases h48 : i < 48
        · have c0:=hWr.cell (16 + i) (by omega)
          have c1:=hWr.cell' (16 + i - 15) (i + 1) (by omega) (by omega);have c2:=hWr.cell' (16 + i - 2) (i + 14) (by omega) (by omega);have c3:=hWr.cell i (by omega);have c4:=hWr.cell' (16 + i - 7) (i + 9) (by omega) (by omega);have f0:=hWr.free (16 + i)
          go_wp2_with fail
          go_quiet (fail)
          go_wp2_with (go_at_call 119;refine (turn_any _ _ _ (by omega) (by omega)).mono ?_;rintro e w' ⟨rfl,rfl⟩)
          go_region
          go_wp2
          go_roundw
          case rel =>
            exact ⟨i + 1,by omega,by go_num,(hWr.drewN _).set _ _,((Keep.of_below hBr).drewN _).below.setCell (Nat.le_refl _) _⟩
          case measure => simp [intOf];omega
        · have e48 : i = 48:=by omega
          have hWf : IBlk .u32 173 wr w.heap.size (sched (load by_ 16) 48):=by rw [← e48];exact hWr
          clear e48 hWr hlw;have hstr : IBlk .u32 T wr bs st:=hst.below hBr hbs;have hkkr : IBlk .u32 T' wr bk kk:=hkk.below hBr hbk;have d0:=hstr.cell 0 (by omega);have d1:=hstr.cell 1 (by omega);have d2:=hstr.cell 2 (by omega);have d3:=hstr.cell 3 (by omega);have d4:=hstr.cell 4 (by omega);have d5:=hstr.cell 5 (by omega);have d6:=hstr.cell 6 (by omega);have d7:=hstr.cell 7 (by omega)
          go_wp2
          have hV:=mk8 wr st hl1;have hBz : w.heap.size < wr.heap.size:=hWf.lt;have hB2 : Below w.heap.size w _:=hBr.alloc (Nat.le_of_lt hBz) (.cells #[.int .u32 (nth st 0),.int .u32 (nth st 1),.int .u32 (nth st 2),.int .u32 (nth st 3),.int .u32 (nth st 4),.int .u32 (nth st 5),.int .u32 (nth st 6),.int .u32 (nth st 7)] 180);have hW2:=hWf.alloc (.cells #[.int .u32 (nth st 0),.int .u32 (nth st 1),.int .u32 (nth st 2),.int .u32 (nth st 3),.int .u32 (nth st 4),.int .u32 (nth st 5),.int .u32 (nth st 6),.int .u32 (nth st 7)] 180);generalize wr.alloc _ = w2 at hV hB2 hW2 ⊢;clear d0 d1 d2 d3 d4 d5 d6 d7 hWf hBr hstr hkkr;generalize wr.heap.size = Bv at hV hBz ⊢;have hlW : (sched (load by_ 16) 48).length = 64:=(sched_length (load by_ 16) 48).trans (load_length by_ 16);obtain ⟨W,hWW⟩ : ∃ W,W = sched (load by_ 16) 48:=⟨_,rfl⟩;rw [← hWW] at hW2 hlW;have HW:=Lib.hid hWW;clear hWW
          go_loopw [77] (fun c wr => ∃ i : Nat,i ≤ 64 ∧ c = .int .i64 i ∧ IBlk .u32 173 wr w.heap.size W ∧ IBlk .u32 180 wr Bv (rounds kk W st i) ∧ Below w.heap.size w wr)
            (fun c _ => 64 - (intOf c).toNat)
          case atStart => exact ⟨0,by omega,rfl,hW2,hV,hB2⟩
          case round =>
            clear hW2 hV hB2;obtain ⟨r,hr,rfl,hWr,hVr,hBr⟩:=hrel;have hlv:=rounds_length kk W st r hl1;obtain ⟨v,hvv⟩ : ∃ v,v = rounds kk W st r:=⟨_,rfl⟩;rw [← hvv] at hVr hlv;have Hv:=Lib.hid hvv;clear hvv
            by_cases hr64 : r < 64
            · have hkkr : IBlk .u32 T' wr bk kk:=hkk.below hBr hbk
              have d0:=hVr.cell 0 (by omega);have d1:=hVr.cell 1 (by omega);have d2:=hVr.cell 2 (by omega);have d3:=hVr.cell 3 (by omega);have d4:=hVr.cell 4 (by omega);have d5:=hVr.cell 5 (by omega);have d6:=hVr.cell 6 (by omega);have d7:=hVr.cell 7 (by omega);have f0:=hVr.free;have k0:=hkkr.cell r (by omega);have w0:=hWr.cell r (by omega)
              go_wp2_with fail
              go_quiet (fail)
              go_wp2_with fail
              go_quiet ((go_at_call 119;exact quiet_add_left (turn_any _ _ _ (by omega) (by omega))))
              go_wp2_with fail
              go_quiet ((go_at_call 119;exact quiet_add_left (turn_any _ _ _ (by omega) (by omega))))
              go_wp2
              go_roundw
              case rel =>
                refine ⟨r + 1,by omega,by go_num,hWr.keep (oth8 ((Keep.refl (fun k => k < Bv) wr).drewN _) (Nat.lt_irrefl _) _ _ _ _ _ _ _ _) hBz,?_,?_⟩
                · rw [rounds,← Hv.out]
                  exact set8 (hVr.drewN _) hlv _ _ _ _ _ _ _ _
                · exact (oth8 ((Keep.of_below hBr).drewN _) (Nat.not_lt.2 (Nat.le_of_lt hBz)) _ _ _ _ _ _ _ _).below
              case measure => simp [intOf];omega
            · have e64 : r = 64:=by omega
              have hVf : IBlk .u32 180 wr Bv (rounds kk W st 64):=by rw [← e64,← Hv.out];exact hVr
              have hstr : IBlk .u32 T wr bs st:=hst.below hBr hbs;have hl8:=rounds_length kk W st 64 hl1;have hres : compress kk by_ st = addInto st (rounds kk W st 64) 8:=by rw [HW.out];rfl
              have Hres:=Lib.hid hres;clear hres e64 hVr hWr hlv Hv HW hlW;obtain ⟨z,hz⟩ : ∃ z,z = rounds kk W st 64:=⟨_,rfl⟩;rw [← hz] at hVf hl8;have Hz:=Lib.hid hz;clear hz;have hBz2 : Keep (fun k => k < w.heap.size ∧ k ≠ bs) w wr:=(Keep.of_below hBr).mono fun _ h => h.1
              go_wp2
              go_loopw [161] (fun c wr => ∃ i : Nat,i ≤ 8 ∧ c = .int .i64 i ∧ IBlk .u32 180 wr Bv z ∧ IBlk .u32 T wr bs (addInto st z i) ∧ Keep (fun k => k < w.heap.size ∧ k ≠ bs) w wr)
                (fun c _ => 8 - (intOf c).toNat)
              case atStart => exact ⟨0,by omega,rfl,hVf,hstr,hBz2⟩
              case round =>
                clear hVf hstr hBz2 hBr;obtain ⟨q,hq,rfl,hVr,hSr,hKr⟩:=hrel;have hls:=(addInto_length st z q).trans hl1
                by_cases h8 : q < 8
                · have s0:=hSr.cell q (by omega)
                  have v0:=hVr.cell q (by omega);have f0:=hSr.free q
                  go_wp2_with fail
                  go_region
                  go_wp2
                  go_roundw
                  case rel =>
                    refine ⟨q + 1,by omega,by go_num,?_,?_,?_⟩
                    · exact hVr.other _ _ (by show Bv ≠ bs;omega)
                    · exact hSr.set _ _
                    · exact (hKr.setCell (fun h => h.2 rfl) _).drewN 1
                  case measure => simp [intOf];omega
                · have e8 : q = 8:=by omega
                  have hSf : IBlk .u32 T wr bs (compress kk by_ st):=by rw [Hres.out,← Hz.out,← e8];exact hSr
                  clear e8 hSr hVr Hres Hz hls
                  go_wp2
                  go_end0
                  exact ⟨rfl,hSf,hKr⟩
end Dig
namespace Dig
def K : List Int:=[
  0x428a2f98,0x71374491,0xb5c0fbcf,0xe9b5dba5,0x3956c25b,0x59f111f1,0x923f82a4,0xab1c5ed5,
  0xd807aa98,0x12835b01,0x243185be,0x550c7dc3,0x72be5d74,0x80deb1fe,0x9bdc06a7,0xc19bf174,
  0xe49b69c1,0xefbe4786,0x0fc19dc6,0x240ca1cc,0x2de92c6f,0x4a7484aa,0x5cb0a9dc,0x76f988da,
  0x983e5152,0xa831c66d,0xb00327c8,0xbf597fc7,0xc6e00bf3,0xd5a79147,0x06ca6351,0x14292967,
  0x27b70a85,0x2e1b2138,0x4d2c6dfc,0x53380d13,0x650a7354,0x766a0abb,0x81c2c92e,0x92722c85,
  0xa2bfe8a1,0xa81a664b,0xc24b8b70,0xc76c51a3,0xd192e819,0xd6990624,0xf40e3585,0x106aa070,
  0x19a4c116,0x1e376c08,0x2748774c,0x34b0bcb5,0x391c0cb3,0x4ed8aa4a,0x5b9cca4f,0x682e6ff3,
  0x748f82ee,0x78a5636f,0x84c87814,0x8cc70208,0x90befffa,0xa4506ceb,0xbef9a3f7,0xc67178f2]
set_option maxRecDepth 100000 in
set_option maxHeartbeats 1000000 in
theorem numbers_any (w : World) :
    Calls Tryz.prog 115 #[] w fun e w' => e = .returned (.agg (K.map (Value.int .u32)).toArray) ∧ Below w.heap.size w w':=by
  go_enter Tryz.func115,Tryz.ntmps115
  go_wp2_with (first | (refine wpList_build_to rfl 173 _ rfl (K.map (Value.int .u32)).toArray (by kernel_rfl) ?_) | (refine wpList_store_row rfl 173 _ _ rfl w.heap.size (K.map (Value.int .u32)).toArray rfl rfl 173 _ (heap_alloc_new _ _) (by kernel_rfl) (by kernel_rfl) (by kernel_rfl) ?_))
  refine bodyPost_ret (results_cell_row rfl _ _ w.heap.size 173 (K.map (Value.int .u32)).toArray (0,0) _ rfl (setRow_heap _ _ _ _ _ _ (heap_alloc_new _ _)) Tryz.underlying173 rfl (by kernel_rfl)) rfl ⟨rfl,?_⟩;exact below_setRow ((Below.refl _ _).alloc (Nat.le_refl _) _) (Nat.le_refl _) _
end Dig
namespace Dig
def H0 : List Int:=[0x6a09e667,0xbb67ae85,0x3c6ef372,0xa54ff53a,0x510e527f,0x9b05688c,0x1f83d9ab,0x5be0cd19]
def absorb (l st : List Int) : Nat → List Int
  | 0 => st
  | j + 1 => compress K (l.drop (64 * j)) (absorb l st j)
theorem compress_length (kk by_ st : List Int) : (compress kk by_ st).length = st.length:=addInto_length st _ 8
theorem absorb_length (l st : List Int) (j : Nat) : (absorb l st j).length = st.length:=by
  induction j with
  | zero => rfl
  | succ j ih => rw [absorb,compress_length,ih]
def putLen (p : List Int) (e n : Nat) : Nat → List Int
  | 0 => p
  | i + 1 => (putLen p e n i).set (e - 1 - i) ((n : Int) * 8 / 2 ^ (8 * i) % 256)
theorem putLen_length (p : List Int) (e n i : Nat) : (putLen p e n i).length = p.length:=by
  induction i with
  | zero => rfl
  | succ i ih => rw [putLen,List.length_set,ih]
def outH (st : List Int) : Nat → List Int
  | 0 => List.replicate 32 0
  | i + 1 => ((((outH st i).set (4 * i) (nth st i / 16777216 % 256)).set (4 * i + 1) (nth st i / 65536 % 256)).set (4 * i + 2) (nth st i / 256 % 256)).set (4 * i + 3) (nth st i % 256)
theorem outH_length (st : List Int) (i : Nat) : (outH st i).length = 32:=by
  induction i with
  | zero => rfl
  | succ i ih => simp [outH,ih]
def sumL (l : List Int) : List Int :=
  let j:=l.length / 64
  let rl:=l.drop (64 * j)
  let p0:=(rl ++ List.replicate (128 - rl.length) 0).set rl.length 128
  outH (if 56 ≤ rl.length then absorb (putLen p0 128 l.length 8) (absorb l H0 j) 2 else absorb (putLen p0 64 l.length 8) (absorb l H0 j) 1) 8
theorem sumL_length (l : List Int) : (sumL l).length = 32:=outH_length _ _
theorem Tryz.infoU32 : (Tryz.prog.info? 171).map (fun i => (i.zero,i.size,i.bytes)) = some (some (.int .u32 0),1,4):=by kernel_rfl
theorem pick8 (st : List Int) (i : Nat) (h : i < 8) :
    (#[.int .u32 (nth st 0),.int .u32 (nth st 1),.int .u32 (nth st 2),.int .u32 (nth st 3),.int .u32 (nth st 4),.int .u32 (nth st 5),.int .u32 (nth st 6),.int .u32 (nth st 7)] : Array Value)[i]? = some (.int .u32 (nth st i)):=by
  match i,h with
  | 0,_ => rfl
  | 1,_ => rfl
  | 2,_ => rfl
  | 3,_ => rfl
  | 4,_ => rfl
  | 5,_ => rfl
  | 6,_ => rfl
  | 7,_ => rfl
theorem index42 (st : List Int) (i : Nat) (h : i < 8) (W : World) :
    (Instr.index 180 (.agg #[.int .u32 (nth st 0),.int .u32 (nth st 1),.int .u32 (nth st 2),.int .u32 (nth st 3),.int .u32 (nth st 4),.int .u32 (nth st 5),.int .u32 (nth st 6),.int .u32 (nth st 7)]) (.int .i64 (i : Int))).run Tryz.prog W = .ok (.int .u32 (nth st i)) W:=by
  obtain ⟨it,hit,-,hit2,-⟩:=info_parts Tryz.infoU32;exact run_index_arr W _ _ 8 _ it Tryz.underlying180 hit hit2 Tryz.underlying171 rfl _ .i64 i h _ (pick8 st i h)
def Z128 : List Value:=List.replicate 128 (.int .u8 0)
theorem zero47 (w : World) : (zeroValue 182).run Tryz.prog w = .ok (.agg Z128.toArray) w:=by kernel_rfl
set_option maxRecDepth 100000 in
set_option maxHeartbeats 1000000 in
theorem sum_any (v : Value) (l : List Int) (w : World) (hv : Sl .u8 w v l) (hn : l.length ≤ 1152921504606846975) :
    Calls Tryz.prog 110 #[v] w fun e w' => e = .returned (.agg ((sumL l).map (Value.int .u8)).toArray) ∧ Below w.heap.size w w':=by
  obtain ⟨sp,cap,rfl,hc1,hc2,hrow,-⟩:=hv
  go_enter Tryz.func110,Tryz.ntmps110
  go_wp2_with fail
  refine (numbers_any _).mono ?_;rintro e w1 ⟨rfl,hb1⟩;obtain ⟨hB0,hB1,hb,hsz⟩:=two_alloc hb1;clear hb1
  go_wp2_with (refine wpList_store_row rfl 173 _ _ rfl w1.heap.size (K.map (Value.int .u32)).toArray rfl rfl 173 _ (heap_alloc_new _ _) (by kernel_rfl) (by kernel_rfl) (by kernel_rfl) ?_)
  have hKb:=setRow_heap _ w1.heap.size _ (K.map (Value.int .u32)).toArray 173 (0,0) (heap_alloc_new w1 (.cells ((List.replicate 64 (0 : Int)).map (Value.int .u32)).toArray 173));have hkeep : Below w1.heap.size w1 ((w1.alloc (.cells ((List.replicate 64 (0 : Int)).map (Value.int .u32)).toArray 173)).setRow w1.heap.size (K.map (Value.int .u32)).toArray) :=
    below_setRow ((Below.refl _ _).alloc (Nat.le_refl _) _) (Nat.le_refl _) _
  simp only [List.replicate,List.map_cons,List.map_nil] at hKb hkeep;generalize World.setRow _ _ _ = w2 at hKb hkeep ⊢;have hz2 : w1.heap.size < w2.heap.size:=lt_of_block hKb;have hKk : IBlk .u32 173 w2 w1.heap.size K:=hKb;have hHh : IBlk .u8 30 w2 w.heap.size (List.replicate 32 0):=(hkeep.block w.heap.size (by omega)).trans hB0;have hSs : IBlk .u32 180 w2 (w.heap.size + 1) H0:=(hkeep.block (w.heap.size + 1) (by omega)).trans hB1;have hbel : Below w.heap.size w w2:=hb.trans (hkeep.mono (by omega));clear hKb hkeep hB0 hB1;obtain ⟨BK,hBK⟩ : ∃ BK,BK = w1.heap.size:=⟨_,rfl⟩;rw [← hBK] at hKk hz2 hsz ⊢;clear hBK hb;have hrow0 : 0 < l.length → ∃ b o,sp = some ⟨b,o,none⟩ ∧ b < w.heap.size ∧ Row .u8 w b o (l.drop (64 * 0)):=hrow
  go_loopw [5] (fun r wr => ∃ j m sq rc,m + 64 * j = l.length ∧ m ≤ rc ∧ rc ≤ 9223372036854775807 ∧ r = .slice sq m rc ∧
      (0 < m → ∃ b o,sq = some ⟨b,o,none⟩ ∧ b < w.heap.size ∧ Row .u8 w b o (l.drop (64 * j))) ∧
      IBlk .u32 173 wr BK K ∧ IBlk .u8 30 wr w.heap.size (List.replicate 32 0) ∧ IBlk .u32 180 wr (w.heap.size + 1) (absorb l H0 j) ∧ Below w.heap.size w wr)
    (fun r _ => lenOf r)
  case atStart => exact ⟨0,l.length,sp,cap,by omega,hc1,hc2,rfl,hrow0,hKk,hHh,hSs,hbel⟩
  case round =>
    clear hKk hHh hSs hbel hz2 hrow0;obtain ⟨j,m,sq,rc,hm,hrc1,hrc2,rfl,hsq,hKk,hHh,hSs,hbel⟩:=hrel;have hls : (absorb l H0 j).length = 8:=absorb_length l H0 j;have hbsz:=hbel.size
    by_cases h64 : 64 ≤ m
    · obtain ⟨b,o,rfl,hbw,hrw⟩:=hsq (by omega)
      have hrwr : Row .u8 wr b o (l.drop (64 * j)):=hrw.below hbel hbw;have hstep : ∀ w',IBlk .u32 180 w' (w.heap.size + 1) (compress K (l.drop (64 * j)) (absorb l H0 j)) → Keep (fun k => k < wr.heap.size ∧ k ≠ w.heap.size + 1) wr w' →
          IBlk .u32 173 w' BK K ∧ IBlk .u8 30 w' w.heap.size (List.replicate 32 0) ∧ IBlk .u32 180 w' (w.heap.size + 1) (absorb l H0 (j + 1)) ∧ Below w.heap.size w w':=by
        intro w' hS hKp;exact ⟨hKk.keep hKp ⟨hKk.lt,by omega⟩,hHh.keep hKp ⟨hHh.lt,by omega⟩,hS,hbel.trans (hKp.mono (fun k hk => ⟨by omega,by omega⟩)).below⟩
      have hdrop : 64 ≤ (l.drop (64 * j)).length:=by rw [List.length_drop];omega
      by_cases hcap : rc = 64
      · have hm64 : m = 64:=by omega
        subst hm64;subst hcap
        go_wp2_with fail
        refine (take_any (w.heap.size + 1) b o 64 64 BK (absorb l H0 j) (l.drop (64 * j)) K 180 173 _ (Nat.le_refl _) (by omega) (Nat.le_refl _) (by omega) hSs hrwr hKk hls hdrop rfl).mono ?_;rintro e w' ⟨rfl,hS',hK'⟩;have hfin:=hstep w' hS' hK';clear hstep hS' hK' hSs hKk hHh hbel hrwr hrw hsq
        go_wp2
        go_roundw
        case rel => exact ⟨j + 1,0,_,0,by omega,by omega,by omega,rfl,fun h => absurd h (by omega),hfin⟩
        case measure => simp [lenOf]
      · go_wp2_with fail
        refine (take_any (w.heap.size + 1) b o m rc BK (absorb l H0 j) (l.drop (64 * j)) K 180 173 _ h64 (by omega) hrc1 (by omega) hSs hrwr hKk hls hdrop rfl).mono ?_;rintro e w' ⟨rfl,hS',hK'⟩;have hfin:=hstep w' hS' hK';have hrw2 : Row .u8 w b (o + 64) (l.drop (64 * (j + 1))):=by
          have:=row_drop hrw 64;rw [List.drop_drop] at this;rwa [Nat.mul_add]
        clear hstep hS' hK' hSs hKk hHh hbel hrwr hrw hsq
        go_wp2
        go_roundw
        case rel => exact ⟨j + 1,m - 64,_,rc - 64,by omega,by omega,by omega,rfl,fun _ => ⟨b,o + 64,rfl,hbw,hrw2⟩,hfin⟩
        case measure => simp [lenOf];omega
    · have hml : m < 64:=by omega
      have hrl : (l.drop (64 * j)).length = m:=by rw [List.length_drop];omega
      obtain ⟨rl,hrl2⟩ : ∃ rl,rl = l.drop (64 * j):=⟨_,rfl⟩;rw [← hrl2] at hsq hrl;have Hrl:=Lib.hid hrl2;clear hrl2;have hZ : VBlk 182 (wr.alloc (.cells Z128.toArray 182)) wr.heap.size Z128:=VBlk.mk wr _ _;have hZk : Below wr.heap.size wr (wr.alloc (.cells Z128.toArray 182)):=(Below.refl _ _).alloc (Nat.le_refl _) _;obtain ⟨cs,hcs⟩ : ∃ cs,cs = rl.map (Value.int .u8):=⟨_,rfl⟩;have Hcs:=Lib.hid hcs;have hcl : cs.length = m:=by rw [hcs];simpa using hrl
      have hcone : ∀ v ∈ cs,v.oneCell' = true:=by rw [hcs];intro v hv;simp at hv;obtain ⟨_,_,rfl⟩:=hv;rfl
      have hsrc : 0 < cs.length → some (⟨wr.heap.size,0,none⟩ : Addr) = some ⟨wr.heap.size,0,none⟩ ∧ ∃ ad,sq = some ad ∧ ∀ j v,cs[j]? = some v → wr.cell? (ad.add j) = some v:=by
        intro h0;refine ⟨rfl,?_⟩;obtain ⟨b,o,hsq',hbw,hr⟩:=hsq (by omega);refine ⟨_,hsq',fun i v hv => ?_⟩;rw [hcs] at hv;have hi : i < rl.length:=by
          rcases Nat.lt_or_ge i rl.length with h | h
          · exact h
          · simp [h] at hv
        have:=(hr.below hbel hbw) i hi;rw [addr_add,this]
        simpa [nth,hi] using hv
      clear hcs;have hsrc2 : 0 < cs.length → ∃ ad,sq = some ad ∧ ∀ j v,cs[j]? = some v → (wr.alloc (.cells Z128.toArray 182)).cell? (ad.add j) = some v:=by
        intro h0;obtain ⟨_,ad,e,h⟩:=hsrc h0;exact ⟨ad,e,fun j v hv => by have:=h j v hv;rw [← this];exact World.cell?_alloc_lt _ _ _ (block_lt_of_cell this)⟩
      clear hsrc;have HCL:=Lib.hid hcl;clear hcl;have hz47 : ∀ w : World,(zeroValue 182).run Tryz.prog w = .ok (.agg Z128.toArray) w:=zero47
      go_wp2_with (refine wpList_copy_splice rfl (.tmp 24) (.tmp 25) 119 119 rfl 5 Tryz.underlying119 (by kernel_rfl) _ _ _ _ _ _ rfl rfl wr.heap.size 0 Z128 182 hZ cs ?hn ?hpos ?hfit hcone wr.heap.size wr hZk (Nat.le_refl _) ?hh)
      case hn => rw [HCL.out];exact (Nat.min_eq_left (by omega)).symm
      case hpos => first | exact fun h => ⟨rfl,hsrc2 h⟩ | exact hsrc2
      case hfit => rw [HCL.out];show 0 + m ≤ 128;omega
      case hh =>
        intro w3 HG3 hB3;rw [HCL.out];have hL : IBlk .u8 182 w3 wr.heap.size (rl ++ List.replicate (128 - m) 0):=by
          have e : splice Z128 0 cs = (rl ++ List.replicate (128 - m) 0).map (Value.int .u8):=by
            rw [splice_zero _ _ (by rw [HCL.out];show m ≤ 128;omega),HCL.out,Hcs.out];rw [List.map_append,List.map_replicate];unfold Z128;rw [List.drop_replicate]
          have:=HG3.out;rw [e] at this;exact this
        have hKk3:=hKk.below hB3 hKk.lt;have hHh3:=hHh.below hB3 hHh.lt;have hSs3:=hSs.below hB3 hSs.lt;have hbel3 : Below w.heap.size w w3:=hbel.trans (hB3.mono hbsz);have hBLK : BK ≠ wr.heap.size:=by have:=hKk.lt;omega
        have hBLS : w.heap.size + 1 < wr.heap.size:=hSs.lt;obtain ⟨BL,hBL⟩ : ∃ BL,BL = wr.heap.size:=⟨_,rfl⟩;rw [← hBL] at hL hBLK hBLS ⊢;clear hBL HG3 hB3 hKk hHh hSs hbel hbsz hsrc2 hZ hZk hcone Hcs HCL hz47 hsq;have hLl : (rl ++ List.replicate (128 - m) 0).length = 128:=by simp [hrl];omega
        have c0:=hL.cell m (by omega);have f0:=hL.free m
        by_cases h56 : 56 ≤ m
        · have h56i : (56 : Int) ≤ (m : Int):=by omega
          go_wp2_with fail
          have hP0:=hL.set m 128;have hk4 : Keep (fun k => k ≠ BL) w3 (w3.setCell ⟨BL,m,none⟩ (.int .u8 128)):=(Keep.refl _ _).setCell (fun h => h rfl) _;generalize World.setCell _ _ _ = w4 at hP0 hk4 ⊢;have hKk4:=hKk3.keep hk4 hBLK;have hHh4:=hHh3.keep hk4 (by omega);have hSs4:=hSs3.keep hk4 (by omega);have hbel4 : Below w.heap.size w w4:=hbel3.trans (hk4.mono (fun k (hk : k < w.heap.size) => by omega)).below;clear hKk3 hHh3 hSs3 hbel3 hk4 hL hLl c0 f0;obtain ⟨p0,hp0⟩ : ∃ p0,p0 = (rl ++ List.replicate (128 - m) 0).set m 128:=⟨_,rfl⟩;rw [← hp0] at hP0;have hpl : p0.length = 128:=by rw [hp0];simp [hrl];omega
          have Hp0:=Lib.hid hp0;clear hp0
          go_loopw [35] (fun c wr => ∃ i : Nat,i ≤ 8 ∧ c = .int .i64 i ∧ IBlk .u8 182 wr BL (putLen p0 128 l.length i) ∧ Keep (fun k => k ≠ BL) w4 wr) (fun c _ => 8 - (intOf c).toNat)
          case atStart => exact ⟨0,by omega,rfl,hP0,Keep.refl _ _⟩
          case round =>
            clear hP0;obtain ⟨i,hi,rfl,hPr,hKr⟩:=hrel;have hql : (putLen p0 128 l.length i).length = 128:=(putLen_length p0 128 l.length i).trans hpl
            by_cases h8 : i < 8
            · have c0:=hPr.cell (127 - i) (by omega)
              have f0:=hPr.free (127 - i)
              go_wp2_with fail
              go_roundw
              case rel => exact ⟨i + 1,by omega,by go_num,hPr.set _ _,hKr.setCell (fun h => h rfl) _⟩
              case measure => simp [intOf];omega
            · have e8 : i = 8:=by omega
              rw [e8] at hPr hql;clear e8;have hKk5:=hKk4.keep hKr hBLK;have hHh5:=hHh4.keep hKr (by omega);have hSs5:=hSs4.keep hKr (by omega);have hbel5 : Below w.heap.size w wr:=hbel4.trans (hKr.mono (fun k (hk : k < w.heap.size) => by omega)).below;obtain ⟨PL,hPL⟩ : ∃ PL,PL = putLen p0 128 l.length 8:=⟨_,rfl⟩;rw [← hPL] at hPr hql;have HPL:=Lib.hid hPL;clear hKk4 hHh4 hSs4 hbel4 hKr hPL;obtain ⟨S0,hS0⟩ : ∃ S0,S0 = absorb l H0 j:=⟨_,rfl⟩;rw [← hS0] at hSs5 hls;have HS0:=Lib.hid hS0;clear hS0;obtain ⟨w5,hw5⟩ : ∃ w5,w5 = wr:=⟨_,rfl⟩;rw [← hw5] at hKk5 hHh5 hSs5 hbel5 hPr ⊢;clear hw5
              go_wp2_with fail
              go_loopw [11] (fun c wr => ∃ i : Nat,i ≤ 2 ∧ c = .int .i64 (64 * (i : Int)) ∧ IBlk .u32 180 wr (w.heap.size + 1) (absorb PL S0 i) ∧ Keep (fun k => k < w5.heap.size ∧ k ≠ w.heap.size + 1) w5 wr) (fun c _ => 128 - (intOf c).toNat)
              case atStart => exact ⟨0,by omega,rfl,hSs5,Keep.refl _ _⟩
              case round =>
                clear hSs5;obtain ⟨q,hq,rfl,hSr,hKr⟩:=hrel;have hsl : (absorb PL S0 q).length = 8:=(absorb_length PL S0 q).trans hls;have hPq:=hPr.keep hKr ⟨hPr.lt,by omega⟩;have hKq:=hKk5.keep hKr ⟨hKk5.lt,by omega⟩
                by_cases hqn : q < 2
                · have hrow:=row_drop hPq.row (64 * q)
                  rw [Nat.zero_add] at hrow;have hdl : 64 ≤ (PL.drop (64 * q)).length:=by rw [List.length_drop];omega
                  have b0 : 0 ≤ 64 * (q : Int):=by omega
                  have b1 : 64 * (q : Int) ≤ 128:=by omega
                  go_wp2_with fail
                  refine (take_any (w.heap.size + 1) BL (64 * q) (128 - 64 * q) (128 - 64 * q) BK (absorb PL S0 q) (PL.drop (64 * q)) K 180 173 _ (by omega) (by omega) (by omega) hPq.lt hSr hrow hKq hsl hdl rfl).mono ?_;rintro e w' ⟨rfl,hS',hK'⟩;have hsz':=hKr.size;have hK2 : Keep (fun k => k < w5.heap.size ∧ k ≠ w.heap.size + 1) w5 w':=hKr.trans (hK'.mono (fun k hk => ⟨Nat.lt_of_lt_of_le hk.1 hsz',hk.2⟩));have hS2 : IBlk .u32 180 w' (w.heap.size + 1) (absorb PL S0 (q + 1)):=hS';clear hS' hK' hKr hSr hPq hKq hrow
                  go_wp2_with fail
                  go_roundw
                  case rel => exact ⟨q + 1,by omega,by go_num,hS2,hK2⟩
                  case measure => simp [intOf];omega
                · have eq2 : q = 2:=by omega
                  rw [eq2] at hSr hsl;clear eq2;have hHq:=hHh5.keep hKr ⟨hHh5.lt,by omega⟩;have hbelq : Below w.heap.size w wr:=hbel5.trans (hKr.mono (fun k (hk : k < w.heap.size) => ⟨Nat.lt_of_lt_of_le hk hbel5.size,by omega⟩)).below;obtain ⟨st,hst⟩ : ∃ st,st = absorb PL S0 2:=⟨_,rfl⟩;rw [← hst] at hSr hsl;have hres : sumL l = outH st 8:=by
                    have ej : j = l.length / 64:=by omega
                    have erl : l.drop (64 * j) = rl:=Hrl.out.symm;unfold sumL;simp only [← ej,erl,hrl];rw [hst,HPL.out,Hp0.out,HS0.out]
                    first | (rw [if_pos h56]) | (rw [if_neg h56])
                  have Hres:=Hid2.mk hres;clear hres hst hPq hKq hKr hPr hKk5 hHh5 hbel5;obtain ⟨w6,hw6⟩ : ∃ w6,w6 = wr:=⟨_,rfl⟩;rw [← hw6] at hSr hHq hbelq ⊢;clear hw6;have hgS : w6.heap[w.heap.size + 1]? = some (.cells (st.map (Value.int .u32)).toArray 180 (0,0)):=hSr;have d0:=hSr.cell 0 (by omega);have d1:=hSr.cell 1 (by omega);have d2:=hSr.cell 2 (by omega);have d3:=hSr.cell 3 (by omega);have d4:=hSr.cell 4 (by omega);have d5:=hSr.cell 5 (by omega);have d6:=hSr.cell 6 (by omega);have d7:=hSr.cell 7 (by omega);clear hgS
                  go_wp2_with fail
                  clear d0 d1 d2 d3 d4 d5 d6 d7
                  go_loopw [58] (fun c wr => ∃ i : Nat,i ≤ 8 ∧ c = .int .i64 i ∧ IBlk .u8 30 wr w.heap.size (outH st i) ∧ Keep (fun k => k ≠ w.heap.size) w6 wr) (fun c _ => 8 - (intOf c).toNat)
                  case atStart => exact ⟨0,by omega,rfl,hHq,Keep.refl _ _⟩
                  case round =>
                    clear hHq hSr;obtain ⟨i,hi,rfl,hOr,hKr⟩:=hrel;have hol:=outH_length st i
                    by_cases hi8 : i < 8
                    · have c0:=hOr.cell (4 * i) (by omega)
                      have c1:=hOr.cell (4 * i + 1) (by omega);have c2:=hOr.cell (4 * i + 2) (by omega);have c3:=hOr.cell (4 * i + 3) (by omega);have f0:=hOr.free (4 * i);have f1:=hOr.free (4 * i + 1);have f2:=hOr.free (4 * i + 2);have f3:=hOr.free (4 * i + 3);have hix:=index42 st i hi8
                      go_wp2_with fail
                      go_roundw
                      case rel => exact ⟨i + 1,by omega,by go_num,(((hOr.set _ _).set _ _).set _ _).set _ _,(((hKr.setCell (fun h => h rfl) _).setCell (fun h => h rfl) _).setCell (fun h => h rfl) _).setCell (fun h => h rfl) _⟩
                      case measure => simp [intOf];omega
                    · have e9 : i = 8:=by omega
                      rw [e9] at hOr;clear e9;obtain ⟨hh,hhe⟩ : ∃ hh,hh = sumL l:=⟨_,rfl⟩;have hsl32 : hh.length = 32:=by rw [hhe];exact sumL_length l
                      rw [← Hres.out,← hhe] at hOr;have Hhe:=Hid2.mk hhe;clear hhe;have hg0 : wr.heap[w.heap.size]? = some (.cells (hh.map (Value.int .u8)).toArray 30 (0,0)):=hOr;have hbelf : Below w.heap.size w wr:=hbelq.trans (hKr.mono (fun k (hk : k < w.heap.size) => by omega)).below;clear hOr hol hKr Hres hbelq;have hi25 : (Tryz.prog.info? 30).map (·.size) = some (hh.map (Value.int .u8)).toArray.size:=by
                        rw [List.size_toArray,List.length_map,hsl32];kernel_rfl
                      have hone : (hh.map (Value.int .u8)).toArray.all (·.oneCell') = true:=by simp [Value.oneCell']
                      have Hi25:=Hid2.mk hi25;have Hone:=Hid2.mk hone;have Hg0:=Hid2.mk hg0;clear hi25 hone hg0 hsl32
                      go_wp2_with (first | (refine wpList_load_row rfl 30 (.tmp 2) rfl w.heap.size rfl 30 (hh.map (Value.int .u8)).toArray (0,0) _ Hg0.out Tryz.underlying30 rfl Hi25.out ?_) | (refine wpList_store_row rfl 30 (.tmp 2) (.tmp 89) rfl w.heap.size (hh.map (Value.int .u8)).toArray rfl rfl 30 (hh.map (Value.int .u8)).toArray Hg0.out Hi25.out rfl Hone.out ?_))
                      refine bodyPost_ret (results_cell_row rfl _ _ w.heap.size 30 (hh.map (Value.int .u8)).toArray (0,0) _ rfl (setRow_heap _ _ _ _ _ _ Hg0.out) Tryz.underlying30 rfl Hi25.out) rfl ⟨by rw [Hhe.out],?_⟩;exact below_setRow hbelf (Nat.le_refl _) _
        · have h56i : decide ((56 : Int) ≤ (m : Int)) = false:=decide_eq_false (by omega)
          go_wp2_with fail
          have hP0:=hL.set m 128;have hk4 : Keep (fun k => k ≠ BL) w3 (w3.setCell ⟨BL,m,none⟩ (.int .u8 128)):=(Keep.refl _ _).setCell (fun h => h rfl) _;generalize World.setCell _ _ _ = w4 at hP0 hk4 ⊢;have hKk4:=hKk3.keep hk4 hBLK;have hHh4:=hHh3.keep hk4 (by omega);have hSs4:=hSs3.keep hk4 (by omega);have hbel4 : Below w.heap.size w w4:=hbel3.trans (hk4.mono (fun k (hk : k < w.heap.size) => by omega)).below;clear hKk3 hHh3 hSs3 hbel3 hk4 hL hLl c0 f0;obtain ⟨p0,hp0⟩ : ∃ p0,p0 = (rl ++ List.replicate (128 - m) 0).set m 128:=⟨_,rfl⟩;rw [← hp0] at hP0;have hpl : p0.length = 128:=by rw [hp0];simp [hrl];omega
          have Hp0:=Lib.hid hp0;clear hp0
          go_loopw [35] (fun c wr => ∃ i : Nat,i ≤ 8 ∧ c = .int .i64 i ∧ IBlk .u8 182 wr BL (putLen p0 64 l.length i) ∧ Keep (fun k => k ≠ BL) w4 wr) (fun c _ => 8 - (intOf c).toNat)
          case atStart => exact ⟨0,by omega,rfl,hP0,Keep.refl _ _⟩
          case round =>
            clear hP0;obtain ⟨i,hi,rfl,hPr,hKr⟩:=hrel;have hql : (putLen p0 64 l.length i).length = 128:=(putLen_length p0 64 l.length i).trans hpl
            by_cases h8 : i < 8
            · have c0:=hPr.cell (63 - i) (by omega)
              have f0:=hPr.free (63 - i)
              go_wp2_with fail
              go_roundw
              case rel => exact ⟨i + 1,by omega,by go_num,hPr.set _ _,hKr.setCell (fun h => h rfl) _⟩
              case measure => simp [intOf];omega
            · have e8 : i = 8:=by omega
              rw [e8] at hPr hql;clear e8;have hKk5:=hKk4.keep hKr hBLK;have hHh5:=hHh4.keep hKr (by omega);have hSs5:=hSs4.keep hKr (by omega);have hbel5 : Below w.heap.size w wr:=hbel4.trans (hKr.mono (fun k (hk : k < w.heap.size) => by omega)).below;obtain ⟨PL,hPL⟩ : ∃ PL,PL = putLen p0 64 l.length 8:=⟨_,rfl⟩;rw [← hPL] at hPr hql;have HPL:=Lib.hid hPL;clear hKk4 hHh4 hSs4 hbel4 hKr hPL;obtain ⟨S0,hS0⟩ : ∃ S0,S0 = absorb l H0 j:=⟨_,rfl⟩;rw [← hS0] at hSs5 hls;have HS0:=Lib.hid hS0;clear hS0;obtain ⟨w5,hw5⟩ : ∃ w5,w5 = wr:=⟨_,rfl⟩;rw [← hw5] at hKk5 hHh5 hSs5 hbel5 hPr ⊢;clear hw5
              go_wp2_with fail
              go_loopw [11] (fun c wr => ∃ i : Nat,i ≤ 1 ∧ c = .int .i64 (64 * (i : Int)) ∧ IBlk .u32 180 wr (w.heap.size + 1) (absorb PL S0 i) ∧ Keep (fun k => k < w5.heap.size ∧ k ≠ w.heap.size + 1) w5 wr) (fun c _ => 64 - (intOf c).toNat)
              case atStart => exact ⟨0,by omega,rfl,hSs5,Keep.refl _ _⟩
              case round =>
                clear hSs5;obtain ⟨q,hq,rfl,hSr,hKr⟩:=hrel;have hsl : (absorb PL S0 q).length = 8:=(absorb_length PL S0 q).trans hls;have hPq:=hPr.keep hKr ⟨hPr.lt,by omega⟩;have hKq:=hKk5.keep hKr ⟨hKk5.lt,by omega⟩
                by_cases hqn : q < 1
                · have hrow:=row_drop hPq.row (64 * q)
                  rw [Nat.zero_add] at hrow;have hdl : 64 ≤ (PL.drop (64 * q)).length:=by rw [List.length_drop];omega
                  have b0 : 0 ≤ 64 * (q : Int):=by omega
                  have b1 : 64 * (q : Int) ≤ 128:=by omega
                  go_wp2_with fail
                  refine (take_any (w.heap.size + 1) BL (64 * q) (128 - 64 * q) (128 - 64 * q) BK (absorb PL S0 q) (PL.drop (64 * q)) K 180 173 _ (by omega) (by omega) (by omega) hPq.lt hSr hrow hKq hsl hdl rfl).mono ?_;rintro e w' ⟨rfl,hS',hK'⟩;have hsz':=hKr.size;have hK2 : Keep (fun k => k < w5.heap.size ∧ k ≠ w.heap.size + 1) w5 w':=hKr.trans (hK'.mono (fun k hk => ⟨Nat.lt_of_lt_of_le hk.1 hsz',hk.2⟩));have hS2 : IBlk .u32 180 w' (w.heap.size + 1) (absorb PL S0 (q + 1)):=hS';clear hS' hK' hKr hSr hPq hKq hrow
                  go_wp2_with fail
                  go_roundw
                  case rel => exact ⟨q + 1,by omega,by go_num,hS2,hK2⟩
                  case measure => simp [intOf];omega
                · have eq2 : q = 1:=by omega
                  rw [eq2] at hSr hsl;clear eq2;have hHq:=hHh5.keep hKr ⟨hHh5.lt,by omega⟩;have hbelq : Below w.heap.size w wr:=hbel5.trans (hKr.mono (fun k (hk : k < w.heap.size) => ⟨Nat.lt_of_lt_of_le hk hbel5.size,by omega⟩)).below;obtain ⟨st,hst⟩ : ∃ st,st = absorb PL S0 1:=⟨_,rfl⟩;rw [← hst] at hSr hsl;have hres : sumL l = outH st 8:=by
                    have ej : j = l.length / 64:=by omega
                    have erl : l.drop (64 * j) = rl:=Hrl.out.symm;unfold sumL;simp only [← ej,erl,hrl];rw [hst,HPL.out,Hp0.out,HS0.out]
                    first | (rw [if_pos h56]) | (rw [if_neg h56])
                  have Hres:=Hid2.mk hres;clear hres hst hPq hKq hKr hPr hKk5 hHh5 hbel5;obtain ⟨w6,hw6⟩ : ∃ w6,w6 = wr:=⟨_,rfl⟩;rw [← hw6] at hSr hHq hbelq ⊢;clear hw6;have hgS : w6.heap[w.heap.size + 1]? = some (.cells (st.map (Value.int .u32)).toArray 180 (0,0)):=hSr;have d0:=hSr.cell 0 (by omega);have d1:=hSr.cell 1 (by omega);have d2:=hSr.cell 2 (by omega);have d3:=hSr.cell 3 (by omega);have d4:=hSr.cell 4 (by omega);have d5:=hSr.cell 5 (by omega);have d6:=hSr.cell 6 (by omega);have d7:=hSr.cell 7 (by omega);clear hgS
                  go_wp2_with fail
                  clear d0 d1 d2 d3 d4 d5 d6 d7
                  go_loopw [58] (fun c wr => ∃ i : Nat,i ≤ 8 ∧ c = .int .i64 i ∧ IBlk .u8 30 wr w.heap.size (outH st i) ∧ Keep (fun k => k ≠ w.heap.size) w6 wr) (fun c _ => 8 - (intOf c).toNat)
                  case atStart => exact ⟨0,by omega,rfl,hHq,Keep.refl _ _⟩
                  case round =>
                    clear hHq hSr;obtain ⟨i,hi,rfl,hOr,hKr⟩:=hrel;have hol:=outH_length st i
                    by_cases hi8 : i < 8
                    · have c0:=hOr.cell (4 * i) (by omega)
                      have c1:=hOr.cell (4 * i + 1) (by omega);have c2:=hOr.cell (4 * i + 2) (by omega);have c3:=hOr.cell (4 * i + 3) (by omega);have f0:=hOr.free (4 * i);have f1:=hOr.free (4 * i + 1);have f2:=hOr.free (4 * i + 2);have f3:=hOr.free (4 * i + 3);have hix:=index42 st i hi8
                      go_wp2_with fail
                      go_roundw
                      case rel => exact ⟨i + 1,by omega,by go_num,(((hOr.set _ _).set _ _).set _ _).set _ _,(((hKr.setCell (fun h => h rfl) _).setCell (fun h => h rfl) _).setCell (fun h => h rfl) _).setCell (fun h => h rfl) _⟩
                      case measure => simp [intOf];omega
                    · have e9 : i = 8:=by omega
                      rw [e9] at hOr;clear e9;obtain ⟨hh,hhe⟩ : ∃ hh,hh = sumL l:=⟨_,rfl⟩;have hsl32 : hh.length = 32:=by rw [hhe];exact sumL_length l
                      rw [← Hres.out,← hhe] at hOr;have Hhe:=Hid2.mk hhe;clear hhe;have hg0 : wr.heap[w.heap.size]? = some (.cells (hh.map (Value.int .u8)).toArray 30 (0,0)):=hOr;have hbelf : Below w.heap.size w wr:=hbelq.trans (hKr.mono (fun k (hk : k < w.heap.size) => by omega)).below;clear hOr hol hKr Hres hbelq;have hi25 : (Tryz.prog.info? 30).map (·.size) = some (hh.map (Value.int .u8)).toArray.size:=by
                        rw [List.size_toArray,List.length_map,hsl32];kernel_rfl
                      have hone : (hh.map (Value.int .u8)).toArray.all (·.oneCell') = true:=by simp [Value.oneCell']
                      have Hi25:=Hid2.mk hi25;have Hone:=Hid2.mk hone;have Hg0:=Hid2.mk hg0;clear hi25 hone hg0 hsl32
                      go_wp2_with (first | (refine wpList_load_row rfl 30 (.tmp 2) rfl w.heap.size rfl 30 (hh.map (Value.int .u8)).toArray (0,0) _ Hg0.out Tryz.underlying30 rfl Hi25.out ?_) | (refine wpList_store_row rfl 30 (.tmp 2) (.tmp 89) rfl w.heap.size (hh.map (Value.int .u8)).toArray rfl rfl 30 (hh.map (Value.int .u8)).toArray Hg0.out Hi25.out rfl Hone.out ?_))
                      refine bodyPost_ret (results_cell_row rfl _ _ w.heap.size 30 (hh.map (Value.int .u8)).toArray (0,0) _ rfl (setRow_heap _ _ _ _ _ _ Hg0.out) Tryz.underlying30 rfl Hi25.out) rfl ⟨by rw [Hhe.out],?_⟩;exact below_setRow hbelf (Nat.le_refl _) _
end Dig
namespace Dig
set_option maxHeartbeats 400000 in
theorem r_any (x n : Int) (w : World) (hn : 0 ≤ n) (hn2 : n ≤ 32) :
    Calls Tryz.prog 114 #[.int .u32 x,.int .u64 n] w fun e w' => e = .returned (.int .u32 (rotr x n)) ∧ w = w':=by
  go_enter Tryz.func114,Tryz.ntmps114
  go_wp2
  go_ret
  exact ⟨rfl,rfl⟩
theorem r_same (x n : Int) (w : World) (hn : 0 ≤ n) (hn2 : n ≤ 32) :
    Calls Tryz.prog 114 #[.int .u32 x,.int .u64 n] w fun e w' => e = .returned (.int .u32 (rotr x n)) ∧ w' = w :=
  (r_any x n w hn hn2).mono fun _ _ ⟨a,b⟩ => ⟨a,b.symm⟩
set_option maxRecDepth 100000 in
set_option maxHeartbeats 1000000 in
theorem k_any (w : World) :
    Calls Tryz.prog 108 #[] w fun e w' => e = .returned (.agg (K.map (Value.int .u32)).toArray) ∧ Below w.heap.size w w':=by
  go_enter Tryz.func108,Tryz.ntmps108
  go_wp2_with (first | (refine wpList_build_to rfl 173 _ rfl (K.map (Value.int .u32)).toArray (by kernel_rfl) ?_) | (refine wpList_store_row rfl 173 _ _ rfl w.heap.size (K.map (Value.int .u32)).toArray rfl rfl 173 _ (heap_alloc_new _ _) (by kernel_rfl) (by kernel_rfl) (by kernel_rfl) ?_))
  refine bodyPost_ret (results_cell_row rfl _ _ w.heap.size 173 (K.map (Value.int .u32)).toArray (0,0) _ rfl (setRow_heap _ _ _ _ _ _ (heap_alloc_new _ _)) Tryz.underlying173 rfl (by kernel_rfl)) rfl ⟨rfl,?_⟩;exact below_setRow ((Below.refl _ _).alloc (Nat.le_refl _) _) (Nat.le_refl _) _
def Z64 : List Int:=List.replicate 64 0
theorem zero43 (w : World) : (zeroValue 173).run Tryz.prog w = .ok (.agg (Z64.map (Value.int .u32)).toArray) w:=by kernel_rfl
def Z8 : List Int:=List.replicate 8 0
theorem zero41 (w : World) : (zeroValue 172).run Tryz.prog w = .ok (.agg (Z8.map (Value.int .u32)).toArray) w:=by kernel_rfl
theorem mk8' (T : TypeId) (w : World) (l : List Int) (h : l.length = 8) :
    IBlk .u32 T (w.alloc (.cells #[.int .u32 (nth l 0),.int .u32 (nth l 1),.int .u32 (nth l 2),.int .u32 (nth l 3),.int .u32 (nth l 4),.int .u32 (nth l 5),.int .u32 (nth l 6),.int .u32 (nth l 7)] T)) w.heap.size l:=by
  have:=VBlk.mk w (l.map (Value.int .u32)) T
  match l,h with
  | [a,b,c,d,e,f,g,i],_ => exact this
set_option maxRecDepth 100000 in
set_option maxHeartbeats 2000000 in
theorem block_any (bb ob n cap bk : Nat) (st by_ kk : List Int) (T' : TypeId) (w : World) (hn : 64 ≤ n) (hn2 : n ≤ 9223372036854775807)
    (hbb : bb < w.heap.size) (hby : Row .u8 w bb ob by_) (hkk : IBlk .u32 T' w bk kk) (hl1 : st.length = 8) (hl2 : 64 ≤ by_.length) (hl3 : kk.length = 64) :
    Calls Tryz.prog 109 #[.agg (st.map (Value.int .u32)).toArray,.slice (some ⟨bb,ob,none⟩) n cap,.pointer (some ⟨bk,0,none⟩)] w
      fun e w' => e = .returned (.agg ((compress kk by_ st).map (Value.int .u32)).toArray) ∧ Below w.heap.size w w':=by
  have hbk:=hkk.lt;have hz43:=zero43;have hz41:=zero41
  go_enter Tryz.func109,Tryz.ntmps109
  go_wp2
  clear hz43 hz41;obtain ⟨hA,hB,hC,hbel,hsz⟩:=three_alloc w (.cells (st.map (Value.int .u32)).toArray 172) (.cells (Z8.map (Value.int .u32)).toArray 172) (.cells (Z64.map (Value.int .u32)).toArray 173);generalize World.alloc _ _ = w0 at hA hB hC hbel hsz ⊢;have hS : IBlk .u32 172 w0 w.heap.size st:=hA;have hR : IBlk .u32 172 w0 (w.heap.size + 1) Z8:=hB;have hW : IBlk .u32 173 w0 (w.heap.size + 1 + 1) (load by_ 0):=hC;clear hA hB hC
  go_loopw [8] (fun c wr => ∃ i : Nat,i ≤ 16 ∧ c = .int .i64 i ∧ IBlk .u32 173 wr (w.heap.size + 1 + 1) (load by_ i) ∧ Keep (fun k => k ≠ w.heap.size + 1 + 1) w0 wr)
    (fun c _ => 16 - (intOf c).toNat)
  case atStart => exact ⟨0,by omega,rfl,hW,Keep.refl _ _⟩
  case round =>
    clear hW;obtain ⟨i,hi,rfl,hWr,hKr⟩:=hrel;have hlw:=load_length by_ i
    by_cases h16 : i < 16
    · have hrow : Row .u8 wr bb ob by_:=(hby.below hbel hbb).keep hKr (by omega)
      have c0:=hWr.cell i (by omega);have f0:=hWr.free i;have a0:=hrow.at (4 * i) (by omega);have a1:=hrow.at' (4 * i + 1) (ob + (4 * i + 1)) (by omega) (by omega);have a2:=hrow.at' (4 * i + 2) (ob + (4 * i + 2)) (by omega) (by omega);have a3:=hrow.at' (4 * i + 3) (ob + (4 * i + 3)) (by omega) (by omega);have b0 : 4 * (i : Int) < n:=by omega
      have b1 : 4 * (i : Int) + 1 < n:=by omega
      have b2 : 4 * (i : Int) + 2 < n:=by omega
      have b3 : 4 * (i : Int) + 3 < n:=by omega
      go_wp2_with fail
      go_region
      go_wp2
      go_roundw
      case rel => exact ⟨i + 1,by omega,by go_num,hWr.set _ _,(hKr.setCell (fun h => h rfl) _).drewN 1⟩
      case measure => simp [intOf];omega
    · have e16 : i = 16:=by omega
      rw [e16] at hWr;clear e16 hlw;have hi16 : decide ((i : Int) < 16) = false:=decide_eq_false (by omega)
      go_wp2
      go_loopw [9] (fun c wr => ∃ i : Nat,i ≤ 48 ∧ c = .int .i64 (16 + (i : Int)) ∧ IBlk .u32 173 wr (w.heap.size + 1 + 1) (sched (load by_ 16) i) ∧ Keep (fun k => k ≠ w.heap.size + 1 + 1) w0 wr)
        (fun c _ => 64 - (intOf c).toNat)
      case atStart => exact ⟨0,by omega,rfl,hWr,hKr⟩
      case round =>
        clear hWr hKr;obtain ⟨i,hi2,rfl,hWr,hKr⟩:=hrel;have hlw : (sched (load by_ 16) i).length = 64:=(sched_length (load by_ 16) i).trans (load_length by_ 16)
        by_cases h48 : i < 48
        · have c0:=hWr.cell (16 + i) (by omega)
          have c1:=hWr.cell' (16 + i - 15) (i + 1) (by omega) (by omega);have c2:=hWr.cell' (16 + i - 2) (i + 14) (by omega) (by omega);have c3:=hWr.cell i (by omega);have c4:=hWr.cell' (16 + i - 7) (i + 9) (by omega) (by omega);have f0:=hWr.free (16 + i)
          go_wp2_with fail
          refine wp_region_still_tail 29 (by kernel_rfl) (by kernel_rfl) ?_;simp only [List.take_succ_cons,List.take_zero,List.drop_succ_cons,List.drop_zero];rw [show ({ heap:=wr.heap,tape:=wr.tape,drawn:=wr.drawn + 1,os:=wr.os,output:=wr.output } : World) = wr.drew from rfl];have g0 : (i : Int) < 64:=by omega
          have g9 : (i : Int) + 9 < 64:=by omega
          have g1 : (16 + (i : Int)) < 64:=by omega
          have g16 : 0 ≤ (16 + (i : Int)):=by omega
          have gt : (16 + (i : Int)).toNat = 16 + i:=by omega
          have e1 : IntKind.i64.wrap (16 + (i : Int) - 16) = (i : Int):=(IntWalk.i64_in _ (by omega)).trans (by omega);have e2 : IntKind.i64.wrap (16 + (i : Int) - 7) = (i : Int) + 9:=(IntWalk.i64_in _ (by omega)).trans (by omega);have p9 : 0 ≤ (i : Int) + 9:=by omega
          have t9 : ((i : Int) + 9).toNat = i + 9:=by omega
          have c9:=hWr.cell (i + 9) (by omega)
          repeat (first | still_step | still_call (r_same _ _ _ (by decide) (by decide)))
          clear e1 e2 gt;refine wpStill_nil ?_
          go_wp2
          go_roundw
          case rel => exact ⟨i + 1,by omega,by go_num,hWr.set _ _,(hKr.setCell (fun h => h rfl) _).drewN 1⟩
          case measure => simp [intOf];omega
        · have e48 : i = 48:=by omega
          rw [e48] at hWr hlw;clear e48;have hd48 : decide (16 + (i : Int) < 64) = false:=decide_eq_false (by omega);have hSr:=hS.keep hKr (by omega);have hRr:=hR.keep hKr (by omega);have hkr : IBlk .u32 T' wr bk kk:=(hkk.below hbel hbk).keep hKr (by omega);have hbelr : Below w.heap.size w wr:=hbel.trans (hKr.mono (fun k (hk : k < w.heap.size) => by omega)).below;have hBz : w.heap.size + 1 + 1 < wr.heap.size:=hWr.lt;have d0:=hSr.cell 0 (by omega);have d1:=hSr.cell 1 (by omega);have d2:=hSr.cell 2 (by omega);have d3:=hSr.cell 3 (by omega);have d4:=hSr.cell 4 (by omega);have d5:=hSr.cell 5 (by omega);have d6:=hSr.cell 6 (by omega);have d7:=hSr.cell 7 (by omega)
          go_wp2
          have hV:=mk8' 172 wr st hl1;have hK2 : Keep (fun k => k < wr.heap.size) wr _:=Keep.of_below ((Below.refl wr.heap.size wr).alloc (Nat.le_refl _) (.cells #[.int .u32 (nth st 0),.int .u32 (nth st 1),.int .u32 (nth st 2),.int .u32 (nth st 3),.int .u32 (nth st 4),.int .u32 (nth st 5),.int .u32 (nth st 6),.int .u32 (nth st 7)] 172));generalize World.alloc _ _ = w2 at hV hK2 ⊢;clear d0 d1 d2 d3 d4 d5 d6 d7 hS hR hbel;have hS2:=hSr.keep hK2 hSr.lt;have hR2:=hRr.keep hK2 hRr.lt;have hk2:=hkr.keep hK2 hkr.lt;have hW2:=hWr.keep hK2 hWr.lt;have hbel2 : Below w.heap.size w w2:=hbelr.trans (hK2.mono (fun k (hk : k < w.heap.size) => by omega)).below;clear hSr hRr hkr hWr hbelr hK2 hKr;generalize wr.heap.size = Bv at hV hBz ⊢;obtain ⟨W,hWW⟩ : ∃ W,W = sched (load by_ 16) 48:=⟨_,rfl⟩;rw [← hWW] at hW2 hlw;have HW:=Hid2.mk hWW;clear hWW
          go_loopw [13] (fun c wr => ∃ i : Nat,i ≤ 64 ∧ c = .int .i64 i ∧ IBlk .u32 172 wr Bv (rounds kk W st i) ∧ Keep (fun k => k ≠ Bv) w2 wr)
            (fun c _ => 64 - (intOf c).toNat)
          case atStart => exact ⟨0,by omega,rfl,hV,Keep.refl _ _⟩
          case round =>
            clear hV;obtain ⟨r,hr,rfl,hVr,hKr⟩:=hrel;have hlv:=rounds_length kk W st r hl1;obtain ⟨v,hvv⟩ : ∃ v,v = rounds kk W st r:=⟨_,rfl⟩;rw [← hvv] at hVr hlv;have Hv:=Hid2.mk hvv;clear hvv
            by_cases hr64 : r < 64
            · have hkkr:=hk2.keep hKr (by omega)
              have hWr:=hW2.keep hKr (by omega);have d0:=hVr.cell 0 (by omega);have d1:=hVr.cell 1 (by omega);have d2:=hVr.cell 2 (by omega);have d3:=hVr.cell 3 (by omega);have d4:=hVr.cell 4 (by omega);have d5:=hVr.cell 5 (by omega);have d6:=hVr.cell 6 (by omega);have d7:=hVr.cell 7 (by omega);have f0:=hVr.free;have k0:=hkkr.cell r (by omega);have w0:=hWr.cell r (by omega)
              go_wp2_with fail
              go_quiet (fail)
              go_wp2_with fail
              go_quiet ((go_at_call 114;exact quiet_add_left (r_any _ _ _ (by omega) (by omega))))
              go_wp2_with fail
              go_quiet ((go_at_call 114;exact quiet_add_left (r_any _ _ _ (by omega) (by omega))))
              go_wp2
              go_roundw
              case rel =>
                refine ⟨r + 1,by omega,by go_num,?_,oth8 (hKr.drewN _) (fun h => h rfl) _ _ _ _ _ _ _ _⟩;rw [rounds,← Hv.out];exact set8 (hVr.drewN _) hlv _ _ _ _ _ _ _ _
              case measure => simp [intOf];omega
            · have e64 : r = 64:=by omega
              have hd64 : decide ((r : Int) < 64) = false:=decide_eq_false (by omega);have hVf : IBlk .u32 172 wr Bv (rounds kk W st 64):=by rw [← e64,← Hv.out];exact hVr
              have hSr:=hS2.keep hKr (by omega);have hRr:=hR2.keep hKr (by omega);have hbelr : Below w.heap.size w wr:=hbel2.trans (hKr.mono (fun k (hk : k < w.heap.size) => by omega)).below;have hl8:=rounds_length kk W st 64 hl1;have hres : compress kk by_ st = addInto st (rounds kk W st 64) 8:=by rw [HW.out];rfl
              have Hres:=Hid2.mk hres;obtain ⟨z,hz⟩ : ∃ z,z = rounds kk W st 64:=⟨_,rfl⟩;rw [← hz] at hVf hl8;have Hz:=Hid2.mk hz;clear hz hres e64 hVr hlv Hv HW hKr hS2 hR2 hbel2 hW2 hk2 hlw
              go_wp2
              obtain ⟨w3,hw3⟩ : ∃ w3,w3 = wr:=⟨_,rfl⟩;rw [← hw3] at hVf hSr hRr hbelr ⊢;clear hw3
              go_loopw [18] (fun c wr => ∃ i : Nat,i ≤ 8 ∧ c = .int .i64 i ∧ IBlk .u32 172 wr w.heap.size (addInto st z i) ∧ Keep (fun k => k ≠ w.heap.size) w3 wr)
                (fun c _ => 8 - (intOf c).toNat)
              case atStart => exact ⟨0,by omega,rfl,hSr,Keep.refl _ _⟩
              case round =>
                clear hSr;obtain ⟨q,hq,rfl,hSr,hKr⟩:=hrel;have hls : (addInto st z q).length = 8:=(addInto_length st z q).trans hl1
                by_cases h8 : q < 8
                · have hVr:=hVf.keep hKr (by omega)
                  have s0:=hSr.cell q (by omega);have v0:=hVr.cell q (by omega);have f0:=hSr.free q
                  go_wp2_with fail
                  go_region
                  go_wp2
                  go_roundw
                  case rel => exact ⟨q + 1,by omega,by go_num,hSr.set _ _,(hKr.setCell (fun h => h rfl) _).drewN 1⟩
                  case measure => simp [intOf];omega
                · have e8 : q = 8:=by omega
                  have hd8 : decide ((q : Int) < 8) = false:=decide_eq_false (by omega);obtain ⟨hh,hhe⟩ : ∃ hh,hh = compress kk by_ st:=⟨_,rfl⟩;have hSf : IBlk .u32 172 wr w.heap.size hh:=by rw [hhe,Hres.out,← Hz.out,← e8];exact hSr
                  have hhl : hh.length = 8:=by rw [hhe,compress_length,hl1]
                  have Hhe:=Hid2.mk hhe;have hRr2:=hRr.keep hKr (by omega);have hbelf : Below w.heap.size w wr:=hbelr.trans (hKr.mono (fun k (hk : k < w.heap.size) => by omega)).below;clear hhe e8 hSr hVf Hres Hz hls hRr hbelr hKr;have d0:=hSf.cell 0 (by omega);have d1:=hSf.cell 1 (by omega);have d2:=hSf.cell 2 (by omega);have d3:=hSf.cell 3 (by omega);have d4:=hSf.cell 4 (by omega);have d5:=hSf.cell 5 (by omega);have d6:=hSf.cell 6 (by omega);have d7:=hSf.cell 7 (by omega);have hg1 : wr.heap[w.heap.size + 1]? = some (.cells (Z8.map (Value.int .u32)).toArray 172 (0,0)):=hRr2;have eq8 : (#[.int .u32 (nth hh 0),.int .u32 (nth hh 1),.int .u32 (nth hh 2),.int .u32 (nth hh 3),.int .u32 (nth hh 4),.int .u32 (nth hh 5),.int .u32 (nth hh 6),.int .u32 (nth hh 7)] : Array Value) = (hh.map (Value.int .u32)).toArray:=by
                    conv => rhs;rw [eight hh hhl]
                    rfl
                  have hone : (#[.int .u32 (nth hh 0),.int .u32 (nth hh 1),.int .u32 (nth hh 2),.int .u32 (nth hh 3),.int .u32 (nth hh 4),.int .u32 (nth hh 5),.int .u32 (nth hh 6),.int .u32 (nth hh 7)] : Array Value).all (·.oneCell') = true:=by rw [eq8];simp [Value.oneCell']
                  have Hone:=Hid2.mk hone;clear hone;have Eq8:=Hid2.mk eq8;have Hg1:=Hid2.mk hg1;clear eq8 hg1
                  go_wp2_with (refine wpList_store_row rfl 172 (.tmp 6) (.tmp 195) rfl (w.heap.size + 1) (#[.int .u32 (nth hh 0),.int .u32 (nth hh 1),.int .u32 (nth hh 2),.int .u32 (nth hh 3),.int .u32 (nth hh 4),.int .u32 (nth hh 5),.int .u32 (nth hh 6),.int .u32 (nth hh 7)]) rfl rfl 172 (Z8.map (Value.int .u32)).toArray Hg1.out (by kernel_rfl) rfl Hone.out ?_)
                  refine bodyPost_ret (results_cell_row rfl _ _ (w.heap.size + 1) 172 _ (0,0) _ rfl (setRow_heap _ _ _ _ _ _ Hg1.out) Tryz.underlying172 rfl (by kernel_rfl)) rfl ⟨by rw [Eq8.out,Hhe.out],?_⟩;exact below_setRow hbelf (by omega) _
end Dig
namespace Dig
theorem elemBytes : Elem Tryz.prog 119 5 1:=Elem.mk' (k:=.u8) (x:=0) Tryz.underlying119 (by kernel_rfl)
def zs (n : Nat) : List Int:=List.replicate n 0
def lenB (n : Nat) : Nat → List Int
  | 0 => []
  | i + 1 => lenB n i ++ [(n : Int) * 8 / 2 ^ (8 * (7 - i)) % 256]
theorem lenB_length (n i : Nat) : (lenB n i).length = i:=by
  induction i with
  | zero => rfl
  | succ i ih => simp [lenB,ih]
def Z32 : List Int:=List.replicate 32 0
theorem zero25 (w : World) : (zeroValue 30).run Tryz.prog w = .ok (.agg (Z32.map (Value.int .u8)).toArray) w:=by kernel_rfl
def padN (n : Nat) : Nat:=(119 - n % 64) % 64
theorem padN_stop (n z : Nat) (hz : z ≤ padN n) : ((n + 1 + z) % 64 = 56) ↔ z = padN n:=by unfold padN at *;omega
def padded (l : List Int) : List Int:=l ++ [128] ++ zs (padN l.length) ++ lenB l.length 8
def outR (st : List Int) : Nat → List Int
  | 0 => Z32
  | i + 1 => (outR st i).set i (nth st (i / 4) / 2 ^ (24 - 8 * (i % 4)) % 256)
theorem outR_length (st : List Int) (i : Nat) : (outR st i).length = 32:=by
  induction i with
  | zero => rfl
  | succ i ih => simp [outR,ih]
def refL (l : List Int) : List Int:=outR (absorb (padded l) H0 ((padded l).length / 64)) 32
theorem buf_open {k : IntKind} {e : TypeId} {w : World} {base n c : Nat} {sp : Option Addr} {l : List Int} (h : Buf k e w base (.slice sp n c) l) (h0 : 0 < l.length) :
    ∃ g,sp = some ⟨g,0,none⟩ ∧ n = l.length ∧ base ≤ g ∧ g < w.heap.size ∧ l.length ≤ c ∧ c ≤ 9223372036854775807 ∧ Row k w g 0 l:=by
  rcases h.block with ⟨e1,e2⟩ | ⟨g,cap,rest,e1,hg,h1,h2,hb,-⟩
  · rw [e2] at h0;simp at h0
  · injection e1 with e1 e2 e3
    subst e1 e2 e3;exact ⟨g,rfl,rfl,hg,hb.lt,h1,by unfold maxLen at h2;exact h2,h.row⟩
theorem keep_setRow {K : Nat → Prop} {a w : World} (h : Keep K a w) {g : Nat} (hg : ¬ K g) (cs : Array Value) : Keep K a (w.setRow g cs) :=
  h.trans ⟨rfl,rfl,rfl,by simp,fun k hk => setRow_other w g k cs (fun e => hg (e ▸ hk))⟩
theorem one_alloc {w w1 : World} {A : Obj} (hb : Below (w.alloc A).heap.size (w.alloc A) w1) :
    w1.heap[w.heap.size]? = some A ∧ Below w.heap.size w w1 ∧ w.heap.size + 1 ≤ w1.heap.size:=by
  have hs : (w.alloc A).heap.size = w.heap.size + 1:=by simp
  refine ⟨?_,?_,?_⟩
  · rw [hb.block _ (by rw [hs];omega),heap_alloc_new]
  · exact ((Below.refl _ _).alloc (Nat.le_refl _) _).trans (hb.mono (by rw [hs];omega))
  · rw [← hs];exact hb.size
theorem block_any8 (bb ob n cap bk : Nat) (st by_ kk : List Int) (T' : TypeId) (w : World) (hn : 64 ≤ n) (hn2 : n ≤ 9223372036854775807)
    (hbb : bb < w.heap.size) (hby : Row .u8 w bb ob by_) (hkk : IBlk .u32 T' w bk kk) (hl1 : st.length = 8) (hl2 : 64 ≤ by_.length) (hl3 : kk.length = 64) :
    Calls Tryz.prog 109 #[.agg #[.int .u32 (nth st 0),.int .u32 (nth st 1),.int .u32 (nth st 2),.int .u32 (nth st 3),.int .u32 (nth st 4),.int .u32 (nth st 5),.int .u32 (nth st 6),.int .u32 (nth st 7)],.slice (some ⟨bb,ob,none⟩) n cap,.pointer (some ⟨bk,0,none⟩)] w
      fun e w' => e = .returned (.agg ((compress kk by_ st).map (Value.int .u32)).toArray) ∧ Below w.heap.size w w':=by
  have e : (#[.int .u32 (nth st 0),.int .u32 (nth st 1),.int .u32 (nth st 2),.int .u32 (nth st 3),.int .u32 (nth st 4),.int .u32 (nth st 5),.int .u32 (nth st 6),.int .u32 (nth st 7)] : Array Value) = (st.map (Value.int .u32)).toArray:=by
    conv => rhs;rw [eight st hl1]
    rfl
  rw [e];exact block_any bb ob n cap bk st by_ kk T' w hn hn2 hbb hby hkk hl1 hl2 hl3
set_option maxRecDepth 100000 in
set_option maxHeartbeats 2000000 in
theorem refSum_any (v : Value) (l : List Int) (w : World) (hv : Sl .u8 w v l) (hn : l.length ≤ 35184372088832) :
    Calls Tryz.prog 94 #[v] w fun e w' => e = .returned (.agg ((refL l).map (Value.int .u8)).toArray) ∧ Below w.heap.size w w':=by
  have hv2:=hv;obtain ⟨sp,cap,rfl,-,-,-,-⟩:=hv2;have hz25:=zero25;have hE0 : Buf .u8 5 ((w.alloc (.cells (Z32.map (Value.int .u8)).toArray 30)).alloc (.cells #[] 5)) (w.heap.size + 1) (.slice (some ⟨w.heap.size + 1,0,none⟩) 0 0) []:=by
    have:=Buf.empty (k:=.u8) (e:=5) (w:=w.alloc (.cells (Z32.map (Value.int .u8)).toArray 30)) (base:=w.heap.size + 1) (by simp)
    simpa using this
  have hBe : Below w.heap.size w ((w.alloc (.cells (Z32.map (Value.int .u8)).toArray 30)).alloc (.cells #[] 5)):=((Below.refl _ w).alloc (Nat.le_refl _) _).alloc (by simp) _;have hSe:=hv.of_below hBe;have hHe : IBlk .u8 30 ((w.alloc (.cells (Z32.map (Value.int .u8)).toArray 30)).alloc (.cells #[] 5)) w.heap.size Z32:=IBlk.alloc (VBlk.mk w _ _) _;have hze : ((w.alloc (.cells (Z32.map (Value.int .u8)).toArray 30)).alloc (.cells #[] 5)).heap.size = w.heap.size + 2:=by simp
  obtain ⟨W0,hW0⟩ : ∃ W0,W0 = ((w.alloc (.cells (Z32.map (Value.int .u8)).toArray 30)).alloc (.cells #[] 5)):=⟨_,rfl⟩;have hE1:=hE0;rw [← hW0] at hHe hBe hze hE0 hSe;have HE1:=Hid2.mk hE1;have HW0:=Hid2.mk hW0;clear hE1 hW0
  go_enter Tryz.func94,Tryz.ntmps94
  go_wp2_with (refine wpList_app rfl (.tmp 11) (.tmp 12) 119 rfl elemBytes (w.heap.size + 1) _ [] rfl HE1.out _ l rfl (by rw [← HW0.out];exact hSe) l.length ?h1 ?h2 ?h3 ?h4 ?h5)
  case h1 => simp
  case h2 => unfold maxLen;omega
  case h3 => omega
  case h4 => simp
  case h5 =>
    intro sp1 c1 w1 hb1 hk1
    try rw [List.nil_append] at hb1
    rw [← HW0.out] at hk1;have hs1:=hk1.size
    go_wp2_with (refine wpList_app rfl (.tmp 13) (.tmp 14) 119 rfl elemBytes (w.heap.size + 1) _ l rfl (hb1.alloc _) _ [128] rfl (Sl.one .u8 w1 128 5) (l.length + 1) ?h1 ?h2 ?h3 ?h4 ?h5)
    case h1 => simp
    case h2 => unfold maxLen;omega
    case h3 => omega
    case h4 => simp;omega
    case h5 =>
      intro sp2 c2 w2 hb2 hk2;have hk02 : Keep (fun k => k < w.heap.size + 1) W0 w2:=(hk1.trans ((Keep.refl _ w1).alloc (fun k (hk : k < w.heap.size + 1) => by omega) _)).trans hk2;have hbz : 0 ≤ padN l.length:=Nat.zero_le _;have hpz : padN l.length ≤ 63:=by unfold padN;omega
      clear hb1 hk1 hk2 hs1;have hb20 : Buf .u8 5 w2 (w.heap.size + 1) (.slice sp2 (l.length + 1) c2) (l ++ [128] ++ zs 0):=by simpa [zs] using hb2
      clear hb2;obtain ⟨M0,hM0⟩ : ∃ M0 : List Int,M0 = l ++ [128]:=⟨_,rfl⟩;have hM0l : M0.length = l.length + 1:=by rw [hM0];simp
      rw [← hM0] at hb20;have HM0:=Hid2.mk hM0;have HM0l:=Hid2.mk hM0l;clear hM0 hM0l
      go_wp2_with fail
      go_loopw [3] (fun v wr => ∃ z n sp c,z ≤ padN l.length ∧ n = l.length + 1 + z ∧ v = .slice sp n c ∧ Buf .u8 5 wr (w.heap.size + 1) (.slice sp n c) (M0 ++ zs z) ∧ Keep (fun k => k < w.heap.size + 1) W0 wr)
        (fun v _ => l.length + 65 - lenOf v)
      case atStart => exact ⟨0,_,_,_,by omega,rfl,rfl,hb20,hk02⟩
      case round =>
        clear hb20 hk02;obtain ⟨z,n,sp3,c3,hz,hn1,rfl,hbr,hkr⟩:=hrel;have Hn1:=Hid2.mk hn1;have hnb : n ≤ l.length + 64:=by omega
        have hsr:=hkr.size
        by_cases hzp : z = padN l.length
        · have ht : (((n : Int) % 64) != 56) = false:=by
            have:=(padN_stop l.length z hz).2 hzp;rw [← hn1] at this;rw [bne_eq_false_iff_eq];omega
          have hn2 : n = l.length + 1 + padN l.length:=by rw [hn1,hzp]
          have hbr2 : Buf .u8 5 wr (w.heap.size + 1) (.slice sp3 n c3) (M0 ++ zs (padN l.length) ++ lenB l.length 0):=by
            rw [← hzp];simpa [lenB] using hbr
          have Hn2:=Hid2.mk hn2;have hMl : (M0 ++ zs (padN l.length)).length = n:=by rw [List.length_append,HM0l.out,hn2];simp [zs]
          clear hn1 hzp Hn1 hbr hn2;obtain ⟨M1,hM1⟩ : ∃ M1 : List Int,M1 = M0 ++ zs (padN l.length):=⟨_,rfl⟩;rw [← hM1] at hbr2 hMl;have HM1:=Hid2.mk hM1;have HM1l:=Hid2.mk hMl;clear hM1 hMl
          go_wp2_with fail
          go_loopw [3,5] (fun v i wr => ∃ j nn sp c,j ≤ 8 ∧ nn = n + j ∧ i = .int .i64 (7 - (j : Int)) ∧ v = .slice sp nn c ∧ Buf .u8 5 wr (w.heap.size + 1) (.slice sp nn c) (M1 ++ lenB l.length j) ∧ Keep (fun k => k < w.heap.size + 1) W0 wr)
            (fun _ i _ => (intOf i + 1).toNat)
          case atStart => exact ⟨0,n,sp3,c3,by omega,rfl,rfl,rfl,hbr2,hkr⟩
          case round =>
            clear hbr2 hkr hsr;obtain ⟨j,nn,sp4,c4,hj,hnn,rfl,rfl,hbr,hkr⟩:=hrel;have Hnn:=Hid2.mk hnn;have hnb2 : nn ≤ l.length + 72:=by omega
            have hsr:=hkr.size
            by_cases hj8 : j < 8
            · clear hnn
              go_wp2_with (refine wpList_app rfl (.tmp 31) (.tmp 38) 119 rfl elemBytes (w.heap.size + 1) _ (M1 ++ lenB l.length j) rfl (hbr.alloc _) _ [(l.length : Int) * 8 / 2 ^ (8 * (7 - j)) % 256] rfl (Sl.one .u8 wr _ 5) (nn + 1) ?g1 ?g2 ?g3 ?g4 ?g5)
              case g1 => rw [List.length_append,HM1l.out,lenB_length,Hnn.out];rfl
              case g2 => unfold maxLen;omega
              case g3 => omega
              case g4 => simp;omega
              case g5 =>
                intro sp5 c5 w5 hb5 hk5;have hb6 : Buf .u8 5 w5 (w.heap.size + 1) (.slice sp5 (nn + 1) c5) (M1 ++ lenB l.length (j + 1)):=by
                  rw [lenB];first | exact hb5 | (rw [← List.append_assoc];exact hb5)
                have hk6 : Keep (fun k => k < w.heap.size + 1) W0 w5:=(hkr.trans ((Keep.refl _ wr).alloc (fun k (hk : k < w.heap.size + 1) => by omega) _)).trans hk5;clear hb5 hk5 hbr hkr hsr
                go_wp2_with fail
                go_roundw
                case rel => exact ⟨j + 1,nn + 1,sp5,c5,by omega,by rw [Hnn.out];rfl,by go_num,rfl,hb6,hk6⟩
                case measure => simp [intOf];omega
            · have e8 : j = 8:=by omega
              have hdj : decide ((j : Int) ≤ 7) = false:=decide_eq_false (by omega);rw [e8] at hbr;clear hnn;have hnn8 : nn = n + 8:=by rw [Hnn.out,e8]
              obtain ⟨M,hM⟩ : ∃ M : List Int,M = M1 ++ lenB l.length 8:=⟨_,rfl⟩;rw [← hM] at hbr;have hpad : M = padded l:=by rw [hM,HM1.out,HM0.out];rfl
              have hMl : M.length = nn:=by rw [hM,List.length_append,HM1l.out,lenB_length,hnn8]
              have hN64 : nn = 64 * (nn / 64):=by
                have:=(padN_stop l.length (padN l.length) (Nat.le_refl _)).2 rfl;have:=Hn2.out;omega
              obtain ⟨q,hq⟩ : ∃ q,q = nn / 64:=⟨_,rfl⟩;rw [← hq] at hN64;rw [← hMl] at hbr;obtain ⟨g,rfl,-,hgB,hgl,hc4,hc4',hrowM⟩:=buf_open hbr (by omega);have hHr:=hHe.keep hkr (by omega);have hbelr : Below w.heap.size w wr:=hBe.trans (hkr.mono (fun k (hk : k < w.heap.size) => by omega)).below;have Hpad:=Hid2.mk hpad;have HMl:=Hid2.mk hMl;have HN64:=Hid2.mk hN64;have Hq:=Hid2.mk hq;clear hM hMl hpad hN64 hq hnn8 e8 hbr hkr hsr HM0 HM1 hHe hBe hSe hE0 HE1 hv
              go_wp2_with fail
              refine (k_any _).mono ?_;rintro e w6 ⟨rfl,hk6⟩;obtain ⟨hSb,hb6,hz6⟩:=one_alloc hk6;clear hk6;have hz43:=zero43
              go_wp2_with (refine wpList_store_row rfl 173 (.tmp 7) (.tmp 41) rfl w6.heap.size (K.map (Value.int .u32)).toArray rfl rfl 173 _ (heap_alloc_new _ _) (by kernel_rfl) (by kernel_rfl) (by kernel_rfl) ?_)
              have hKb : IBlk .u32 173 _ w6.heap.size K:=setRow_heap _ w6.heap.size _ (K.map (Value.int .u32)).toArray 173 (0,0) (heap_alloc_new w6 (.cells (Z64.map (Value.int .u32)).toArray 173));have hkeep : Below w6.heap.size w6 ((w6.alloc (.cells (Z64.map (Value.int .u32)).toArray 173)).setRow w6.heap.size (K.map (Value.int .u32)).toArray) :=
                below_setRow ((Below.refl _ _).alloc (Nat.le_refl _) _) (Nat.le_refl _) _
              generalize World.setRow _ _ _ = w7 at hKb hkeep ⊢;have hS7 : IBlk .u32 172 w7 wr.heap.size H0:=(hkeep.block wr.heap.size (by omega)).trans hSb;have hM7 : Row .u8 w7 g 0 M:=(hrowM.below hb6 hgl).below hkeep (by omega);have hH7 : IBlk .u8 30 w7 w.heap.size Z32:=(hHr.below hb6 hHr.lt).below hkeep (by have:=hHr.lt;omega);have hbel7 : Below w.heap.size w w7:=hbelr.trans ((hb6.mono hbelr.size).trans (hkeep.mono (by have:=hbelr.size;omega)));have hg7 : g < w7.heap.size:=by have:=hkeep.size;omega
              have hBSg : g < wr.heap.size:=hgl;have hBKl : wr.heap.size < w6.heap.size:=by omega
              have hBKz : w6.heap.size < w7.heap.size:=hKb.lt;have hBw : w.heap.size < g:=by omega
              clear hSb hkeep hrowM hHr hbelr hb6 hz6 hz43 hz25 hgl;generalize w6.heap.size = BK at hKb hBKl hBKz ⊢;generalize wr.heap.size = BS at hS7 hBSg hBKl ⊢;have Hn:=HMl.out;have hq1 : nn ≤ 64 * q:=by have:=HN64.out;omega
              have hq2 : 64 * q ≤ nn:=by have:=HN64.out;omega
              rw [Hn] at hc4;clear Hn
              go_loopw [8] (fun c wr => ∃ i : Nat,i ≤ q ∧ c = .int .i64 (64 * (i : Int)) ∧ IBlk .u32 172 wr BS (absorb M H0 i) ∧ Keep (fun k => k < w7.heap.size ∧ k ≠ BS) w7 wr) (fun c _ => 64 * q - (intOf c).toNat)
              case atStart => exact ⟨0,by omega,rfl,hS7,Keep.refl _ _⟩
              case round =>
                clear hS7;obtain ⟨i,hi,rfl,hSr,hKr⟩:=hrel;have hsl : (absorb M H0 i).length = 8:=absorb_length M H0 i;have hMr:=hM7.keep hKr ⟨hg7,by omega⟩;have hKbr:=hKb.keep hKr ⟨hBKz,by omega⟩
                by_cases hiq : i < q
                · have hrow:=row_drop hMr (64 * i)
                  rw [Nat.zero_add] at hrow;have hdl : 64 ≤ (M.drop (64 * i)).length:=by rw [List.length_drop,HMl.out];omega
                  have b0 : 0 ≤ 64 * (i : Int):=by omega
                  have b1 : 64 * (i : Int) + 64 ≤ c4:=by omega
                  have hil : (64 * (i : Int)) < (nn : Int):=by omega
                  have d0:=hSr.cell 0 (by omega);have d1:=hSr.cell 1 (by omega);have d2:=hSr.cell 2 (by omega);have d3:=hSr.cell 3 (by omega);have d4:=hSr.cell 4 (by omega);have d5:=hSr.cell 5 (by omega);have d6:=hSr.cell 6 (by omega);have d7:=hSr.cell 7 (by omega)
                  go_wp2_with fail
                  refine wp_region_still_tail 6 (by kernel_rfl) (by kernel_rfl) ?_;simp only [List.take_succ_cons,List.take_zero,List.drop_succ_cons,List.drop_zero];rw [show ({ heap:=wr.heap,tape:=wr.tape,drawn:=wr.drawn + 1,os:=wr.os,output:=wr.output } : World) = wr.drew from rfl];have g1 : 64 * (i : Int) ≤ 64 * (i : Int) + 64:=by omega
                  have g2 : 0 ≤ 64 * (i : Int) + 64:=by omega
                  have t1 : (64 * (i : Int)).toNat = 64 * i:=by omega
                  have t2 : (64 * (i : Int) + 64).toNat = 64 * i + 64:=by omega
                  have t3 : ¬ c4 = 64 * i:=by omega
                  have e1 : IntKind.i64.wrap (64 * (i : Int) + 64) = 64 * (i : Int) + 64:=IntWalk.i64_in _ (by omega)
                  repeat still_step
                  clear e1 t1 t2 t3
                  try refine wpStill_nil ?_
                  have hMd : Row .u8 wr.drew g (64 * i) (M.drop (64 * i)):=hrow;have hKd : IBlk .u32 173 wr.drew BK K:=hKbr;have hgd : g < wr.drew.heap.size:=by have:=hKr.size;show g < wr.heap.size;omega
                  go_wp2_with fail
                  refine (block_any8 g (64 * i) 64 (c4 - 64 * i) BK (absorb M H0 i) (M.drop (64 * i)) K 173 _ (Nat.le_refl _) (by omega) hgd hMd hKd hsl hdl rfl).mono ?_;rintro e w' ⟨rfl,hb'⟩;have hBSw : BS < wr.heap.size:=hSr.lt;have hS' : IBlk .u32 172 w' BS (absorb M H0 i):=hSr.of_block (hb'.block BS hBSw);have hgS : w'.heap[BS]? = some (.cells ((absorb M H0 i).map (Value.int .u32)).toArray 172 (0,0)):=hS';have hsz8 : (Tryz.prog.info? 172).map (·.size) = some ((compress K (M.drop (64 * i)) (absorb M H0 i)).map (Value.int .u32)).toArray.size:=by
                    rw [List.size_toArray,List.length_map,compress_length,hsl];kernel_rfl
                  have hsz9 : ((absorb M H0 i).map (Value.int .u32)).toArray.size = ((compress K (M.drop (64 * i)) (absorb M H0 i)).map (Value.int .u32)).toArray.size:=by
                    rw [List.size_toArray,List.length_map,List.size_toArray,List.length_map,compress_length]
                  have hone : ((compress K (M.drop (64 * i)) (absorb M H0 i)).map (Value.int .u32)).toArray.all (·.oneCell') = true:=by simp [Value.oneCell']
                  have HgS:=Hid2.mk hgS;have Hsz8:=Hid2.mk hsz8;have Hsz9:=Hid2.mk hsz9;have Hone:=Hid2.mk hone;have hKp : Keep (fun k => k < w7.heap.size ∧ k ≠ BS) w7 w':=hKr.trans (((Keep.refl _ wr).drewN 1).trans ((Keep.of_below hb').mono (fun k hk => by have:=hKr.size;show k < wr.heap.size;omega)));clear hgS hsz8 hsz9 hone hMd hKd hgd d0 d1 d2 d3 d4 d5 d6 d7 hb' hrow hMr hKbr hKr hSr
                  go_wp2_with (refine wpList_store_row rfl 172 (.tmp 6) (.tmp 54) rfl BS _ rfl rfl 172 _ HgS.out Hsz8.out Hsz9.out Hone.out ?_)
                  have hS2 : IBlk .u32 172 (w'.setRow BS ((compress K (M.drop (64 * i)) (absorb M H0 i)).map (Value.int .u32)).toArray) BS (absorb M H0 (i + 1)):=setRow_heap _ _ _ _ _ _ HgS.out;have hKp2 : Keep (fun k => k < w7.heap.size ∧ k ≠ BS) w7 (w'.setRow BS ((compress K (M.drop (64 * i)) (absorb M H0 i)).map (Value.int .u32)).toArray):=keep_setRow hKp (fun h => h.2 rfl) _;clear hKp HgS Hsz8 Hsz9 Hone hS'
                  go_wp2_with fail
                  go_roundw
                  case rel => exact ⟨i + 1,by omega,by go_num,hS2,hKp2⟩
                  case measure => simp [intOf];omega
                · have eiq : i = q:=by omega
                  have hil : decide ((64 * (i : Int)) < (nn : Int)) = false:=decide_eq_false (by omega);rw [eiq] at hSr;have hHr:=hH7.keep hKr ⟨hH7.lt,by omega⟩;have hbelr : Below w.heap.size w wr:=hbel7.trans (hKr.mono (fun k (hk : k < w.heap.size) => ⟨Nat.lt_of_lt_of_le hk hbel7.size,by omega⟩)).below;obtain ⟨st,hst⟩ : ∃ st,st = absorb M H0 q:=⟨_,rfl⟩;have hstl : st.length = 8:=by rw [hst];exact absorb_length M H0 q
                  rw [← hst] at hSr;have hres : outR st 32 = refL l:=by
                    have e1 : M.length / 64 = q:=by rw [HMl.out,Hq.out]
                    rw [hst,← e1,Hpad.out];rfl
                  have Hres:=Hid2.mk hres;clear hres hst hMr hKbr hKr hsl eiq hKb hM7 hH7 hbel7 Hpad;have hz25:=zero25
                  go_wp2_with fail
                  clear hz25;have hO:=VBlk.mk wr (Z32.map (Value.int .u8)) 30;have hKo : Below wr.heap.size wr (wr.alloc (.cells (Z32.map (Value.int .u8)).toArray 30)):=(Below.refl _ _).alloc (Nat.le_refl _) _;generalize World.alloc _ _ = w8 at hO hKo ⊢;have hO8 : IBlk .u8 30 w8 wr.heap.size (outR st 0):=hO;have hS8:=hSr.below hKo hSr.lt;have hH8:=hHr.below hKo hHr.lt;have hbel8 : Below w.heap.size w w8:=hbelr.trans (hKo.mono hbelr.size);have hBO : BS < wr.heap.size:=hSr.lt;have hHO : w.heap.size < wr.heap.size:=hHr.lt;clear hO hKo hSr hHr hbelr;generalize wr.heap.size = BO at hO8 hBO hHO ⊢
                  go_loopw [10] (fun c wr => ∃ i : Nat,i ≤ 32 ∧ c = .int .i64 i ∧ IBlk .u8 30 wr BO (outR st i) ∧ Keep (fun k => k ≠ BO) w8 wr) (fun c _ => 32 - (intOf c).toNat)
                  case atStart => exact ⟨0,by omega,rfl,hO8,Keep.refl _ _⟩
                  case round =>
                    clear hO8;obtain ⟨i,hi,rfl,hOr,hKr⟩:=hrel;have hol:=outR_length st i
                    by_cases hi32 : i < 32
                    · have hSr:=hS8.keep hKr (by omega)
                      have c0:=hSr.cell (i / 4) (by omega);have c1:=hOr.cell i (by omega);have f1:=hOr.free i;have b4 : (i : Int) / 4 < 8:=by omega
                      have b5 : (i : Int) % 4 ≤ 3:=by omega
                      have b6 : 0 ≤ (i : Int) % 4:=by omega
                      go_wp2_with fail
                      go_roundw
                      case rel => exact ⟨i + 1,by omega,by go_num,hOr.set _ _,hKr.setCell (fun h => h rfl) _⟩
                      case measure => simp [intOf];omega
                    · have e9 : i = 32:=by omega
                      have hd32 : decide ((i : Int) < 32) = false:=decide_eq_false (by omega);rw [e9,Hres.out] at hOr;clear e9;obtain ⟨hh,hhe⟩ : ∃ hh,hh = refL l:=⟨_,rfl⟩;rw [← hhe] at hOr;have hhl : hh.length = 32:=by rw [hhe];exact outR_length _ _
                      have Hhe:=Hid2.mk hhe;have hHr:=hH8.keep hKr (by omega);have hbelf : Below w.heap.size w wr:=hbel8.trans (hKr.mono (fun k (hk : k < w.heap.size) => by omega)).below;have hgO : wr.heap[BO]? = some (.cells (hh.map (Value.int .u8)).toArray 30 (0,0)):=hOr;have hgH : wr.heap[w.heap.size]? = some (.cells (Z32.map (Value.int .u8)).toArray 30 (0,0)):=hHr;have hi25 : (Tryz.prog.info? 30).map (·.size) = some (hh.map (Value.int .u8)).toArray.size:=by
                        rw [List.size_toArray,List.length_map,hhl];kernel_rfl
                      have hi26 : (Z32.map (Value.int .u8)).toArray.size = (hh.map (Value.int .u8)).toArray.size:=by
                        rw [List.size_toArray,List.length_map,List.size_toArray,List.length_map,hhl];rfl
                      have hone : (hh.map (Value.int .u8)).toArray.all (·.oneCell') = true:=by simp [Value.oneCell']
                      have HgO:=Hid2.mk hgO;have HgH:=Hid2.mk hgH;have Hi25:=Hid2.mk hi25;have Hi26:=Hid2.mk hi26;have Hone:=Hid2.mk hone;clear hhe hOr hHr hH8 hS8 hbel8 hKr hgO hgH hi25 hi26 hone hol hhl Hres
                      go_wp2_with (first | (refine wpList_load_row rfl 30 (.tmp 9) rfl BO rfl 30 (hh.map (Value.int .u8)).toArray (0,0) _ HgO.out Tryz.underlying30 rfl Hi25.out ?_) | (refine wpList_store_row rfl 30 (.tmp 2) (.tmp 72) rfl w.heap.size (hh.map (Value.int .u8)).toArray rfl rfl 30 (Z32.map (Value.int .u8)).toArray HgH.out Hi25.out Hi26.out Hone.out ?_))
                      refine bodyPost_ret (results_cell_row rfl _ _ w.heap.size 30 (hh.map (Value.int .u8)).toArray (0,0) _ rfl (setRow_heap _ _ _ _ _ _ HgH.out) Tryz.underlying30 rfl Hi25.out) rfl ⟨by rw [Hhe.out],?_⟩;exact below_setRow hbelf (Nat.le_refl _) _
        · have ht : (((n : Int) % 64) != 56) = true:=by
            have : ¬ n % 64 = 56:=fun h => hzp ((padN_stop l.length z hz).1 (by rw [← hn1];exact h));rw [bne_iff_ne];omega
          have hzlt : z < padN l.length:=by omega
          have hMl : (M0 ++ zs z).length = n:=by rw [List.length_append,HM0l.out,hn1];simp [zs]
          have HMl:=Hid2.mk hMl;clear hMl hn1 hzp
          go_wp2_with (refine wpList_app rfl (.tmp 20) (.tmp 21) 119 rfl elemBytes (w.heap.size + 1) _ (M0 ++ zs z) rfl (hbr.alloc _) _ [0] rfl (Sl.one .u8 wr 0 5) (n + 1) ?g1 ?g2 ?g3 ?g4 ?g5)
          case g1 => rw [HMl.out];rfl
          case g2 => unfold maxLen;omega
          case g3 => omega
          case g4 => simp;omega
          case g5 =>
            intro sp5 c5 w5 hb5 hk5;have hb6 : Buf .u8 5 w5 (w.heap.size + 1) (.slice sp5 (n + 1) c5) (M0 ++ zs (z + 1)):=by
              have e : M0 ++ zs (z + 1) = M0 ++ (zs z ++ [0]):=by unfold zs;rw [List.replicate_succ']
              rw [e];first | exact hb5 | (rw [← List.append_assoc];exact hb5)
            have hk6 : Keep (fun k => k < w.heap.size + 1) W0 w5:=(hkr.trans ((Keep.refl _ wr).alloc (fun k (hk : k < w.heap.size + 1) => by omega) _)).trans hk5;clear hb5 hk5 hbr hkr hsr
            go_wp2_with fail
            go_roundw
            case rel => exact ⟨z + 1,n + 1,sp5,c5,by omega,by rw [Hn1.out];rfl,rfl,hb6,hk6⟩
            case measure => simp [lenOf];omega
end Dig
namespace Dig
theorem ext_nth (a b : List Int) (hl : a.length = b.length) (h : ∀ i,i < a.length → nth a i = nth b i) : a = b:=by
  apply List.ext_getElem hl
  intro i h1 h2;have:=h i h1
  simpa [nth,h1,h2] using this
theorem nth_outR (st : List Int) (n i : Nat) (hi : i < n) (hn : n ≤ 32) : nth (outR st n) i = nth st (i / 4) / 2 ^ (24 - 8 * (i % 4)) % 256:=by
  induction n with
  | zero => omega
  | succ n ih =>
    rw [outR]
    by_cases h : i = n
    · subst h;exact nth_set_eq _ _ _ (by rw [outR_length];omega)
    · rw [nth_set_ne _ _ _ _ h];exact ih (by omega) (by omega)
theorem nth_outH (st : List Int) (n i : Nat) (hi : i < 4 * n) (hn : n ≤ 8) : nth (outH st n) i = nth st (i / 4) / 2 ^ (24 - 8 * (i % 4)) % 256:=by
  induction n with
  | zero => omega
  | succ n ih =>
    rw [outH];have hl:=outH_length st n
    by_cases h3 : i = 4 * n + 3
    · subst h3
      rw [nth_set_eq _ _ _ (by simp [hl];omega),show (4 * n + 3) / 4 = n from by omega,show (4 * n + 3) % 4 = 3 from by omega];simp
    · rw [nth_set_ne _ _ _ _ h3]
      by_cases h2 : i = 4 * n + 2
      · subst h2
        rw [nth_set_eq _ _ _ (by simp [hl];omega),show (4 * n + 2) / 4 = n from by omega,show (4 * n + 2) % 4 = 2 from by omega]
        rfl
      · rw [nth_set_ne _ _ _ _ h2]
        by_cases h1 : i = 4 * n + 1
        · subst h1
          rw [nth_set_eq _ _ _ (by simp [hl];omega),show (4 * n + 1) / 4 = n from by omega,show (4 * n + 1) % 4 = 1 from by omega]
          rfl
        · rw [nth_set_ne _ _ _ _ h1]
          by_cases h0 : i = 4 * n
          · subst h0
            rw [nth_set_eq _ _ _ (by simp [hl];omega),show (4 * n) / 4 = n from by omega,show (4 * n) % 4 = 0 from by omega]
            rfl
          · rw [nth_set_ne _ _ _ _ h0];exact ih (by omega) (by omega)
theorem outR_eq (st : List Int) : outR st 32 = outH st 8 :=
  ext_nth _ _ (by rw [outR_length,outH_length]) (fun i hi => by
    rw [outR_length] at hi;rw [nth_outR st 32 i hi (Nat.le_refl _),nth_outH st 8 i (by omega) (Nat.le_refl _)])
theorem nth_left (a b : List Int) (i : Nat) (h : i < a.length) : nth (a ++ b) i = nth a i:=by
  simp [nth,List.getElem?_append_left h]
theorem nth_right (a b : List Int) (i : Nat) (h : a.length ≤ i) : nth (a ++ b) i = nth b (i - a.length):=by
  simp [nth,List.getElem?_append_right h]
theorem nth_drop (a : List Int) (n i : Nat) : nth (a.drop n) i = nth a (n + i):=by simp [nth]
theorem nth_zs (n i : Nat) : nth (zs n) i = 0:=by
  unfold nth zs
  by_cases h : i < n
  · simp [h]
  · simp [List.getElem?_eq_none (show (List.replicate n (0 : Int)).length ≤ i by simp;omega)]
theorem load_congr (a b : List Int) (n : Nat) (hn : n ≤ 16) (h : ∀ i,i < 64 → nth a i = nth b i) : load a n = load b n:=by
  induction n with
  | zero => rfl
  | succ n ih =>
    rw [load,load,ih (by omega)];unfold wordAt;rw [h _ (by omega),h _ (by omega),h _ (by omega),h _ (by omega)]
theorem compress_congr (kk a b st : List Int) (h : ∀ i,i < 64 → nth a i = nth b i) : compress kk a st = compress kk b st:=by
  unfold compress;rw [load_congr a b 16 (Nat.le_refl _) h]
theorem absorb_congr (a b st : List Int) (e : Nat) (h : ∀ i,i < 64 * e → nth a i = nth b i) : absorb a st e = absorb b st e:=by
  induction e with
  | zero => rfl
  | succ e ih =>
    rw [absorb,absorb,ih (fun i hi => h i (by omega))];exact compress_congr _ _ _ _ (fun i hi => by rw [nth_drop,nth_drop];exact h _ (by omega))
theorem absorb_add (a st : List Int) (j e : Nat) : absorb a st (j + e) = absorb (a.drop (64 * j)) (absorb a st j) e:=by
  induction e with
  | zero => rfl
  | succ e ih =>
    rw [← Nat.add_assoc,absorb,absorb,ih,List.drop_drop,Nat.mul_add]
theorem nth_lenB (n i t : Nat) (h : t < i) : nth (lenB n i) t = (n : Int) * 8 / 2 ^ (8 * (7 - t)) % 256:=by
  induction i with
  | zero => omega
  | succ i ih =>
    rw [lenB]
    by_cases ht : t < i
    · rw [nth_left _ _ _ (by rw [lenB_length];exact ht)];exact ih ht
    · have : t = i:=by omega
      subst this;rw [nth_right _ _ _ (by rw [lenB_length];exact Nat.le_refl _),lenB_length,Nat.sub_self]
      rfl
theorem nth_putLen (p : List Int) (E n i x : Nat) (hE : E ≤ p.length) (hi : i ≤ E) :
    nth (putLen p E n i) x = if E - i ≤ x ∧ x < E then (n : Int) * 8 / 2 ^ (8 * (E - 1 - x)) % 256 else nth p x:=by
  induction i with
  | zero => rw [if_neg (by omega)];rfl
  | succ i ih =>
    rw [putLen]
    by_cases hx : x = E - 1 - i
    · rw [if_pos (by omega),hx,nth_set_eq _ _ _ (by rw [putLen_length];omega)]
      rw [show E - 1 - (E - 1 - i) = i from by omega]
    · rw [nth_set_ne _ _ _ _ hx,ih (by omega)]
      by_cases h1 : E - i ≤ x ∧ x < E
      · rw [if_pos h1,if_pos (by omega)]
      · rw [if_neg h1,if_neg (by omega)]
theorem zs_length (n : Nat) : (zs n).length = n:=by simp [zs]
theorem padded_length (l : List Int) : (padded l).length = l.length + 1 + padN l.length + 8:=by
  unfold padded;rw [List.length_append,List.length_append,List.length_append,lenB_length,zs_length];rfl
theorem padded_lo (l : List Int) (y : Nat) (h : y < l.length) : nth (padded l) y = nth l y:=by
  unfold padded;rw [List.append_assoc,List.append_assoc,nth_left _ _ _ h]
theorem padded_at (l : List Int) (y : Nat) (h : y = l.length) : nth (padded l) y = 128:=by
  unfold padded;rw [List.append_assoc,List.append_assoc,nth_right _ _ _ (by omega),h,Nat.sub_self];rfl
theorem padded_mid (l : List Int) (y : Nat) (h : l.length < y) (h2 : y < l.length + 1 + padN l.length) : nth (padded l) y = 0:=by
  unfold padded;have h1 : (l ++ [128]).length = l.length + 1:=by simp
  rw [List.append_assoc (l ++ [128]),nth_right _ _ _ (by omega),nth_left _ _ _ (by rw [zs_length];omega),nth_zs]
theorem padded_hi (l : List Int) (y t : Nat) (h : y = l.length + 1 + padN l.length + t) (ht : t < 8) : nth (padded l) y = (l.length : Int) * 8 / 2 ^ (8 * (7 - t)) % 256:=by
  unfold padded;have h1 : (l ++ [128] ++ zs (padN l.length)).length = l.length + 1 + padN l.length:=by rw [List.length_append,zs_length];simp
  rw [nth_right _ _ _ (by omega),h1,h,Nat.add_sub_cancel_left,nth_lenB _ _ _ ht]
theorem refL_eq (l : List Int) : refL l = sumL l:=by
  have hrl : (l.drop (64 * (l.length / 64))).length = l.length % 64:=by rw [List.length_drop];omega
  have hpl:=padded_length l;have hpre : ∀ i,i ≤ l.length / 64 → absorb (padded l) H0 i = absorb l H0 i:=fun i hi =>
    absorb_congr _ _ _ _ (fun x hx => padded_lo l x (by omega))
  have key : ∀ e,(padded l).length / 64 = l.length / 64 + e → e ≤ 2 → l.length % 64 + 1 + padN l.length + 8 = 64 * e →
      refL l = outH (absorb (putLen ((l.drop (64 * (l.length / 64)) ++ List.replicate (128 - l.length % 64) 0).set (l.length % 64) 128) (64 * e) l.length 8) (absorb l H0 (l.length / 64)) e) 8:=by
    intro e he he2 hlen;unfold refL;rw [outR_eq,he,absorb_add,hpre _ (Nat.le_refl _)]
    congr 1
    refine absorb_congr _ _ _ _ (fun x hx => ?_);obtain ⟨rl,hrle⟩ : ∃ rl,rl = l.drop (64 * (l.length / 64)):=⟨_,rfl⟩;have hrx : ∀ y,nth rl y = nth l (64 * (l.length / 64) + y):=fun y => by rw [hrle,nth_drop]
    rw [← hrle] at hrl ⊢;have hbl : (rl ++ List.replicate (128 - l.length % 64) (0 : Int)).length = 128:=by
      rw [List.length_append,hrl,List.length_replicate];omega
    rw [nth_drop,nth_putLen _ _ _ _ _ (by rw [List.length_set,hbl];omega) (by omega)]
    by_cases h1 : x < l.length % 64
    · rw [if_neg (by omega),nth_set_ne _ _ _ _ (by omega),nth_left _ _ _ (by rw [hrl];exact h1),hrx]
      exact padded_lo l _ (by omega)
    · by_cases h2 : x = l.length % 64
      · rw [if_neg (by omega),h2,nth_set_eq _ _ _ (by rw [hbl];omega)]
        exact padded_at l _ (by omega)
      · by_cases h3 : x < 64 * e - 8
        · rw [if_neg (by omega),nth_set_ne _ _ _ _ h2,nth_right _ _ _ (by rw [hrl];omega),padded_mid l _ (by omega) (by omega)]
          exact (nth_zs _ _).symm
        · rw [if_pos (by omega),padded_hi l _ (x - (64 * e - 8)) (by omega) (by omega),show 7 - (x - (64 * e - 8)) = 64 * e - 1 - x from by omega]
  unfold sumL;simp only [hrl]
  by_cases h56 : 56 ≤ l.length % 64
  · rw [if_pos h56]
    exact key 2 (by unfold padN at hpl;omega) (by omega) (by unfold padN;omega)
  · rw [if_neg h56]
    exact key 1 (by unfold padN at hpl;omega) (by omega) (by unfold padN;omega)
theorem outH_range (st : List Int) : ∀ i,i < 32 → 0 ≤ nth (outH st 8) i ∧ nth (outH st 8) i ≤ 255:=by
  intro i hi;rw [nth_outH st 8 i (by omega) (Nat.le_refl _)];omega
theorem sumL_range (l : List Int) : ∀ i,i < 32 → 0 ≤ nth (sumL l) i ∧ nth (sumL l) i ≤ 255:=outH_range _
end Dig
namespace Dig
theorem refSum_s (v : Value) (l : List Int) (w : World) (hv : Sl .u8 w v l) (hn : l.length ≤ 35184372088832) :
    Calls Tryz.prog 94 #[v] w fun e w' => e = .returned (.agg ((sumL l).map (Value.int .u8)).toArray) ∧ Below w.heap.size w w':=by
  rw [← refL_eq];exact refSum_any v l w hv hn
theorem progSum_s (v : Value) (l : List Int) (w : World) (hv : Sl .u8 w v l) (hn : l.length ≤ 35184372088832) :
    Calls Tryz.prog 110 #[v] w fun e w' => e = .returned (.agg ((sumL l).map (Value.int .u8)).toArray) ∧ Below w.heap.size w w' :=
  sum_any v l w hv (by omega)
end Dig
theorem part_int {P : Program} (w : World) {e : TypeId} {k : IntKind} (he : P.underlying e = some (.int k)) (l : List Int) (i : Nat) (hi : i < l.length) :
    (part e (l.map (Value.int k)).toArray i).run P w = .ok (.int k (nth l i)) w:=by
  have hagg : (isAgg e).run P w = .ok false w:=by
    unfold isAgg;rw [Sem.run_bind,run_underlying he w];rfl
  have hc : (l.map (Value.int k)).toArray[i]? = some (.int k (nth l i)):=by simp [nth,hi]
  simp [part,Sem.run_bind,hagg,hc]
theorem eqItems_ints {P : Program} (w : World) (d : Nat) {e : TypeId} {k : IntKind} (he : P.underlying e = some (.int k)) (xs ys : List Int) :
    ∀ is : List Nat,(∀ i ∈ is,i < xs.length ∧ i < ys.length) → (Op.eqItems (d + 1) e 1 (xs.map (Value.int k)).toArray (ys.map (Value.int k)).toArray is).run P w = .ok (is.all fun i => nth xs i == nth ys i) w
  | [],_ => by simp [Op.eqItems]
  | i :: is,h => by
    obtain ⟨h1,h2⟩:=h i (by simp);have ih:=eqItems_ints w d he xs ys is (fun j hj => h j (by simp [hj]));simp only [Op.eqItems,Sem.run_bind,Nat.mul_one,part_int w he xs i h1,part_int w he ys i h2,Result.andThen_ok,run_equalIn_int w d e k k (nth xs i) (nth ys i) he,List.all_cons]
    by_cases hx : (nth xs i == nth ys i) = true
    · simp [hx,ih]
    · simp [hx]
theorem all_nth (xs ys : List Int) (n : Nat) (ha : xs.length = n) (hb : ys.length = n) : ((List.range n).all fun i => nth xs i == nth ys i) = decide (xs = ys):=by
  rw [Bool.eq_iff_iff];simp only [List.all_eq_true,List.mem_range,beq_iff_eq,decide_eq_true_eq]
  constructor
  · intro h
    apply List.ext_getElem (ha.trans hb.symm)
    intro i h1 h2;have:=h i (by omega)
    simpa [nth,h1,h2] using this
  · intro h i _;rw [h]
theorem run_eql_ints {P : Program} (w : World) {t e : TypeId} {k : IntKind} {n : Nat} {i : TypeInfo} (hu : P.underlying t = some (.array n e)) (he : P.underlying e = some (.int k)) (hi : P.info? e = some i) (hs : i.size = 1)
    (xs ys : List Int) (ha : xs.length = n) (hb : ys.length = n) :
    (binOp .eql t (.agg (xs.map (Value.int k)).toArray) (.agg (ys.map (Value.int k)).toArray)).run P w = .ok (.bool (decide (xs = ys))) w:=by
  have hc : P.cellsOf e = 1:=by simp [Program.cellsOf,hi,hs]
  have h1 : (Op.equalIn (9999 + 1) t (.agg (xs.map (Value.int k)).toArray) (.agg (ys.map (Value.int k)).toArray)).run P w = .ok (decide (xs = ys)) w:=by
    rw [run_equalIn_array w 9999 _ _ hu hi,hc,eqItems_ints w 9998 he xs ys (List.range n) (fun j hj => by simp at hj;omega),all_nth xs ys n ha hb]
  have hg : (binOp .eql t (.agg (xs.map (Value.int k)).toArray) (.agg (ys.map (Value.int k)).toArray)).run P w = ((Op.equalIn 10000 t (.agg (xs.map (Value.int k)).toArray) (.agg (ys.map (Value.int k)).toArray)).run P w).andThen fun b w' => .ok (.bool b) w':=run_eql_struct w t _ _;rw [hg,h1];rfl
namespace K
abbrev hashC (h : List Int) : List Value:=h.map (Value.int .u8)
theorem hash_eql (a b : List Int) (ha : a.length = 32) (hb : b.length = 32) (W : World) : (binOp .eql 30 (.agg (hashC a).toArray) (.agg (hashC b).toArray)).run Tryz.prog W = .ok (.bool (decide (a = b))) W:=by
  have hq : (Tryz.prog.info? 5).map (fun i => (i.zero,i.size,i.bytes)) = some (some (.int .u8 0),1,1):=by kernel_rfl
  obtain ⟨ie,hie,he⟩:=Option.map_eq_some_iff.1 hq;obtain ⟨-,he2⟩:=Prod.mk.inj he;exact run_eql_ints W Tryz.underlying30 Tryz.underlying5 hie (Prod.mk.inj he2).1 a b ha hb
theorem hash_guard (x y : Operand) (a b : Array Value) (W : World) : (eqGuard .eql 30 x y (.agg a) (.agg b)).run Tryz.prog W = .ok () W:=by
  have h : Tryz.prog.eqGuardType Tryz.prog.depth 30 = false:=by kernel_rfl
  simp [eqGuard,h]
section
variable {n : NN} {Q : Exit → Act → World → Prop} {l : Env} {w w' : World} {ops : Array Oper} {o : Oper} {rest : List Oper} {d : Nat}
theorem WL.eqlH {x y : Operand} {t2 : Nat} {a b : List Int} (hg : o.guard = none) (hd : o.dst = some d) (hn : Nat.blt d n.n = true) (ho : o.op = .binOp .eql 30 x y t2) (hx : evl l x = some (.agg (hashC a).toArray)) (hy : evl l y = some (.agg (hashC b).toArray))
    (ha : a.length = 32) (hb : b.length = 32) (h : WL n ops Q rest ((d,.bool (decide (a = b))) :: l) w) : WL n ops Q (o :: rest) l w :=
  WL.step hg hd hn (fun c hc => by
    unfold execOp;rw [ho];simp only [hc.eval hx,hc.eval hy,Sem.run_bind,hash_guard,Result.andThen_ok,hash_eql a b ha hb w]
    rfl) h
end
theorem leaf_any {w : World} {v : Value} {l : List Int} (hv : Sl .u8 w v l) (hn : l.length ≤ 17592186044416) :
    Calls Tryz.prog 97 #[v] w fun e w' => e = .returned (.agg (hashC (Dig.sumL (0 :: l))).toArray) ∧ Below w.heap.size w w':=by
  refine enter (args:=[v]) Tryz.func97 rfl Tryz.ntmps97 rfl ?_;refine K.kgo ?_;refine WL.alloc (z:=.agg (hashC Dig.Z32).toArray) rfl rfl rfl rfl (Dig.zero25) fun g w1 hf => ?_;have hf' : Fresh w g w1 30 (hashC Dig.Z32):=hf;clear hf;have hz:=hf'.size;have he:=hf'.eq;refine K.kgo ?_;refine WL.lit rfl rfl rfl rfl rfl rfl rfl fun b2 w2 hb2 hk2 hg2 => ?_;have hw2 : Below w.heap.size w w2:=hf'.below.trans (hk2.mono (by omega));refine K.kgo ?_;refine WL.app rfl rfl rfl rfl rfl hb2 rfl (hv.of_below hw2) (by simp only [List.length_cons,List.length_nil];omega) fun b3 w3 hb3 hg3 => ?_;have hk3 : Below w1.heap.size w1 w3:=hk2.trans (hg3.old hk2.size hg2);refine WL.call rfl rfl rfl rfl rfl Tryz.func110 rfl (by kernel_rfl) (Dig.progSum_s b3 _ w3 hb3.sl (by rw [List.length_append];simp only [List.length_cons,List.length_nil];omega)) ?_;rintro _ w4 ⟨rfl,hk4⟩;refine ⟨_,rfl,?_⟩;have hk4' : Below w1.heap.size w1 w4:=hk3.trans (hk4.mono hk3.size);have B4:=hf'.blk.below hk4' hf'.blk.lt;have hlen : (hashC (Dig.sumL (0 :: l))).length = 32:=by rw [List.length_map];exact Dig.sumL_length _
  refine WL.storeRow rfl rfl rfl rfl rfl rfl B4 hlen (by rfl) (Ones.int _ _) ?_;refine K.kgo ?_;exact WQ.retC rfl rfl rfl hlen (B4.setRow _) ⟨rfl,below_setRow (hf'.below.trans (hk4'.mono (by omega))) (by omega) _⟩
def hashR (v : V) : List Int:=if (encR v).2 ≠ 0 then Dig.Z32 else Dig.sumL (0 :: (encR v).1)
theorem hashR_len (v : V) : (hashR v).length = 32:=by unfold hashR;split;rfl;exact Dig.sumL_length _
def HashPost (w : World) (v : V) (e : Ending) (w' : World) : Prop:=e = .returned (.tuple #[.agg (hashC (hashR v)).toArray,.int .i64 (encR v).2]) ∧ Below w.heap.size w w'
theorem hash_any {f : Nat} {w : World} {v : V} {cs : List Value} (h : IsV f w v cs) (hlen : chk 16 v = 0 → (encV 16 v).length ≤ 70368744177664) :
    Calls Tryz.prog 73 #[.agg cs.toArray] w (HashPost w v):=by
  have hcs:=h.len;refine enter (args:=[.agg cs.toArray]) Tryz.func73 rfl Tryz.ntmps73 rfl ?_;refine K.kgo ?_;refine WL.box rfl rfl rfl rfl rfl fun g w1 hf => ?_;have hf' : Fresh w g w1 48 cs:=hf;clear hf;refine WL.alloc (z:=.agg (hashC Dig.Z32).toArray) rfl rfl rfl rfl (Dig.zero25) fun g2 w2 hf2 => ?_;have hf2' : Fresh w1 g2 w2 30 (hashC Dig.Z32):=hf2;clear hf2;have hz1:=hf'.size;have hz2:=hf2'.size;have he1:=hf'.eq;have he2:=hf2'.eq;have hw2 : Below w.heap.size w w2:=hf'.below.trans (hf2'.below.mono (by omega));have B1:=hf'.blk.below hf2'.below hf'.blk.lt;refine K.kgo ?_;refine WL.loadMid rfl rfl rfl rfl rfl rfl (VBlk.rangeAt B1) hcs ?_;refine WL.call rfl rfl rfl rfl rfl Tryz.func77 rfl (by kernel_rfl) (encode_any (h.below hw2) hlen) ?_;rintro _ w3 ⟨b,rfl,hb,hk3,-⟩;refine ⟨_,rfl,?_⟩;have hw3 : Below w.heap.size w w3:=hw2.trans (hk3.mono (by omega));have B23:=hf2'.blk.below hk3 hf2'.blk.lt;have hz3:=hk3.size
  by_cases he : (encR v).2 = 0
  · have hR : hashR v = Dig.sumL (0 :: (encR v).1):=by unfold hashR;rw [if_neg (by simpa using he)]
    have hl65:=(encR_ok he).2.1;rw [← (encR_ok he).2.2] at hl65;refine K.kgo ?_;refine WL.call rfl rfl rfl rfl rfl Tryz.func97 rfl (by kernel_rfl) (leaf_any hb.sl (by omega)) ?_;rintro _ w4 ⟨rfl,hk4⟩;refine ⟨_,rfl,?_⟩;have hlen2 : (hashC (Dig.sumL (0 :: (encR v).1))).length = 32:=by rw [List.length_map];exact Dig.sumL_length _
    have B24:=B23.below hk4 B23.lt;refine WL.storeRow rfl rfl rfl rfl rfl rfl B24 hlen2 (by rfl) (Ones.int _ _) ?_;refine K.kgo ?_;exact WQ.retCT rfl rfl rfl rfl hlen2 (B24.setRow _) ⟨by rw [hR,he],below_setRow (hw3.trans (hk4.mono (by omega))) (by omega) _⟩
  · have hR : hashR v = Dig.Z32:=by unfold hashR;rw [if_pos he]
    refine K.kgo ?_;refine WL.build (hashC Dig.Z32) rfl rfl rfl rfl rfl (by kernel_rfl) ?_;refine K.kgo ?_;refine WL.storeRow rfl rfl rfl rfl rfl rfl B23 (by rfl) (by rfl) (Ones.int _ _) ?_;refine K.kgo ?_;exact WQ.retCT rfl rfl rfl rfl (by rfl) (B23.setRow _) ⟨by rw [hR];rfl,below_setRow hw3 (by omega) _⟩
end K
namespace K
structure En where
  kind : Int
  text : ByteArray
  table : Int
  doc : Int
  ver : Int
  data : V
  hash : List Int
  gone : Bool
  ab : Int
  ae : Int
def noE : En:=⟨0,noT,0,0,0,zV,Dig.Z32,false,0,0⟩
structure Bk where
  index : Int
  time : Int
  txn : Int
  prev : List Int
  ents : List En
def noB : Bk:=⟨0,0,0,Dig.Z32,[]⟩
def nilE (e : En) : Prop:=e.text.size = 0 ∧ e.table = 0 ∧ e.doc = 0 ∧ e.ver = 0 ∧ e.data = zV ∧ e.hash = Dig.Z32 ∧ e.gone = false ∧ e.ab = 0 ∧ e.ae = 0
def formE (e : En) : Prop :=
  if e.kind = 1 then 1 ≤ e.text.size ∧ e.text.size ≤ 4096 ∧ nilE { e with text:=noT }
  else if e.kind = 2 then (1 ≤ e.table ∧ e.table ≤ 64) ∧ (1 ≤ e.doc ∧ e.doc ≤ 65536) ∧ (0 ≤ e.ver ∧ e.ver ≤ 2147483648) ∧ nilE { e with data:=zV,hash:=Dig.Z32,gone:=false,table:=0,doc:=0,ver:=0 } ∧ (e.gone = true → e.data = zV)
  else if e.kind = 3 then (1 ≤ e.table ∧ e.table ≤ 64) ∧ (1 ≤ e.doc ∧ e.doc ≤ 65536) ∧ (1 ≤ e.ver ∧ e.ver ≤ 2147483648) ∧ nilE { e with table:=0,doc:=0,ver:=0 }
  else if e.kind = 4 then (0 ≤ e.ab ∧ e.ab ≤ 2147483648) ∧ (0 ≤ e.ae ∧ e.ae ≤ 2147483648) ∧ nilE { e with ab:=0,ae:=0 }
  else if e.kind = 5 ∨ e.kind = 7 then (1 ≤ e.table ∧ e.table ≤ 64) ∧ 1 ≤ e.text.size ∧ e.text.size ≤ 40 ∧ nilE { e with table:=0,text:=noT }
  else if e.kind = 6 then (1 ≤ e.table ∧ e.table ≤ 64) ∧ nilE { e with table:=0 }
  else False
open Classical in
noncomputable def chkE (e : En) : Int :=
  if formE e then (if e.kind ≠ 2 ∨ e.gone = true then 0 else if (encR e.data).2 ≠ 0 then (encR e.data).2 else if hashR e.data = e.hash then 0 else 18) else 3
def layE (e : En) : List Int :=
  e.kind :: (uvB e.table.toNat ++ (uvB e.doc.toNat ++ (uvB e.ver.toNat ++ (uvB e.text.size ++ (byI e.text ++ (uvB e.ab.toNat ++ (uvB e.ae.toNat ++ (if e.kind = 2 then e.hash else []))))))))
def layD (data : Bool) (e : En) : List Int :=
  if e.kind = 2 then (if e.gone = true ∨ data = false then [0] else 1 :: (uvB (encR e.data).1.length ++ (encR e.data).1)) else []
def headL (b : Bk) : List Int:=uvB b.index.toNat ++ (uvB b.time.toNat ++ (uvB b.txn.toNat ++ b.prev))
def layB (data : Bool) (b : Bk) : List Int:=headL b ++ (uvB b.ents.length ++ b.ents.flatMap fun e => layE e ++ layD data e)
noncomputable def chkB (b : Bk) : Int :=
  if (0 ≤ b.index ∧ b.index ≤ 2147483648) ∧ (0 ≤ b.time ∧ b.time ≤ 9007199254740992) ∧ (0 ≤ b.txn ∧ b.txn ≤ 9007199254740992) ∧ (1 ≤ b.ents.length ∧ b.ents.length ≤ 200) then
    (if firstBad (b.ents.map chkE) ≠ 0 then firstBad (b.ents.map chkE) else if 262144 < (layB true b).length then 5 else 0) else 1
theorem formE_rng {e : En} (h : formE e) : (1 ≤ e.kind ∧ e.kind ≤ 7) ∧ (0 ≤ e.table ∧ e.table ≤ 64) ∧ (0 ≤ e.doc ∧ e.doc ≤ 65536) ∧ (0 ≤ e.ver ∧ e.ver ≤ 2147483648) ∧ e.text.size ≤ 4096 ∧ (0 ≤ e.ab ∧ e.ab ≤ 2147483648) ∧ (0 ≤ e.ae ∧ e.ae ≤ 2147483648) ∧
    (e.kind ≠ 2 → e.data = zV ∧ e.hash = Dig.Z32 ∧ e.gone = false) ∧ (e.gone = true → e.data = zV):=by
  unfold formE nilE at h
  by_cases k1 : e.kind = 1
  · rw [if_pos k1] at h
    obtain ⟨h1,h2,h3,h4,h5,h6,h7,h8,h9,h10,h11⟩:=h;simp only at h3 h4 h5 h6 h7 h8 h9 h10 h11;exact ⟨by omega,by omega,by omega,by omega,by omega,by omega,by omega,fun _ => ⟨h7,h8,h9⟩,fun h => by rw [h9] at h;cases h⟩
  rw [if_neg k1] at h
  by_cases k2 : e.kind = 2
  · rw [if_pos k2] at h
    obtain ⟨a1,a2,a3,⟨h3,h4,h5,h6,h7,h8,h9,h10,h11⟩,h12⟩:=h;simp only at h3 h4 h5 h6 h7 h8 h9 h10 h11;exact ⟨by omega,by omega,by omega,by omega,by omega,by omega,by omega,fun h => absurd k2 h,h12⟩
  rw [if_neg k2] at h
  by_cases k3 : e.kind = 3
  · rw [if_pos k3] at h
    obtain ⟨a1,a2,a3,h3,h4,h5,h6,h7,h8,h9,h10,h11⟩:=h;simp only at h3 h4 h5 h6 h7 h8 h9 h10 h11;exact ⟨by omega,by omega,by omega,by omega,by omega,by omega,by omega,fun _ => ⟨h7,h8,h9⟩,fun h => by rw [h9] at h;cases h⟩
  rw [if_neg k3] at h
  by_cases k4 : e.kind = 4
  · rw [if_pos k4] at h
    obtain ⟨a1,a2,h3,h4,h5,h6,h7,h8,h9,h10,h11⟩:=h;simp only at h3 h4 h5 h6 h7 h8 h9 h10 h11;exact ⟨by omega,by omega,by omega,by omega,by omega,by omega,by omega,fun _ => ⟨h7,h8,h9⟩,fun h => by rw [h9] at h;cases h⟩
  rw [if_neg k4] at h
  by_cases k5 : e.kind = 5 ∨ e.kind = 7
  · rw [if_pos k5] at h
    obtain ⟨a1,h1,h2,h3,h4,h5,h6,h7,h8,h9,h10,h11⟩:=h;simp only at h3 h4 h5 h6 h7 h8 h9 h10 h11;exact ⟨by omega,by omega,by omega,by omega,by omega,by omega,by omega,fun _ => ⟨h7,h8,h9⟩,fun h => by rw [h9] at h;cases h⟩
  rw [if_neg k5] at h
  by_cases k6 : e.kind = 6
  · rw [if_pos k6] at h
    obtain ⟨a1,h3,h4,h5,h6,h7,h8,h9,h10,h11⟩:=h;simp only at h3 h4 h5 h6 h7 h8 h9 h10 h11;exact ⟨by omega,by omega,by omega,by omega,by omega,by omega,by omega,fun _ => ⟨h7,h8,h9⟩,fun h => by rw [h9] at h;cases h⟩
  rw [if_neg k6] at h;exact h.elim
theorem chkE_ok {e : En} (h : chkE e = 0) : formE e ∧ (e.kind = 2 → e.gone = false → (encR e.data).2 = 0 ∧ hashR e.data = e.hash):=by
  unfold chkE at h
  by_cases hf : formE e
  · rw [if_pos hf] at h
    refine ⟨hf,fun hk hg => ?_⟩;rw [if_neg (by simp [hk,hg])] at h
    by_cases h2 : (encR e.data).2 = 0
    · rw [if_neg (by simpa using h2)] at h
      by_cases h3 : hashR e.data = e.hash
      · exact ⟨h2,h3⟩
      · rw [if_neg h3] at h;cases h
    · rw [if_pos h2] at h;exact absurd h h2
  · rw [if_neg hf] at h;cases h
def RngE (e : En) : Prop:=(∃ f,Rng f e.data) ∧ e.hash.length = 32
end K
namespace Vw
open K (En Bk zV)
open Cat (Tb appC appL tabR)
structure Rw where
  tab : Int
  doc : Int
  ver : Int
  data : V
  gone : Bool
  del : Bool
  blk : Int
  ent : Int
  tim : Int
def noR : Rw:=⟨0,0,0,zV,false,false,0,0,0⟩
abbrev Rw.key (r : Rw) : Int × Int:=(r.tab,r.doc)
abbrev Rw.adr (r : Rw) : Int × Int:=(r.blk,r.ent)
structure St where
  cat : List Tb
  rows : List Rw
  n : Nat
  red : Int × Int → Bool
def st0 : St:=⟨[],[],0,fun _ => false⟩
def of (L : List Rw) (k : Int × Int) : List Rw:=L.filter fun r => decide (r.key = k)
def cnt (t : Int) (L : List Rw) : Nat:=(L.filter fun r => decide (r.tab = t) && decide (r.ver = 0)).length
def next (s : St) (t : Int) : Int:=if (tabR s.cat t).2.2 = 0 then (cnt t s.rows : Int) + 1 else 0
def fits (s : St) (e : En) : Bool :=
  if e.ver = 0 then decide (e.doc = next s e.table)
  else match (of s.rows (e.table,e.doc)).getLast? with
    | some r => !r.del && decide (r.ver + 1 = e.ver)
    | none => false
def rowOf (e : En) (bi k tim : Int) : Rw:=⟨e.table,e.doc,e.ver,e.data,e.gone,decide (e.kind = 3),bi,k,tim⟩
def hit (s : St) (a : Int × Int) (r : Rw) : Bool:=decide (r.blk = a.1) && decide (r.ent = a.2) && !r.del && !s.red a
def shut (r : Rw) : Rw:={ r with gone:=true,data:=zV }
def redP (f : Int × Int → Bool) (a : Int × Int) : Int × Int → Bool:=fun x => if x = a then true else f x
def entR (s : St) (e : En) (bi k tim : Int) : Int × St :=
  if appC s.cat e.kind e.text e.table ≠ 0 then (appC s.cat e.kind e.text e.table, s)
  else if e.kind = 2 ∨ e.kind = 3 then
    (if (tabR s.cat e.table).2.2 ≠ 0 ∨ (tabR s.cat e.table).2.1.dropped = true ∨ fits s e = false then (3, s)
     else (0, { s with rows := s.rows ++ [rowOf e bi k tim] }))
  else if e.kind = 4 then
    (match s.rows.findIdx? (hit s (e.ab, e.ae)) with
     | some i => (0, { s with rows := s.rows.set i (shut (s.rows.getD i noR)), red := redP s.red (e.ab, e.ae) })
     | none => (3, s))
  else (0, { s with cat := appL s.cat e.kind e.text e.table })
def runR (b : Bk) : List En → Nat → St → Int × St
  | [],_,s => (0,s)
  | e :: r,k,s => if (entR s e b.index k b.time).1 = 0 then runR b r (k + 1) (entR s e b.index k b.time).2 else ((entR s e b.index k b.time).1,(entR s e b.index k b.time).2)
open Classical in
noncomputable def appR (s : St) (b : Bk) : Int × St :=
  if b.index ≠ s.n then (3,s) else if K.chkB b ≠ 0 then (K.chkB b,s)
  else if (runR b b.ents 0 s).1 = 0 then (0,{ (runR b b.ents 0 s).2 with n:=s.n + 1 }) else ((runR b b.ents 0 s).1,s)
theorem getD_lt {α : Type} {l : List α} {i : Nat} {d : α} (h : i < l.length) : l.getD i d = l[i]:=by rw [List.getD_eq_getElem?_getD,List.getElem?_eq_getElem h];rfl
theorem last_at {L : List Rw} {k : Int × Int} {i : Nat} (hi : i < L.length) (hk : (L.getD i noR).key = k) (hn : ∀ j,i < j → j < L.length → (L.getD j noR).key ≠ k) : (of L k).getLast? = some (L.getD i noR):=by
  have e : L = L.take i ++ (L.getD i noR :: L.drop (i + 1)):=by
    rw [getD_lt hi,← List.drop_eq_getElem_cons hi,List.take_append_drop]
  have hd : (L.drop (i + 1)).filter (fun r => decide (r.key = k)) = []:=by
    rw [List.filter_eq_nil_iff];intro r hr;obtain ⟨j,hj,rfl⟩:=List.mem_iff_getElem.1 hr;rw [List.length_drop] at hj;have:=hn (i + 1 + j) (by omega) (by omega);rw [getD_lt (by omega)] at this;simp only [List.getElem_drop,decide_eq_true_eq];exact this
  unfold of;rw [e,List.filter_append,List.filter_cons,if_pos (by simpa using hk),hd,← e];simp
theorem last_no {L : List Rw} {k : Int × Int} (hn : ∀ j,j < L.length → (L.getD j noR).key ≠ k) : of L k = []:=by
  unfold of;rw [List.filter_eq_nil_iff];intro r hr;obtain ⟨j,hj,rfl⟩:=List.mem_iff_getElem.1 hr;have:=hn j hj;rw [getD_lt hj] at this
  simpa using this
theorem cnt_take {L : List Rw} {t : Int} {i : Nat} (hi : i < L.length) : cnt t (L.take (i + 1)) = cnt t (L.take i) + if (L.getD i noR).tab = t ∧ (L.getD i noR).ver = 0 then 1 else 0:=by
  unfold cnt;rw [List.take_add_one,List.getElem?_eq_getElem hi,getD_lt hi,List.filter_append,List.length_append]
  congr 1
  simp only [Option.toList_some,List.filter_cons,List.filter_nil]
  by_cases h : L[i].tab = t ∧ L[i].ver = 0
  · rw [if_pos (by simpa using h),if_pos h];rfl
  · rw [if_neg (by simpa using h),if_neg h];rfl
theorem cnt_le (t : Int) (L : List Rw) : cnt t L ≤ L.length:=List.length_filter_le _ _
theorem cnt_len (t : Int) (L : List Rw) {i : Nat} (_h : i ≤ L.length) : cnt t (L.take i) ≤ i:=by
  have:=cnt_le t (L.take i);rw [List.length_take] at this;omega
def opn (s : St) (t : Int) : Bool:=decide ((tabR s.cat t).2.2 = 0) && !(tabR s.cat t).2.1.dropped
def liveR (s : St) (k : Int × Int) : Option Rw :=
  if opn s k.1 = true then (match (Vw.of s.rows k).getLast? with | some r => if r.del = false ∧ r.gone = false then some r else none | none => none) else none
def docsR (s : St) (t : Int) : List Rw:=(List.range (cnt t s.rows)).filterMap fun (i : Nat) => liveR s (t,(i : Int) + 1)
def histR (s : St) (t : Int) : List Rw:=(List.range (cnt t s.rows)).flatMap fun (i : Nat) => Vw.of s.rows (t,(i : Int) + 1)
theorem entR_n (s : St) (e : En) (bi k tim : Int) : (entR s e bi k tim).2.n = s.n:=by
  unfold entR
  split
  · rfl
  · split
    · split <;> rfl
    · split
      · split <;> rfl
      · rfl
theorem runR_n' (b : Bk) : ∀ (l : List En) (k : Nat) (s : St),(runR b l k s).2.n = s.n
  | [],_,_ => rfl
  | e :: r,k,s => by
    unfold runR
    split
    · rw [runR_n' b r];exact entR_n _ _ _ _ _
    · exact entR_n _ _ _ _ _
theorem runR_n {b : Bk} {l : List En} {k : Nat} {s t : St} {c : Int} (h : runR b l k s = (c,t)) : t.n = s.n:=by
  have:=runR_n' b l k s;rw [h] at this;exact this
end Vw
namespace K
abbrev R64 (x : Int) : Prop:=-9223372036854775808 ≤ x ∧ x ≤ 9223372036854775807
def enC (e : En) (dc : List Value) : List Value :=
  .int .i64 e.kind :: .string e.text :: .int .i64 e.table :: .int .i64 e.doc :: .int .i64 e.ver :: (dc ++ (hashC e.hash ++ [.bool e.gone,.int .i64 e.ab,.int .i64 e.ae]))
def EnP (P : V → List Value → Prop) (e : En) (cs : List Value) : Prop :=
  ∃ dc,cs = enC e dc ∧ P e.data dc ∧ dc.length = 6 ∧ Ones dc ∧ e.hash.length = 32 ∧ Byt e.hash ∧ e.text.size ≤ 140737488355328 ∧ (R64 e.kind ∧ R64 e.table ∧ R64 e.doc ∧ R64 e.ver ∧ R64 e.ab ∧ R64 e.ae)
theorem EnP.mono {P P' : V → List Value → Prop} (hP : ∀ v cs,P v cs → P' v cs) {e : En} {cs : List Value} (h : EnP P e cs) : EnP P' e cs:=by
  obtain ⟨dc,h1,h2,h3⟩:=h;exact ⟨dc,h1,hP _ _ h2,h3⟩
theorem EnP.len {P : V → List Value → Prop} {e : En} {cs : List Value} (h : EnP P e cs) : cs.length = 46:=by
  obtain ⟨dc,rfl,-,h1,-,h2,-⟩:=h;simp [enC,h1,h2]
theorem EnP.one {P : V → List Value → Prop} {e : En} {cs : List Value} (h : EnP P e cs) : Ones cs:=by
  obtain ⟨dc,rfl,-,-,h1,-⟩:=h;intro u hu;unfold enC at hu;simp only [List.mem_cons,List.mem_append,List.not_mem_nil,or_false] at hu;rcases hu with rfl | rfl | rfl | rfl | rfl | hu | hu | rfl | rfl | rfl
  all_goals first | rfl | exact h1 u hu | exact Ones.int _ _ u hu
abbrev IsE (f : Nat) (w : World) : En → List Value → Prop:=EnP (IsV f w)
abbrev IsEo (O : Nat → Prop) (f : Nat) (w : World) : En → List Value → Prop:=EnP (IsVo O f w)
def bkC (b : Bk) (se : Value) : List Value:=.int .i64 b.index :: .int .i64 b.time :: .int .i64 b.txn :: (hashC b.prev ++ [se])
def BkP (P : En → List Value → Prop) (O : Nat → Prop) (w : World) (b : Bk) (cs : List Value) : Prop :=
  ∃ se,cs = bkC b se ∧ Els 46 noE P O w se b.ents ∧ b.prev.length = 32 ∧ Byt b.prev ∧ (R64 b.index ∧ R64 b.time ∧ R64 b.txn)
theorem BkP.len {P : En → List Value → Prop} {O : Nat → Prop} {w : World} {b : Bk} {cs : List Value} (h : BkP P O w b cs) : cs.length = 36:=by
  obtain ⟨se,rfl,-,h2,-⟩:=h;simp [bkC,h2]
theorem BkP.one {P : En → List Value → Prop} {O : Nat → Prop} {w : World} {b : Bk} {cs : List Value} (h : BkP P O w b cs) : Ones cs:=by
  obtain ⟨se,rfl,⟨sp,cap,rfl,-⟩,-⟩:=h;intro u hu;unfold bkC at hu;simp only [List.mem_cons,List.mem_append,List.not_mem_nil,or_false] at hu;rcases hu with rfl | rfl | rfl | hu | rfl
  all_goals first | rfl | exact Ones.int _ _ u hu
abbrev IsB (f : Nat) (w : World) : Bk → List Value → Prop:=BkP (IsE f w) (fun _ => True) w
abbrev IsBo (O : Nat → Prop) (f : Nat) (w : World) : Bk → List Value → Prop:=BkP (IsEo O f w) O w
theorem IsE.below {w w' : World} (hb : Below w.heap.size w w') {f : Nat} {e : En} {cs : List Value} (h : IsE f w e cs) : IsE f w' e cs:=EnP.mono (fun _ _ h => h.below hb) h
theorem IsB.below {w w' : World} (hb : Below w.heap.size w w') {f : Nat} {b : Bk} {cs : List Value} (h : IsB f w b cs) : IsB f w' b cs:=by
  obtain ⟨se,h1,h2,h3⟩:=h;exact ⟨se,h1,h2.keep (Keep.of_below hb) (fun b _ hl => hl) (fun _ h => h) fun _ _ h => IsE.below hb h,h3⟩
theorem VBlk.part {T b : Nat} {w : World} {cs : List Value} (h : VBlk T w b cs) (a : List Value) (m : List Value) (z : List Value) (e : cs = a ++ (m ++ z)) : w.rangeAt b a.length m:=by
  intro j u hj;have:=VBlk.rangeAt h (a.length + j) u (by rw [e,List.getElem?_append_right (by omega),Nat.add_sub_cancel_left];rw [List.getElem?_append_left];exact hj;rcases Nat.lt_or_ge j m.length with h | h;exact h;rw [List.getElem?_eq_none h] at hj;cases hj)
  rwa [Nat.zero_add] at this
theorem enC_data {T b : Nat} {w : World} {e : En} {dc : List Value} (h : VBlk T w b (enC e dc)) : w.rangeAt b 5 dc :=
  VBlk.part h [.int .i64 e.kind,.string e.text,.int .i64 e.table,.int .i64 e.doc,.int .i64 e.ver] dc _ rfl
theorem enC_hash {T b : Nat} {w : World} {e : En} {dc : List Value} (h : VBlk T w b (enC e dc)) (hd : dc.length = 6) : w.rangeAt b 11 (hashC e.hash):=by
  have:=VBlk.part h (.int .i64 e.kind :: .string e.text :: .int .i64 e.table :: .int .i64 e.doc :: .int .i64 e.ver :: dc) (hashC e.hash) [.bool e.gone,.int .i64 e.ab,.int .i64 e.ae] (by simp [enC])
  simpa [hd] using this
theorem enC_tail {e : En} {dc : List Value} (hd : dc.length = 6) (hh : e.hash.length = 32) : (enC e dc)[43]? = some (.bool e.gone) ∧ (enC e dc)[44]? = some (.int .i64 e.ab) ∧ (enC e dc)[45]? = some (.int .i64 e.ae):=by
  have h1 : enC e dc = (.int .i64 e.kind :: .string e.text :: .int .i64 e.table :: .int .i64 e.doc :: .int .i64 e.ver :: (dc ++ hashC e.hash)) ++ [.bool e.gone,.int .i64 e.ab,.int .i64 e.ae]:=by simp [enC]
  have h2 : (Value.int IntKind.i64 e.kind :: .string e.text :: .int .i64 e.table :: .int .i64 e.doc :: .int .i64 e.ver :: (dc ++ hashC e.hash)).length = 43:=by simp [hd,hh]
  rw [h1];refine ⟨?_,?_,?_⟩ <;> rw [List.getElem?_append_right (by omega),h2] <;> rfl
structure EnAt (T b : Nat) (w : World) (e : En) (dc : List Value) : Prop where
  blk : VBlk T w b (enC e dc)
  dl : dc.length = 6
  hl : e.hash.length = 32
section
variable {T b : Nat} {w w' : World} {e : En} {dc : List Value}
theorem EnAt.kind (h : EnAt T b w e dc) : w.cell? ⟨b,0,none⟩ = some (.int .i64 e.kind):=h.blk.cell 0 (by simp [enC])
theorem EnAt.text (h : EnAt T b w e dc) : w.cell? ⟨b,1,none⟩ = some (.string e.text):=h.blk.cell 1 (by simp [enC])
theorem EnAt.table (h : EnAt T b w e dc) : w.cell? ⟨b,2,none⟩ = some (.int .i64 e.table):=h.blk.cell 2 (by simp [enC])
theorem EnAt.doc (h : EnAt T b w e dc) : w.cell? ⟨b,3,none⟩ = some (.int .i64 e.doc):=h.blk.cell 3 (by simp [enC])
theorem EnAt.ver (h : EnAt T b w e dc) : w.cell? ⟨b,4,none⟩ = some (.int .i64 e.ver):=h.blk.cell 4 (by simp [enC])
theorem EnAt.data (h : EnAt T b w e dc) : w.rangeAt b 5 dc:=enC_data h.blk
theorem EnAt.hash (h : EnAt T b w e dc) : w.rangeAt b 11 (hashC e.hash):=enC_hash h.blk h.dl
theorem EnAt.len (h : EnAt T b w e dc) : (enC e dc).length = 46:=by simp [enC,h.dl,h.hl]
theorem EnAt.gone (h : EnAt T b w e dc) : w.cell? ⟨b,43,none⟩ = some (.bool e.gone):=by
  have:=h.blk.cell 43 (by rw [h.len];omega);rw [this,List.getD_eq_getElem?_getD,(enC_tail h.dl h.hl).1];rfl
theorem EnAt.ab (h : EnAt T b w e dc) : w.cell? ⟨b,44,none⟩ = some (.int .i64 e.ab):=by
  have:=h.blk.cell 44 (by rw [h.len];omega);rw [this,List.getD_eq_getElem?_getD,(enC_tail h.dl h.hl).2.1];rfl
theorem EnAt.ae (h : EnAt T b w e dc) : w.cell? ⟨b,45,none⟩ = some (.int .i64 e.ae):=by
  have:=h.blk.cell 45 (by rw [h.len];omega);rw [this,List.getD_eq_getElem?_getD,(enC_tail h.dl h.hl).2.2];rfl
theorem EnAt.at' (h : EnAt T b w e dc) : w.rangeAt b 44 [.int .i64 e.ab,.int .i64 e.ae]:=by
  intro j u hj
  match j,hj with
  | 0,hj => cases hj;exact h.ab
  | 1,hj => cases hj;exact h.ae
theorem EnAt.keep (h : EnAt T b w e dc) {K : Nat → Prop} (hk : Keep K w w') (hb : K b) : EnAt T b w' e dc:=⟨VBlk.keep h.blk hk hb,h.dl,h.hl⟩
theorem EnAt.below (h : EnAt T b w e dc) (hk : Below w.heap.size w w') : EnAt T b w' e dc:=⟨VBlk.below h.blk hk h.blk.lt,h.dl,h.hl⟩
end
end K
namespace K
section
variable {n : NN} {Q : Exit → Act → World → Prop} {l : Env} {w w' : World} {ops : Array Oper} {o : Oper} {rest : List Oper} {d : Nat}
theorem WL.app0 {s x : Operand} {t e sz : Nat} {sp xp : Option Addr} {m cap xc : Nat} (hg : o.guard = none) (hd : o.dst = some d) (hn : Nat.blt d n.n = true)
    (ho : o.op = .call { callee:=.builtin .append,args:=#[s,x],argTypes:=#[t,t] }) (ht : tyOf ty t = some (.slice e sz)) (hs : evl l s = some (.slice sp m cap)) (hc : m ≤ cap) (hx : evl l x = some (.slice xp 0 xc))
    (h : WL n ops Q rest ((d,.slice sp m cap) :: l) w) : WL n ops Q (o :: rest) l w :=
  WL.step hg hd hn (fun a ha => by
    obtain ⟨hu,hsz⟩:=TyOk.of tyOk ht;have hs' : (sizeOf e).run Tryz.prog w = .ok sz w:=by
      cases hq : Tryz.prog.info? e with
      | none => rw [hq] at hsz;cases hsz
      | some q => rw [hq] at hsz;simp at hsz;simp [sizeOf,typeInfo,hq,hsz]
    unfold execOp;simp only [ho,resolve,invoke,builtin,Sem.run_bind,Sem.run_pure,Result.andThen_ok,List.map_toArray,List.map_cons,List.map_nil,ha.eval hs,ha.eval hx];have hrun : (Builtin.append_ #[t,t] o.type #[.slice sp m cap,.slice xp 0 xc]).run Tryz.prog w = .ok (.slice sp m cap) w:=by
      cases sp <;> cases xp <;> simp [Builtin.append_,run_underlying hu,hs',Builtin.lenOf,Builtin.firstCells,hc,loadCells,loadCellsFrom,storeCells]
    rw [hrun]
    rfl) h
end
theorem strs_slV {w : World} {v : Value} {l : List ByteArray} (h : Strs w v l) (h0 : 0 < l.length) : SlV w (fun _ => True) 1 v l.length (l.map Value.string):=by
  obtain ⟨sp,cap,rfl,h1,h2,-,h4⟩:=h;obtain ⟨b,o,rfl,hb,hr⟩:=h4 h0;refine ⟨by simp,Ones.str l,_,cap,rfl,h1,h2,(fun h => by cases h),fun _ => ⟨b,o,rfl,hb,trivial,fun j hj => ?_⟩⟩;rw [List.length_map] at hj;rw [hr j hj];simp [hj]
theorem own_strs {w : World} {O : Nat → Prop} {v : Value} {l : List ByteArray} (h : OwnV 9 1 w O v l.length (l.map Value.string)) (hz : ∀ s ∈ l,s.size ≤ 140737488355328) : Els 1 noT strP O w v l:=by
  obtain ⟨q1,q2,sp,cap,rfl,h4,h5,h6,h7⟩:=h.slV;refine ⟨sp,cap,rfl,h4,h5,h6,fun h0 => ?_⟩;obtain ⟨b,o,e,hb,hO,hr⟩:=h7 h0;refine ⟨b,o,e,hb,hO,fun j hj => ⟨[.string (l.getD j noT)],rfl,⟨rfl,?_⟩,fun i u hu => ?_⟩⟩
  · exact hz _ (by simp [hj])
  · cases i with
    | zero =>
      have:=hr j (by simpa using hj);simp at hu
      rw [Nat.mul_one,Nat.add_zero,this,← hu];simp [hj]
    | succ i => simp at hu
def Sm (B : Nat) : Nat → V → Prop
  | 0,_ => False
  | f + 1,v => v.names.length ≤ B ∧ v.kids.length ≤ B ∧ ∀ x ∈ v.kids,Sm B f x
theorem grtK_sm {B f : Nat} (ih : ∀ (v : V) (n : Nat),Sml f v → grt B f v n ≤ B → n + 1 ≤ grt B f v n ∧ Sm B f v) : ∀ (l : List V) (n : Nat),(∀ x ∈ l,Sml f x) → grtK B (grt B f) l n ≤ B → n + l.length ≤ grtK B (grt B f) l n ∧ ∀ x ∈ l,Sm B f x
  | [],n,_,_ => ⟨by simp [grtK],fun x hx => by cases hx⟩
  | k :: r,n,h,hB => by
    unfold grtK at hB ⊢
    by_cases hn : n ≤ B
    · rw [if_pos hn] at hB ⊢
      have hle : grt B f k n ≤ B:=by
        rcases Nat.lt_or_ge B (grt B f k n) with h1 | h1
        · rw [grtK_over r h1] at hB;omega
        · exact h1
      have h1:=ih k n (h k (by simp)) hle;have h2:=grtK_sm ih r (grt B f k n) (fun x hx => h x (List.mem_cons_of_mem _ hx)) hB;refine ⟨by simp only [List.length_cons];omega,fun x hx => ?_⟩;rcases List.mem_cons.1 hx with rfl | hx
      · exact h1.2
      · exact h2.2 x hx
    · rw [if_neg hn] at hB;omega
theorem grt_sm {B : Nat} : ∀ (f : Nat) (v : V) (n : Nat),Sml f v → grt B f v n ≤ B → n + 1 ≤ grt B f v n ∧ Sm B f v
  | 0,_,_,h,_ => h.elim
  | f + 1,v,n,h,hB => by
    unfold grt at hB ⊢;have:=grtK_sm (grt_sm f) v.kids _ h.2.2 hB;exact ⟨by omega,by omega,by omega,this.2⟩
set_option maxHeartbeats 8000000 in
theorem clone_any {B : Nat} (hB : B ≤ 1000000) : ∀ (f : Nat) {w : World} {v : V} {cs : List Value},IsV f w v cs → Sm B f v →
    Calls Tryz.prog 46 #[.agg cs.toArray] w fun e w' => Below w.heap.size w w' ∧ ∃ cs',e = .returned (.agg cs'.toArray) ∧ IsVo (fun b => w.heap.size ≤ b) f w' v cs'
  | 0,_,_,_,h,_ => h.elim
  | f + 1,w,v,cs,h,hm => by
    obtain ⟨sn,sk,rfl,wk,wn,ws,wt,hnames,hkids⟩:=h;obtain ⟨hmn,hmk,hms⟩:=hm;obtain ⟨sp,cap,rfl,hcap1,hcap2,hrow⟩:=hkids;refine enter (args:=[.agg (six v sn (.slice sp v.kids.length cap)).toArray]) Tryz.func46 rfl Tryz.ntmps46 rfl ?_;refine K.kgo ?_;refine WL.box rfl rfl rfl rfl rfl fun g1 w1 hf1 => ?_;have hf1' : Fresh w g1 w1 48 (six v sn (.slice sp v.kids.length cap)):=hf1;clear hf1;refine WL.alloc (z:=.agg zCells.toArray) rfl rfl rfl rfl (fun _ => by kernel_rfl) fun g2 w2 hf2 => ?_;have hf2' : Fresh w1 g2 w2 48 zCells:=hf2;clear hf2;have hz1:=hf1'.size;have hz2:=hf2'.size;have he1:=hf1'.eq;have he2:=hf2'.eq;have hw2 : Below w.heap.size w w2:=hf1'.below.trans (hf2'.below.mono hf1'.below.size);have B1:=hf1'.blk.below hf2'.below hf1'.blk.lt;have B2:=hf2'.blk;clear hf1' hf2';refine K.kgn ?_;refine WL.mid (fun _ : Value => [(1,.pointer (some ⟨g1,0,none⟩)),(2,.pointer (some ⟨g2,0,none⟩))]) (fun sx wx => VBlk 48 wx g1 (six v sx (.slice sp v.kids.length cap)) ∧ VBlk 48 wx g2 zCells ∧ Below w.heap.size w wx ∧
      Els 1 noT strP (fun b => w.heap.size ≤ b ∧ b ≠ g1 ∧ b ≠ g2) wx sx v.names ∧ sx.oneCell' = true) rfl ?_ ?_
    · refine WL.empty rfl rfl rfl rfl rfl fun g5 w3 hf3 => ?_
      have hf3' : Fresh w2 g5 w3 9 []:=hf3;clear hf3;have hz3:=hf3'.size;have he3:=hf3'.eq;have hb3:=hf3'.blk;have hw3 : Below w.heap.size w w3:=hw2.trans (hf3'.below.mono hw2.size);have B13:=B1.below hf3'.below B1.lt;have B23:=B2.below hf3'.below B2.lt;clear hf3'
      -- the store behind the append
      have go : ∀ {wx : World} {sx : Value},Grow w3 (.slice (some ⟨g5,0,none⟩) 0 0) wx sx → VBlk 48 wx g1 (six v sn (.slice sp v.kids.length cap)) ∧ VBlk 48 (wx.setCell ⟨g1,4,none⟩ sx) g1 (six v sx (.slice sp v.kids.length cap)) ∧ VBlk 48 (wx.setCell ⟨g1,4,none⟩ sx) g2 zCells ∧ Below w.heap.size w (wx.setCell ⟨g1,4,none⟩ sx):=fun {wx sx} h => by
        have hk : Keep (fun b => b < g5) w3 wx:=Keep.mono h.1 fun b hb => ⟨by omega,fun e => by have : g5 = b:=Option.some.inj e;omega⟩;have b1:=B13.keep hk (by omega);refine ⟨b1,b1.set 4 sx,(B23.keep hk (by omega)).other _ _ (by show g2 ≠ g1;omega),Keep.below (Keep.setCell (Keep.of_below (hw3.trans (Keep.below (Keep.mono hk fun b (hb : b < w.heap.size) => by omega)))) (fun hk => by simp only at hk;omega) _)⟩
      obtain ⟨np,nc,rfl,nl,nm,nz,nr⟩:=hnames;refine K.kgo ?_;refine WL.load rfl rfl rfl rfl rfl rfl (B13.cell 4 (by simp)) ?_
      by_cases hn0 : v.names.length = 0
      · refine WL.as 7 (.slice np 0 nc) rfl (by show Value.slice np v.names.length nc = _;rw [hn0]) ?_
        refine WL.app0 rfl rfl rfl rfl rfl rfl (Nat.le_refl 0) rfl ?_;obtain ⟨b1,b2,b3,b4⟩:=go (Grow.refl w3 (.slice (some ⟨g5,0,none⟩) 0 0));refine K.kgo ?_;refine WL.store rfl rfl rfl rfl rfl rfl (by kernel_rfl) (b1.cell 4 (by simp)) (b1.free 4) ?_;refine WL.nil ?_;exact WQ.meet (.slice (some ⟨g5,0,none⟩) 0 0) ⟨rfl,rfl,trivial⟩ ⟨b2,b3,b4,⟨_,0,by rw [hn0],by omega,by omega,(fun h => by cases h),fun h => by omega⟩,rfl⟩
      · have hown : OwnV 9 1 w3 (fun g => g = g5) (.slice (some ⟨g5,0,none⟩) 0 0) 0 []:=⟨⟨by simp,.inr ⟨g5,0,#[],rfl,Nat.zero_le _,hb3,Nat.le_refl _,by unfold maxLen;omega,by simp,by simp⟩⟩,fun _ h => (List.not_mem_nil h).elim,fun g h => by cases h;rfl⟩
        have hsl:=strs_slV (w:=w3) (v:=.slice np v.names.length nc) (l:=v.names) (Strs.below (w:=w) ⟨np,nc,rfl,nl,nm,nz,nr⟩ hw3) (by omega);refine WL.appV rfl rfl rfl rfl elemS1 rfl hown rfl hsl (by omega) (by omega) fun sx wx ho hg => ?_;obtain ⟨b1,b2,b3,b4⟩:=go hg;have hone : sx.oneCell' = true:=by obtain ⟨_,_,rfl,-⟩:=ho.slice;rfl
        refine K.kgo ?_;refine WL.store rfl rfl rfl rfl rfl hone (by kernel_rfl) (b1.cell 4 (by simp)) (b1.free 4) ?_;refine WL.nil ?_;refine WQ.meet sx ⟨rfl,rfl,trivial⟩ ⟨b2,b3,b4,?_,hone⟩;have hset : Keep (fun b => b ≠ g1) wx (wx.setCell ⟨g1,4,none⟩ sx):=(Keep.refl _ wx).setCell (fun hk => hk rfl) _;simp only [Nat.zero_add,List.nil_append] at ho;refine (own_strs (O:=fun b => w.heap.size ≤ b ∧ b ≠ g1 ∧ b ≠ g2) (ho.mono fun b hb => by omega) fun s hs => ?_).keep hset (fun b hb _ => hb.2.1) (fun b hb => hb) fun _ _ h => h;obtain ⟨j,hj,rfl⟩:=List.getElem_of_mem hs
        simpa [hj] using nz j hj
    rintro sx w5 ⟨C1,C2,hw5,hnm,hsx⟩;have hz5:=hw5.size;have hgg : g1 ≠ g2:=by omega
    have hg1w:=C1.lt;have hg2w:=C2.lt;refine K.kgo ?_;refine WC.loop (fun i : Nat × Value => [(1,.pointer (some ⟨g1,0,none⟩)),(2,.pointer (some ⟨g2,0,none⟩)),(3,i.2),(4,.int .i64 i.1)])
      (fun i wr => i.1 ≤ v.kids.length ∧ Below w5.heap.size w5 wr ∧ ∃ q : Nat → Prop,OwnE 48 6 noV (IsVo q f wr) (fun b => w5.heap.size ≤ b) wr i.2 (v.kids.take i.1) ∧ ∀ b,q b → w5.heap.size ≤ b ∧ b < wr.heap.size ∧ i.2.ownBlock ≠ some b) (fun i => v.kids.length - i.1) (0,.slice none 0 0)
      ⟨rfl,rfl,rfl,rfl,trivial⟩ ⟨Nat.zero_le _,Below.refl _ _,fun _ => False,OwnE.nil _ _ _ _ _ _,fun b h => h.elim⟩ ?_
    rintro ⟨i,vk⟩ wr ⟨hi,hbr,q,hoE,hq⟩;simp only at hi hbr hoE hq ⊢;have D1:=C1.below hbr hg1w;have D2:=C2.below hbr hg2w;have hwr : Below w.heap.size w wr:=hw5.trans (hbr.mono hz5);have hzr:=hbr.size;refine K.kgo ?_;refine WL.load rfl rfl rfl rfl rfl rfl (D1.cell 5 (by simp)) ?_
    by_cases hik : i < v.kids.length
    · obtain ⟨kb,ko,rfl,hkb,hcells⟩:=hrow (by omega)
      obtain ⟨c,hc6,hci,hcr⟩:=hcells i hik;refine K.kgo ?_;refine WL.load rfl rfl rfl rfl rfl rfl (D1.cell 5 (by simp)) ?_;refine K.kgo ?_;refine WL.idx i (ko + i * 6) rfl rfl rfl rfl rfl rfl rfl rfl hik rfl ?_;refine WL.loadMid rfl rfl rfl rfl rfl rfl (fun j u hu => (hwr.cell (p:=⟨kb,ko + i * 6 + j,none⟩) hkb).trans (hcr j u hu)) hc6 ?_;refine WL.call rfl rfl rfl rfl rfl Tryz.func46 rfl (by kernel_rfl) (clone_any hB f (hci.below hwr) (hms _ (by simp [hik]))) ?_;rintro _ w6 ⟨hb6,c6,rfl,hv6⟩;refine ⟨_,rfl,?_⟩;have hz6:=hb6.size;refine WL.lit1 rfl rfl rfl rfl rfl rfl rfl hv6.len ⟨by omega,by omega⟩ (by kernel_rfl) fun g7 w7 hf7 => ?_;have hz7:=hf7.size;have hk7 : Below wr.heap.size wr w7:=hb6.trans (hf7.below.mono hz6);have hoE7 : OwnE 48 6 noV (IsVo (fun b => q b ∨ (wr.heap.size ≤ b ∧ b < w7.heap.size)) f w7) (fun b => w5.heap.size ≤ b) w7 vk (v.kids.take i) :=
        hoE.keep (Keep.of_below hk7) (fun g hg => hoE.lt hg) (fun _ h => h) fun x cs hx => hx.keep (Keep.of_below hk7) (fun b hb _ => (hq b hb).2.1) fun b hb => .inl hb
      have hv7 : IsVo (fun b => q b ∨ (wr.heap.size ≤ b ∧ b < w7.heap.size)) f w7 (v.kids.getD i noV) c6:=hv6.there.keep (Keep.of_below hf7.below) (fun b _ h => h) fun b hb => .inr ⟨hb.1,by omega⟩;have hlt : (v.kids.take i).length ≤ i:=by rw [List.length_take];omega
      refine WL.snoc rfl rfl rfl rfl elemV6 rfl hoE7 rfl hf7.blk hv6.one hv6.len hv7 (by omega) (by omega) fun vk8 w8 ho8 hg8 => ?_;have hbel8 : Below w5.heap.size w5 w8:=(hbr.trans (hk7.mono hzr)).trans (hg8.old (by omega) fun g hg => hoE7.own hg);have hq8 : ∀ b,(q b ∨ (wr.heap.size ≤ b ∧ b < w7.heap.size)) → w5.heap.size ≤ b ∧ b < w7.heap.size ∧ vk.ownBlock ≠ some b:=fun b hb => hb.elim (fun h => by
          obtain ⟨h1,h2,h3⟩:=hq b h;exact ⟨h1,by omega,h3⟩) fun h => ⟨by omega,h.2,fun e => by have:=hoE.lt e;omega⟩
      have htk : v.kids.take (i + 1) = v.kids.take i ++ [v.kids.getD i noV]:=by
        rw [List.take_add_one];simp [hik]
      refine K.kgo ?_;refine WQ.again (i + 1,vk8) ⟨rfl,rfl,rfl,rfl,trivial⟩ ⟨hik,hbel8,(fun b => q b ∨ (wr.heap.size ≤ b ∧ b < w7.heap.size)),?_,fun b hb => ?_⟩ (by show v.kids.length - (i + 1) < v.kids.length - i;omega)
      · show OwnE _ _ _ _ _ _ _ (v.kids.take (i + 1))
        rw [htk];exact ho8.keep (Keep.refl (fun _ => True) w8) (fun _ _ => trivial) (fun b hb => by omega) fun x cs hx => hx.keep hg8.1 (fun b hb _ => (hq8 b hb).2) fun b hb => hb
      · obtain ⟨h1,h2,h3⟩:=hq8 b hb
        exact ⟨h1,Nat.lt_of_lt_of_le h2 hg8.1.size,fun e => (hg8.2 b e).elim h3 fun h4 => by omega⟩
    · obtain rfl : i = v.kids.length:=by omega
      rw [List.take_length] at hoE;have hvk:=hoE.one;have hset : Keep (fun b => b ≠ g1) wr (wr.setCell ⟨g1,5,none⟩ vk):=(Keep.refl _ wr).setCell (fun hk => hk rfl) _;refine K.kgo ?_;refine WL.store rfl rfl rfl rfl rfl hvk (by kernel_rfl) (D1.cell 5 (by simp)) (D1.free 5) ?_;have E1:=D1.set 5 vk;have E2 : VBlk 48 (wr.setCell ⟨g1,5,none⟩ vk) g2 zCells:=D2.other _ _ (by show g2 ≠ g1;omega);have hwE : Below w.heap.size w (wr.setCell ⟨g1,5,none⟩ vk):=Keep.below (Keep.setCell (Keep.of_below hwr) (fun hk => by simp only at hk;omega) _);have hnmE:=(hnm.there (fun _ _ h => h)).keep (O':=fun b => (w.heap.size ≤ b ∧ b ≠ g1 ∧ b ≠ g2)) (Keep.of_below hbr) (fun b hb hlt => hlt) (fun b hb => hb.1) fun _ _ h => h;have hnmF:=hnmE.keep hset (fun b hb _ => hb.2.1) (fun b hb => hb) fun _ _ h => h;have hkdF : Els 6 noV (IsVo (fun b => w5.heap.size ≤ b) f (wr.setCell ⟨g1,5,none⟩ vk)) (fun b => w5.heap.size ≤ b) (wr.setCell ⟨g1,5,none⟩ vk) vk v.kids :=
        hoE.els.keep hset (fun b hb _ => by omega) (fun b hb => hb) fun x cs hx => hx.keep hset (fun b hb _ => by have:=(hq b hb).1;omega) fun b hb => (hq b hb).1
      generalize wr.setCell ⟨g1,5,none⟩ vk = w9 at E1 E2 hwE hnmF hkdF;simp only [List.set_cons_zero,List.set_cons_succ] at E1;refine K.kgo ?_;refine WL.loadMid rfl rfl rfl rfl rfl rfl (VBlk.rangeAt E1) rfl ?_;have hone : Ones [Value.int .i64 v.k,.int .i64 v.n,.int .i64 v.s,.string v.t,sx,vk]:=by
        intro u hu;simp at hu
        rcases hu with rfl | rfl | rfl | rfl | rfl | rfl <;> first | rfl | assumption
      refine WL.storeRow rfl rfl rfl rfl rfl rfl E2 rfl rfl hone ?_;refine K.kgo ?_;have hset2 : ∀ a,Keep (fun b => b ≠ g2) w9 (w9.setRow g2 a):=fun a => Keep.setRow (Keep.refl _ w9) (fun hk => hk rfl) a;refine WQ.retC rfl rfl rfl rfl (E2.setRow _) ⟨Keep.below (Keep.setRow (Keep.of_below hwE) (fun hk => by omega) _),_,rfl,sx,vk,rfl,wk,wn,ws,wt,hnmF.keep (hset2 _) (fun b hb _ => hb.2.2) (fun b hb => hb.1) fun _ _ h => h,?_⟩;exact hkdF.keep (hset2 _) (fun b hb _ => by omega) (fun b hb => by omega) fun x cs hx => hx.keep (hset2 _) (fun b hb _ => by omega) fun b hb => by omega
end K
namespace K
variable {n : NN} {Q : Exit → Act → World → Prop} {l : Env} {w w' : World} {ops : Array Oper} {o : Oper} {rest : List Oper} {d : Nat}
theorem WL.storeMid {t mm T b off : Nat} {x y : Operand} {m cs : List Value} (hg : o.guard = none) (hd : o.dst = none) (ho : o.op = .store t x y) (hx : evl l x = some (.pointer (some ⟨b,off,none⟩))) (hy : evl l y = some (.agg m.toArray))
    (ht : cellsN (tyOf ty t) = some mm) (hb : VBlk T w b cs) (hm : m.length = mm) (hfit : off + mm ≤ cs.length) (h1 : Ones m) (h : WL n ops Q rest l (w.setRow b (cs.take off ++ m ++ cs.drop (off + mm)).toArray)) : WL n ops Q (o :: rest) l w :=
  WL.stepU hg hd (fun a ha => by
    obtain ⟨_,-,-,hsz⟩:=cellsN_ok tyOk ht;have hs : (sizeOf t).run Tryz.prog w = .ok mm w:=by
      cases hq : Tryz.prog.info? t with
      | none => rw [hq] at hsz;cases hsz
      | some q => rw [hq] at hsz;simp at hsz;simp [sizeOf,typeInfo,hq,hsz]
    have hrun:=run_storeCells_at (P:=Tryz.prog) b off T m 0 cs.toArray w hb (by simp only [List.size_toArray];omega) h1;simp only [Nat.add_zero] at hrun;subst hm;unfold execOp;rw [ho];simp [ha.eval hx,ha.eval hy,Instr.storeAt,Instr.sureAddr,storeVar,hs,Value.cells,hrun]) h
theorem all_run {a : Act} {t e s m b off : Nat} {x : Operand} (ho : o.op = .slice t x none none none) (ht : tyOf ty t = some (.arr m e s)) (hx : a.eval x = .pointer (some ⟨b,off,none⟩)) : (execOp a.eval o).run Tryz.prog w = .ok (.value (.slice (some ⟨b,off,none⟩) m m)) w:=by
  obtain ⟨hu,hse,-⟩:=TyOk.of tyOk ht;have h1 : Tryz.prog.elem t = e:=by simp [Program.elem,hu]
  have h2 : Tryz.prog.arrayLen t = m:=by simp [Program.arrayLen,hu]
  have hs : (sizeOf e).run Tryz.prog w = .ok s w:=by
    cases hq : Tryz.prog.info? e with
    | none => rw [hq] at hse;cases hse
    | some q => rw [hq] at hse;simp at hse;simp [sizeOf,typeInfo,hq,hse]
  have hr:=run_sliceAt_array_all (P:=Tryz.prog) w t ⟨b,off,none⟩ (by rw [h1,h2];exact hu);unfold execOp;rw [ho];have ha : slicedAt ⟨b,off,none⟩ 0 m m s = .slice (some ⟨b,off,none⟩) m m:=by
    unfold slicedAt
    by_cases h0 : m = 0
    · rw [if_pos h0];simp
    · rw [if_neg h0,Nat.zero_mul];rfl
  simp [hx,hr,h1,h2,hs,ha]
theorem WL.all {t e s m b off : Nat} {x : Operand} (hg : o.guard = none) (hd : o.dst = some d) (hn : Nat.blt d n.n = true) (ho : o.op = .slice t x none none none) (ht : tyOf ty t = some (.arr m e s)) (hx : evl l x = some (.pointer (some ⟨b,off,none⟩)))
    (h : WL n ops Q rest ((d,.slice (some ⟨b,off,none⟩) m m) :: l) w) : WL n ops Q (o :: rest) l w:=WL.step hg hd hn (fun _ ha => all_run ho ht (ha.eval hx)) h
theorem WL.elem {t e m : Nat} {x i : Operand} {cs : List Value} {k : IntKind} {v : Value} (j : Nat) (hg : o.guard = none) (hd : o.dst = some d) (hn : Nat.blt d n.n = true) (ho : o.op = .index t x i) (ht : tyOf ty t = some (.arr m e 1)) (he : scal (tyOf ty e) = true)
    (hx : evl l x = some (.agg cs.toArray)) (hi : evl l i = some (.int k (j : Int))) (hj : j < m) (hv : cs[j]? = some v) (h : WL n ops Q rest ((d,v) :: l) w) : WL n ops Q (o :: rest) l w :=
  WL.step hg hd hn (fun a ha => by
    obtain ⟨hu,hse,-⟩:=TyOk.of tyOk ht;obtain ⟨ie,hie,hsz⟩:=Option.map_eq_some_iff.1 hse;have hd : ∃ d,Tryz.prog.underlying e = some d ∧ (match d with | .struct _ | .array _ _ => false | _ => true) = true:=by
      cases hq : tyOf ty e with
      | none => rw [hq] at he;cases he
      | some z =>
        rw [hq] at he;have hz:=TyOk.of tyOk hq;cases z with
        | int k => exact ⟨_,hz,rfl⟩
        | str => exact ⟨_,hz,rfl⟩
        | bool => exact ⟨_,hz,rfl⟩
        | ptr e => exact ⟨_,hz,rfl⟩
        | map k e => exact ⟨_,hz,rfl⟩
        | slice e s => exact ⟨_,hz.1,rfl⟩
        | struct m fs => cases he
        | arr m e s => cases he
    obtain ⟨dd,h1,h2⟩:=hd;have:=run_index_arr (P:=Tryz.prog) w t e m dd ie hu hie hsz h1 (by cases dd <;> first | rfl | exact absurd h2 (by simp)) cs.toArray k j hj v (by simpa using hv);unfold execOp;rw [ho];simp [ha.eval hx,ha.eval hi,this]) h
section
variable {S : World → Prop} {m fuel : Nat} {listed : Array Bool}
theorem WD.all {oi : Oper} {t e s mm b off : Nat} {x : Operand} (i : Nat) (hi : ops[i]? = some oi) (hs : mayB ops listed i m = true) (hd : oi.dst = some d) (hn : Nat.blt d n.n = true) (hQ : Passes Q) (hw : wants ops l oi = some true)
    (ho : oi.op = .slice t x none none none) (ht : tyOf ty t = some (.arr mm e s)) (hx : evl l x = some (.pointer (some ⟨b,off,none⟩))) (hS : listed.getD m false = true ∨ S w)
    (h : WD n ops Q S m fuel (listed.setIfInBounds i true) ((d,.slice (some ⟨b,off,none⟩) mm mm) :: l) w) : WD n ops Q S m (fuel + 1) listed l w :=
  WD.first i hi hs hd hn hQ (fun _ ha => .inl ⟨wants_run ha hw,fun _ _ => all_run ho ht (ha.eval hx)⟩) hS h
end
end K
namespace K
variable {n : NN} {Q : Exit → Act → World → Prop} {l : Env} {w w' : World} {ops : Array Oper} {o : Oper} {rest : List Oper} {d : Nat}
section
variable {S : World → Prop} {m fuel : Nat} {listed : Array Bool}
end
end K
namespace Tre
open Go.Op
abbrev Ky:=ByteArray
def kl (a b : Ky) : Bool:=bytesLess a.toList b.toList
theorem ky_eq {a b : Ky} (h : a.toList = b.toList) : a = b:=by
  rw [ByteArray.toList_eq,ByteArray.toList_eq] at h;exact ByteArray.ext (Array.toList_inj.1 h)
abbrev KV:=Ky × Int
def Hi (l : List KV) (k : Ky) : Prop:=∀ e ∈ l,kl k e.1 = true
def plc (k : Ky) : List Ky → Nat
  | [] => 0
  | a :: r => if kl a k then plc k r + 1 else 0
end Tre
namespace K
variable {n : NN} {Q : Exit → Act → World → Prop} {l : Env} {w w' : World} {ops : Array Oper} {o : Oper} {rest : List Oper} {d : Nat}
section
variable {S : World → Prop} {m fuel : Nat} {listed : Array Bool}
end
theorem eqGuard_ptr {P : Program} (op : BinOp) (t : TypeId) (x y : Operand) (p q : Option Addr) (w : World) : (eqGuard op t x y (.pointer p) (.pointer q)).run P w = .ok () w:=by
  cases op <;> simp [eqGuard]
theorem WL.nilP {x : Operand} {t t2 e : Nat} {p : Option Addr} (hg : o.guard = none) (hd : o.dst = some d) (hn : Nat.blt d n.n = true) (ho : o.op = .binOp .eql t x (.const (.pointer none)) t2) (ht : tyOf ty t = some (.ptr e)) (hx : evl l x = some (.pointer p)) (_hgd : Tryz.prog.eqGuardType Tryz.prog.depth t = false)
    (h : WL n ops Q rest ((d,.bool p.isNone) :: l) w) : WL n ops Q (o :: rest) l w :=
  WL.step hg hd hn (fun a ha => by
    have hu : Tryz.prog.underlying t = some (.pointer e):=TyOk.of tyOk ht;have he : Tryz.prog.pointee t = e:=by simp [Program.pointee,hu]
    have hy : a.eval (.const (.pointer none)) = .pointer none:=rfl;unfold execOp;rw [ho];simp [ha.eval hx,hy,eqGuard_ptr _ _ _ _ _ _ _,run_eql_pointer_nil w t p (by rw [he];exact hu)]) h
theorem WL.notNilP {x : Operand} {t t2 e : Nat} {p : Option Addr} (hg : o.guard = none) (hd : o.dst = some d) (hn : Nat.blt d n.n = true) (ho : o.op = .binOp .neq t x (.const (.pointer none)) t2) (ht : tyOf ty t = some (.ptr e)) (hx : evl l x = some (.pointer p)) (_hgd : Tryz.prog.eqGuardType Tryz.prog.depth t = false)
    (h : WL n ops Q rest ((d,.bool (!p.isNone)) :: l) w) : WL n ops Q (o :: rest) l w :=
  WL.step hg hd hn (fun a ha => by
    have hu : Tryz.prog.underlying t = some (.pointer e):=TyOk.of tyOk ht;have he : Tryz.prog.pointee t = e:=by simp [Program.pointee,hu]
    have hy : a.eval (.const (.pointer none)) = .pointer none:=rfl;unfold execOp;rw [ho];simp [ha.eval hx,hy,eqGuard_ptr _ _ _ _ _ _ _,run_neq_pointer_nil w t p (by rw [he];exact hu)]) h
end K
namespace K
section
variable {fn : Func} {R : Ending → World → Prop} {l : Env} {w : World}
theorem WQ.retBT {kn : Nat} {md : Option (Option Nat)} {p q g T m : Nat} {ty' : TypeId} {cs : List Value} {x : Value} (hr : fn.results = #[.cell p ty',.tmp q]) (hl : look l p = some (.pointer (some ⟨g,0,none⟩))) (hq : look l q = some x) (ht : cellsN (tyOf ty ty') = some m) (hm : cs.length = m) (hb : VBlk T w g cs)
    (h : R (.returned (.tuple #[.agg cs.toArray,x])) w) : WQ ⟨kn,[],md⟩ (bodyPost Tryz.prog fn R) .ret l w :=
  ⟨fun a ha => ⟨ha.defers,_,by
    obtain ⟨_,hu,hdd,hsz⟩:=cellsN_ok tyOk ht;have hp:=ha.getD hl;have hx:=ha.getD hq;simp only [Array.getD_eq_getD_getElem?] at hp hx;have:=run_loadVar_mid (P:=Tryz.prog) w g 0 ty' cs _ (VBlk.rangeAt hb) hu hdd (by rw [hsz,hm]);simp [results,hr,hp,hx,asAddr,this],h⟩⟩
end
theorem range4 {w : World} {b o : Nat} {a0 a1 a2 a3 : Value} (h0 : w.cell? ⟨b,o,none⟩ = some a0) (h1 : w.cell? ⟨b,o + 1,none⟩ = some a1) (h2 : w.cell? ⟨b,o + 2,none⟩ = some a2) (h3 : w.cell? ⟨b,o + 3,none⟩ = some a3) : w.rangeAt b o [a0,a1,a2,a3]:=by
  intro j u hu
  match j,hu with
  | 0,hu => cases hu;exact h0
  | 1,hu => cases hu;exact h1
  | 2,hu => cases hu;exact h2
  | 3,hu => cases hu;exact h3
  | k + 4,hu => simp at hu
end K
namespace Cr
open K Cat
section
variable {n : NN} {Q : Exit → Act → World → Prop} {l : Env} {w : World} {ops : Array Oper} {d : Nat} {S : World → Prop} {m fuel : Nat} {listed : Array Bool}
theorem WDbuild {oi : Oper} {t : Nat} {parts : List (Nat × Operand)} {ps : List (Nat × Value)} (cells : List Value) (i : Nat) (hi : ops[i]? = some oi) (hs : mayB ops listed i m = true) (hd : oi.dst = some d) (hn : Nat.blt d n.n = true)
    (hQ : Passes Q) (hw : wants ops l oi = some true) (ho : oi.op = .build t parts.toArray) (hp : evlParts l parts = some ps) (hf : Tryz.prog.built t ps = some cells.toArray) (hS : listed.getD m false = true ∨ S w)
    (h : WD n ops Q S m fuel (listed.setIfInBounds i true) ((d,.agg cells.toArray) :: l) w) : WD n ops Q S m (fuel + 1) listed l w :=
  K.WD.first i hi hs hd hn hQ (fun a ha => .inl ⟨wants_run ha hw,fun w _ => by
    unfold execOp;rw [ho];have:=run_build (P:=Tryz.prog) w t (parts.toArray.map fun (i,x) => (i,a.eval x)) cells.toArray (by
      rw [show (parts.toArray.map fun (x : Nat × Operand) => (x.1,a.eval x.2)).toList = ps by rw [Array.toList_map];exact evlParts_map ha hp];exact hf)
    simp only [Sem.run_bind,this,Result.andThen_ok]
    rfl⟩) hS h
end
abbrev rtT : Nat:=73
abbrev rcT : Nat:=60
abbrev stT : Nat:=9
theorem keepRow {K : Nat → Prop} {a w : World} (h : Keep K a w) {g : Nat} (hg : ¬ K g) (cs : Array Value) : Keep K a (w.setRow g cs) :=
  ⟨h.os,h.tape,h.output,by simpa using h.size,fun k hk => (setRow_other w g k cs (fun e => hg (e ▸ hk))).trans (h.block k hk)⟩
structure RC (w : World) (rc : Nat) (O : Nat → Prop) (L : List Tb) (tv : Value) (cells : List Value) : Prop where
  vb : VBlk rcT w rc [tv]
  own : OwnV rtT 4 w O tv L.length cells
  tab : ∀ i,i < L.length → IsTab stT w O cells i (L.getD i noTb)
  rc : O rc
  lt : ∀ b,O b → b < w.heap.size
  good : Cat.Good L
def RCat (w : World) (rc : Nat) (O : Nat → Prop) (L : List Tb) : Prop:=∃ tv cells,RC w rc O L tv cells
theorem RC.keep {w w' : World} {rc : Nat} {O : Nat → Prop} {L : List Tb} {tv : Value} {cells : List Value} (h : RC w rc O L tv cells) {K : Nat → Prop} (hk : Keep K w w') (hK : ∀ b,O b → K b) : RC w' rc O L tv cells :=
  ⟨h.vb.keep hk (hK _ h.rc),h.own.keep hk fun g hg => hK g (h.own.own hg),fun i hi => (h.tab i hi).of_block fun b hb _ => hk.block b (hK b hb),h.rc,fun b hb => Nat.lt_of_lt_of_le (h.lt b hb) hk.size,h.good⟩
theorem RC.below {w w' : World} {rc : Nat} {O : Nat → Prop} {L : List Tb} {tv : Value} {cells : List Value} (h : RC w rc O L tv cells) (hk : Below w.heap.size w w') : RC w' rc O L tv cells:=h.keep (Keep.of_below hk) h.lt
theorem RCat.keep {w w' : World} {rc : Nat} {O : Nat → Prop} {L : List Tb} (h : RCat w rc O L) {K : Nat → Prop} (hk : Keep K w w') (hK : ∀ b,O b → K b) : RCat w' rc O L:=by obtain ⟨tv,cells,h⟩:=h;exact ⟨tv,cells,h.keep hk hK⟩
theorem RCat.below {w w' : World} {rc : Nat} {O : Nat → Prop} {L : List Tb} (h : RCat w rc O L) (hk : Below w.heap.size w w') : RCat w' rc O L:=by obtain ⟨tv,cells,h⟩:=h;exact ⟨tv,cells,h.below hk⟩
theorem RCat.lt {w : World} {rc : Nat} {O : Nat → Prop} {L : List Tb} (h : RCat w rc O L) : ∀ b,O b → b < w.heap.size:=by obtain ⟨tv,cells,h⟩:=h;exact h.lt
theorem there_split {L : List Tb} {id : Int} : (∃ k : Nat,k < L.length ∧ id = (k : Int) + 1 ∧ there L id = !(L.getD k noTb).dropped) ∨ ((id < 1 ∨ (L.length : Int) < id) ∧ there L id = false):=by
  by_cases h1 : 1 ≤ id
  · by_cases h2 : id ≤ L.length
    · refine .inl ⟨(id - 1).toNat,by omega,by omega,?_⟩
      unfold there;rw [decide_eq_true h1,decide_eq_true h2];simp
    · refine .inr ⟨.inr (by omega),?_⟩
      unfold there;rw [decide_eq_false h2];simp
  · refine .inr ⟨.inl (by omega),?_⟩
    unfold there;rw [decide_eq_false h1];simp
set_option maxHeartbeats 1000000 in
theorem rthere_any {w : World} {rc : Nat} {O : Nat → Prop} {L : List Tb} {tv : Value} {cells : List Value} (h : RC w rc O L tv cells) (id : Int) :
    Calls Tryz.prog 88 #[.pointer (some ⟨rc,0,none⟩),.int .i64 id] w fun e w' => w' = w ∧
      ((there L id = false ∧ e = .returned (.pointer none)) ∨ ∃ k g cap,k < L.length ∧ id = (k : Int) + 1 ∧ there L id = true ∧ (L.getD k noTb).dropped = false ∧ tv = .slice (some ⟨g,0,none⟩) L.length cap ∧ e = .returned (.pointer (some ⟨g,k * 4,none⟩))):=by
  have hlen:=h.good.len;rcases there_split (L:=L) (id:=id) with ⟨k,hk,rfl,ht⟩ | ⟨ho,ht⟩
  · obtain ⟨g,cap,rfl,-,-,-,-,c0,c1,c2,sp,c,c3,-⟩:=tab_cells h.own hk (h.tab k hk)
    have cv:=h.vb.cell 0 (by simp);simp only [List.getD_cons_zero] at cv;generalize ht0 : L.getD k noTb = t at ht c0 c1 c2 c3;refine enter (args:=[.pointer (some ⟨rc,0,none⟩),.int .i64 ((k : Int) + 1)]) Tryz.func88 rfl Tryz.ntmps88 rfl ?_;cases hd : t.dropped with
    | true =>
      rw [hd] at c2 ht;refine K.kgl ?_;refine WL.idx k (k * 4) rfl rfl rfl rfl rfl rfl rfl (by omega) hk (by omega) ?_;refine K.kgl ?_;exact WQ.ret1 rfl rfl ⟨rfl,.inl ⟨ht,rfl⟩⟩
    | false =>
      rw [hd] at c2 ht;refine K.kgl ?_;refine WL.idx k (k * 4) rfl rfl rfl rfl rfl rfl rfl (by omega) hk (by omega) ?_;refine K.kgl ?_;refine WL.idx k (k * 4) rfl rfl rfl rfl rfl rfl rfl (by omega) hk (by omega) ?_;refine K.kgl ?_;exact WQ.ret1 rfl rfl ⟨rfl,.inr ⟨k,g,cap,hk,rfl,ht,by rw [ht0,hd],rfl,rfl⟩⟩
  · obtain ⟨sp,cap,rfl,-,-⟩:=h.own.slice
    have cv:=h.vb.cell 0 (by simp);simp only [List.getD_cons_zero] at cv;refine enter (args:=[.pointer (some ⟨rc,0,none⟩),.int .i64 id]) Tryz.func88 rfl Tryz.ntmps88 rfl ?_;rcases ho with ho | ho
    · refine K.kgl ?_
      exact WQ.ret1 rfl rfl ⟨rfl,.inl ⟨ht,rfl⟩⟩
    · by_cases h1 : id < 1
      · refine K.kgl ?_
        exact WQ.ret1 rfl rfl ⟨rfl,.inl ⟨ht,rfl⟩⟩
      · refine K.kgl ?_
        exact WQ.ret1 rfl rfl ⟨rfl,.inl ⟨ht,rfl⟩⟩
theorem rname_any (s : ByteArray) (w : World) : Calls Tryz.prog 86 #[.string s] w fun e w' => w' = w ∧ e = .returned (.bool (isNm s)):=by
  refine enter (args:=[.string s]) Tryz.func86 rfl Tryz.ntmps86 rfl ?_;unfold isNm
  by_cases h1 : 1 ≤ s.size
  · by_cases h2 : s.size ≤ 40
    · refine K.kgo ?_
      exact WQ.ret1 rfl rfl ⟨rfl,by simp [h1,h2]⟩
    · refine K.kgo ?_
      exact WQ.ret1 rfl rfl ⟨rfl,by simp [h2]⟩
  · refine K.kgo ?_
    exact WQ.ret1 rfl rfl ⟨rfl,by simp [h1]⟩
def RtPost (w : World) (O : Nat → Prop) (r : Int × Tb × Int) (e : Ending) (w' : World) : Prop :=
  ∃ fv,e = .returned (.tuple #[.agg #[.int .i64 r.1,.string r.2.1.name,.bool r.2.1.dropped,fv],.int .i64 r.2.2]) ∧ OwnV stT 1 w' O fv r.2.1.fs.length (r.2.1.fs.map Value.string) ∧ Below w.heap.size w w'
def zTab : List Value:=[.int .i64 0,.string ByteArray.empty,.bool false,.slice none 0 0]
theorem zeroRT (w : World) : (zeroValue rtT).run Tryz.prog w = .ok (.agg zTab.toArray) w:=by kernel_rfl
theorem builtRT : Tryz.prog.built rtT [] = some zTab.toArray:=by kernel_rfl
theorem ones4 {a : Int} {b : ByteArray} {c : Bool} {v : Value} (hv : v.oneCell' = true) : Ones [.int .i64 a,.string b,.bool c,v]:=fun u hu => by
  simp at hu
  rcases hu with rfl | rfl | rfl | rfl <;> first | rfl | exact hv
theorem OwnV.one {e : TypeId} {m : Nat} {w : World} {O : Nat → Prop} {v : Value} {n : Nat} {l : List Value} (h : OwnV e m w O v n l) : v.oneCell' = true:=by obtain ⟨_,_,rfl,-⟩:=h.slice;rfl
set_option maxHeartbeats 1000000 in
theorem rtable_any {w : World} {rc : Nat} {O : Nat → Prop} {L : List Tb} (h : RCat w rc O L) (id : Int) : Calls Tryz.prog 25 #[.pointer (some ⟨rc,0,none⟩),.int .i64 id] w (RtPost w O (tabR L id)):=by
  obtain ⟨tv,cells,h⟩:=h;have hlen:=h.good.len;obtain ⟨sp0,cap0,rfl,-,-⟩:=h.own.slice;refine enter (args:=[.pointer (some ⟨rc,0,none⟩),.int .i64 id]) Tryz.func25 rfl Tryz.ntmps25 rfl ?_;refine K.kgn ?_;refine WL.alloc (z:=.agg zTab.toArray) rfl rfl rfl rfl zeroRT fun g w1 f1 => ?_;have h1:=h.below f1.below;have cv:=h1.vb.cell 0 (by simp);simp only [List.getD_cons_zero] at cv;have bz:=f1.blk;have b1:=f1.below;have eg:=f1.eq
  by_cases hin : 1 ≤ id ∧ id ≤ L.length
  · obtain ⟨hi1,hi2⟩:=hin
    obtain ⟨k,rfl⟩ : ∃ k : Nat,id = (k : Int) + 1:=⟨(id - 1).toNat,by omega⟩;have hk : k < L.length:=by omega
    have hr : tabR L ((k : Int) + 1) = ((k : Int) + 1,L.getD k noTb,0):=by
      unfold tabR;rw [if_pos ⟨by omega,by omega⟩,show ((k : Int) + 1 - 1).toNat = k by omega]
    rw [hr];obtain ⟨g',cap,es,-,-,-,-,c0,c1,c2,sp,c,c3,hown⟩:=tab_cells h1.own hk (h1.tab k hk);obtain ⟨rfl,rfl⟩ : sp0 = some ⟨g',0,none⟩ ∧ cap0 = cap:=by simpa using es
    clear es;generalize L.getD k noTb = t at c0 c1 c2 c3 hown ⊢;refine K.kgl ?_;refine WL.idx k (k * 4) rfl rfl rfl rfl rfl rfl rfl (by omega) hk (by omega) ?_;refine WL.loadMid rfl rfl rfl rfl rfl rfl (range4 c0 c1 c2 c3) rfl ?_;refine WL.storeRow rfl rfl rfl rfl rfl rfl bz rfl rfl (ones4 rfl) ?_;have hne : Keep (fun b => b < w.heap.size) w (w1.setRow g [Value.int .i64 ((k + 1 : Nat) : Int),.string t.name,.bool t.dropped,.slice sp t.fs.length c].toArray):=keepRow (Keep.of_below b1) (fun hk => by omega) _;refine K.kgo ?_;refine WQ.retBT rfl rfl rfl rfl rfl (bz.setRow _) ⟨.slice sp t.fs.length c,rfl,hown.of_block fun b hb => ?_,hne.below⟩;have : b < w.heap.size:=h.lt b (hown.own hb);exact Go.setRow_other w1 g b _ (by omega)
  · have hr : tabR L id = (0,noTb,7):=by unfold tabR;rw [if_neg hin]
    rw [hr];have fin : ∀ (v : Value),v = .agg zTab.toArray → True:=fun _ _ => trivial;clear fin;have hx : id < 1 ∨ (¬ id < 1 ∧ (L.length : Int) < id):=by omega
    rcases hx with hx | ⟨hx,hy⟩
    all_goals
      refine K.kgl ?_;refine WL.build zTab rfl rfl rfl rfl rfl builtRT ?_;refine WL.storeRow rfl rfl rfl rfl rfl rfl bz rfl rfl (ones4 rfl) ?_;have hne : Keep (fun b => b < w.heap.size) w (w1.setRow g zTab.toArray):=keepRow (Keep.of_below b1) (fun hk => by omega) _;refine K.kgo ?_;exact WQ.retBT rfl rfl rfl rfl rfl (bz.setRow _) ⟨.slice none 0 0,rfl,OwnV.nil _ _ _ _,hne.below⟩
end Cr
end Go.Proofs.YtchgjaaadfjiiaaGreat
