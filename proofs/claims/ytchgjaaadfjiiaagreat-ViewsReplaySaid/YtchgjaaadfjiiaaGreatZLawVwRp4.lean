/- Texts for LawVwRp, part 4 of 9. -/
import Derived.Test.YtchgjaaadfjiiaaGreatZLawVwRp3
import Derived.Laws.Bits64b
import Derived.StillTailTactics
import Derived.Outline
import Derived.Shelf.SlMaps.Clone
namespace Go.Proofs.YtchgjaaadfjiiaaGreat
open Go.RowKit
namespace Cr
open K Cat
theorem eqvS (a b : ByteArray) : (a.toList == b.toList) = decide (a = b):=by
  by_cases h : a = b
  · subst h;simp
  · rw [decide_eq_false h]
    simpa using fun e => h (Tre.ky_eq e)
set_option maxHeartbeats 1000000 in
theorem rfind_any {w : World} {rc : Nat} {O : Nat → Prop} {L : List Tb} (h : RCat w rc O L) (s : ByteArray) : Calls Tryz.prog 87 #[.pointer (some ⟨rc,0,none⟩),.string s] w (RtPost w O (findR L s)):=by
  obtain ⟨tv,cells,h⟩:=h;have hlen:=h.good.len;obtain ⟨sp0,cap0,rfl,-,-⟩:=h.own.slice;refine enter (args:=[.pointer (some ⟨rc,0,none⟩),.string s]) Tryz.func87 rfl Tryz.ntmps87 rfl ?_;refine K.kgn ?_;refine WL.alloc (z:=.agg zTab.toArray) rfl rfl rfl rfl zeroRT fun g w1 f1 => ?_;have h1:=h.below f1.below;have cv:=h1.vb.cell 0 (by simp);simp only [List.getD_cons_zero] at cv;have bz:=f1.blk;have b1:=f1.below;have eg:=f1.eq;clear f1;refine K.kgo ?_;refine WC.loop (fun i : Nat => [(0,.pointer (some ⟨rc,0,none⟩)),(1,.string s),(4,.pointer (some ⟨g,0,none⟩)),(6,.int .i64 i)]) (fun i w' => w' = w1 ∧ i ≤ L.length ∧ ∀ j,j < i → findP L s j = false) (fun i => L.length - i) 0 ⟨rfl,rfl,rfl,rfl,trivial⟩ ⟨rfl,Nat.zero_le _,fun j hj => absurd hj (Nat.not_lt_zero j)⟩ ?_;rintro i w1 ⟨rfl,hi,hno⟩
  by_cases hk : i < L.length
  · obtain ⟨g',cap,es,-,-,-,-,c0,c1,c2,sp,c,c3,hown⟩:=tab_cells h1.own hk (h1.tab i hk)
    obtain ⟨rfl,rfl⟩ : sp0 = some ⟨g',0,none⟩ ∧ cap0 = cap:=by simpa using es
    clear es;have hf : findP L s i = (decide ((L.getD i noTb).name = s) && !(L.getD i noTb).dropped):=rfl;have hfr : findP L s i = true → findR L s = ((i : Int) + 1,L.getD i noTb,0):=fun hh => findR_at hk hno hh;have nxt : findP L s i = false → ∀ j,j < i + 1 → findP L s j = false:=fun hh j hj => by
      rcases Nat.lt_or_ge j i with h' | h'
      · exact hno j h'
      · obtain rfl : j = i:=by omega
        exact hh
    generalize L.getD i noTb = t at c0 c1 c2 c3 hown hf hfr ⊢;cases hd : t.dropped with
    | true =>
      rw [hd] at c2 hf;refine K.kgl ?_;refine WL.idx i (i * 4) rfl rfl rfl rfl rfl rfl rfl rfl hk (by omega) ?_;refine K.kgl ?_;exact WQ.again (i + 1) ⟨rfl,rfl,rfl,rfl,trivial⟩ ⟨rfl,hk,nxt (by rw [hf];simp)⟩ (by omega)
    | false =>
      rw [hd] at c2 hf;refine K.kgl ?_;refine WL.idx i (i * 4) rfl rfl rfl rfl rfl rfl rfl rfl hk (by omega) ?_;refine K.kgl ?_;refine WL.idx i (i * 4) rfl rfl rfl rfl rfl rfl rfl rfl hk (by omega) ?_;refine K.kgl ?_;cases hq : (t.name.toList == s.toList) with
      | true =>
        rw [eqvS] at hq;rw [hfr (by rw [hf,hq];rfl)];refine K.kgl ?_;refine WL.idx i (i * 4) rfl rfl rfl rfl rfl rfl rfl rfl hk (by omega) ?_;refine WL.loadMid rfl rfl rfl rfl rfl rfl (range4 c0 c1 c2 c3) rfl ?_;refine WL.storeRow rfl rfl rfl rfl rfl rfl bz rfl rfl (ones4 rfl) ?_;have hne : Keep (fun b => b < w.heap.size) w (w1.setRow g [Value.int .i64 ((i + 1 : Nat) : Int),.string t.name,.bool false,.slice sp t.fs.length c].toArray):=keepRow (Keep.of_below b1) (fun hk => by omega) _;refine K.kgo ?_;refine WQ.retBT rfl rfl rfl rfl rfl (bz.setRow _) ⟨.slice sp t.fs.length c,by rw [← hd];rfl,hown.of_block fun b hb => ?_,hne.below⟩;have : b < w.heap.size:=h.lt b (hown.own hb);exact Go.setRow_other w1 g b _ (by omega)
      | false =>
        rw [eqvS] at hq;refine K.kgl ?_;exact WQ.again (i + 1) ⟨rfl,rfl,rfl,rfl,trivial⟩ ⟨rfl,hk,nxt (by rw [hf,hq];rfl)⟩ (by omega)
  · obtain rfl : i = L.length:=by omega
    rw [findR_no hno];refine K.kgl ?_;refine WL.build zTab rfl rfl rfl rfl rfl builtRT ?_;refine WL.storeRow rfl rfl rfl rfl rfl rfl bz rfl rfl (ones4 rfl) ?_;have hne : Keep (fun b => b < w.heap.size) w (w1.setRow g zTab.toArray):=keepRow (Keep.of_below b1) (fun hk => by omega) _;refine K.kgo ?_;exact WQ.retBT rfl rfl rfl rfl rfl (bz.setRow _) ⟨.slice none 0 0,rfl,OwnV.nil _ _ _ _,hne.below⟩
theorem own_str {e : TypeId} {w : World} {O : Nat → Prop} {v : Value} {l : List ByteArray} (h : OwnV e 1 w O v l.length (l.map Value.string)) {j : Nat} (hj : j < l.length) : ∃ g cap,v = .slice (some ⟨g,0,none⟩) l.length cap ∧ w.cell? ⟨g,j,none⟩ = some (.string (l.getD j ByteArray.empty)):=by
  rcases h.form with ⟨-,h0,-⟩ | ⟨g,cap,cur,rfl,-⟩
  · omega
  · refine ⟨g,cap,rfl,?_⟩
    rw [h.at j (by simpa using hj)];simp [hj]
set_option maxHeartbeats 1000000 in
theorem rhas_any {w : World} {rc : Nat} {O : Nat → Prop} {L : List Tb} (h : RCat w rc O L) (id : Int) (f : ByteArray) : Calls Tryz.prog 89 #[.pointer (some ⟨rc,0,none⟩),.int .i64 id,.string f] w fun e w' => w' = w ∧ e = .returned (.bool (has L id f)):=by
  obtain ⟨tv,cells,h⟩:=h;have hlen:=h.good.len;refine enter (args:=[.pointer (some ⟨rc,0,none⟩),.int .i64 id,.string f]) Tryz.func89 rfl Tryz.ntmps89 rfl ?_;refine K.kgo ?_;refine WL.call rfl rfl rfl rfl rfl Tryz.func88 rfl (by kernel_rfl) (rthere_any h id) ?_;rintro _ w1 ⟨rfl,⟨ht,rfl⟩ | ⟨k,g,cap,hk,rfl,ht,hnd,rfl,rfl⟩⟩
  · refine ⟨_,rfl,?_⟩
    rw [has_there h.good id f ht];refine K.kgo ?_;refine WC.loop (fun _ : Unit => [(7,.pointer none),(8,.int .i64 0)]) (fun _ w' => w' = w1) (fun _ => 0) () ⟨rfl,rfl,trivial⟩ rfl ?_;rintro ⟨⟩ w1 rfl;refine K.kgo ?_;refine WL.notNilP rfl rfl rfl rfl rfl rfl (by kernel_rfl) ?_;refine K.kgo ?_;exact WQ.ret1 rfl rfl ⟨rfl,rfl⟩
  · refine ⟨_,rfl,?_⟩
    have hh : has L ((k : Int) + 1) f = mem (L.getD k noTb).fs f:=by
      unfold has;rw [decide_eq_true (by omega : 1 ≤ (k : Int) + 1),decide_eq_true (by omega : (k : Int) + 1 ≤ L.length),show ((k : Int) + 1 - 1).toNat = k by omega]
      rfl
    rw [hh];have hfs:=(h.good.each k hk).2.1;obtain ⟨g',cap',es,-,-,-,-,c0,c1,c2,sp,c,c3,hown⟩:=tab_cells h.own hk (h.tab k hk);obtain ⟨rfl,rfl⟩ : g = g' ∧ cap = cap':=by simpa using es
    clear es;generalize L.getD k noTb = t at c0 c1 c2 c3 hown hfs hnd ⊢;refine K.kgo ?_;refine WC.loop (fun i : Nat => [(2,.string f),(7,.pointer (some ⟨g,k * 4,none⟩)),(8,.int .i64 i)]) (fun i w' => w' = w1 ∧ i ≤ t.fs.length ∧ ∀ j,j < i → t.fs.getD j ByteArray.empty ≠ f) (fun i => t.fs.length - i) 0 ⟨rfl,rfl,rfl,trivial⟩ ⟨rfl,Nat.zero_le _,fun j hj => absurd hj (Nat.not_lt_zero j)⟩ ?_;rintro i w1 ⟨rfl,hi,hno⟩
    by_cases hlt : i < t.fs.length
    · obtain ⟨g2,cap2,es,ci⟩:=own_str hown hlt
      obtain ⟨rfl,rfl⟩ : sp = some ⟨g2,0,none⟩ ∧ c = cap2:=by simpa using es
      clear es;have hq0 : ∀ x,t.fs.getD i ByteArray.empty = x → x = f → mem t.fs f = true:=fun x hx hf => by
        rw [mem_iff,← hf,← hx,List.getD_eq_getElem?_getD,List.getElem?_eq_getElem hlt];exact List.getElem_mem hlt
      have nxt : t.fs.getD i ByteArray.empty ≠ f → ∀ j,j < i + 1 → t.fs.getD j ByteArray.empty ≠ f:=fun hh j hj => by
        rcases Nat.lt_or_ge j i with h' | h'
        · exact hno j h'
        · obtain rfl : j = i:=by omega
          exact hh
      generalize t.fs.getD i ByteArray.empty = x at ci hq0 nxt;refine K.kgo ?_;refine WL.notNilP rfl rfl rfl rfl rfl rfl (by kernel_rfl) ?_;refine K.kgl ?_;refine WL.idx i (i * 1) rfl rfl rfl rfl rfl rfl rfl rfl hlt (by omega) ?_;have ci' : w1.cell? ⟨g2,i * 1,none⟩ = some (.string x):=by rw [Nat.mul_one];exact ci
      refine K.kgl ?_;cases hq : (x.toList == f.toList) with
      | true =>
        rw [eqvS] at hq;rw [hq0 x rfl (of_decide_eq_true hq)];refine K.kgl ?_;exact WQ.ret1 rfl rfl ⟨rfl,rfl⟩
      | false =>
        rw [eqvS] at hq;refine K.kgl ?_;exact WQ.again (i + 1) ⟨rfl,rfl,rfl,trivial⟩ ⟨rfl,hlt,nxt (of_decide_eq_false hq)⟩ (by omega)
    · obtain rfl : i = t.fs.length:=by omega
      have hm : mem t.fs f = false:=by
        cases hq : mem t.fs f with
        | false => rfl
        | true =>
          rw [mem_iff] at hq;obtain ⟨j,hj,e⟩:=List.mem_iff_getElem.1 hq;refine absurd ?_ (hno j hj);rw [List.getD_eq_getElem?_getD,List.getElem?_eq_getElem hj,Option.getD_some];exact e
      rw [hm];refine K.kgo ?_;refine WL.notNilP rfl rfl rfl rfl rfl rfl (by kernel_rfl) ?_;refine K.kgl ?_;exact WQ.ret1 rfl rfl ⟨rfl,rfl⟩
end Cr
open Go.Maps
namespace Cat
set_option maxRecDepth 100000
theorem IsTab.mono {eF : TypeId} {w : World} {O O' : Nat → Prop} {cells : List Value} {i : Nat} {t : Tb} (h : IsTab eF w O cells i t) (hO : ∀ b,O b → O' b) : IsTab eF w O' cells i t :=
  ⟨h.1,h.2.1,h.2.2.1,h.2.2.2.mono hO⟩
theorem IsTab.left {eF : TypeId} {w : World} {O : Nat → Prop} {cells r : List Value} {i : Nat} {t : Tb} (h : IsTab eF w O cells i t) (hi : i * 4 + 4 ≤ cells.length) : IsTab eF w O (cells ++ r) i t:=by
  obtain ⟨i0,i1,i2,i3⟩:=h;refine ⟨?_,?_,?_,?_⟩
  · rw [getD_left _ _ _ _ (by omega)];exact i0
  · rw [getD_left _ _ _ _ (by omega)];exact i1
  · rw [getD_left _ _ _ _ (by omega)];exact i2
  · rw [getD_left _ _ _ _ (by omega)];exact i3
theorem IsTab.last {eF : TypeId} {w : World} {O : Nat → Prop} {cells : List Value} {k : Nat} {t : Tb} {v : Value} (hl : cells.length = k * 4) (h : OwnV eF 1 w O v t.fs.length (t.fs.map Value.string)) :
    IsTab eF w O (cells ++ [.int .i64 (k + 1 : Nat),.string t.name,.bool t.dropped,v]) k t:=by
  unfold IsTab;rw [← hl];exact ⟨getD_right cells _ 0 _,getD_right cells _ 1 _,getD_right cells _ 2 _,by rw [getD_right cells _ 3 _];exact h⟩
def AllRel (w : World) (L : List Tb) (i l : Value) (wr : World) : Prop :=
  ∃ (k : Nat) (sp : Option Addr) (cap : Nat) (cells : List Value),k ≤ L.length ∧ i = .int .i64 (k : Nat) ∧ l = .slice sp k cap ∧ Below w.heap.size w wr ∧
    OwnV 107 4 wr (fun b => w.heap.size ≤ b) (.slice sp k cap) k cells ∧ ∀ j,j < k → IsTab 153 wr (fun b => w.heap.size ≤ b) cells j (L.getD j noTb)
theorem all_step {w wr w2 w5 : World} {L : List Tb} {k : Nat} {t : Tb} {sp sp2 sp5 : Option Addr} {cap c2 c5 : Nat} {cells row : List Value} (hk : k < L.length) (ht : t = L.getD k noTb)
    (hb : Below w.heap.size w wr) (hT : OwnV 107 4 wr (fun b => w.heap.size ≤ b) (.slice sp k cap) k cells) (hI : ∀ j,j < k → IsTab 153 wr (fun b => w.heap.size ≤ b) cells j (L.getD j noTb))
    (hrow : row = [.int .i64 (k + 1 : Nat),.string t.name,.bool t.dropped,.slice sp2 t.fs.length c2])
    (hb2 : Below wr.heap.size wr w2) (hown : OwnV 153 1 w2 (fun b => wr.heap.size ≤ b) (.slice sp2 t.fs.length c2) t.fs.length (t.fs.map Value.string))
    (h5 : OwnV 107 4 w5 (fun g => w.heap.size ≤ g ∨ g = (w2.alloc (.cells row.toArray 107)).heap.size) (.slice sp5 (k + 1) c5) (k + 1) (cells ++ row))
    (hg : (w2.alloc (.cells row.toArray 107)).grownBy w5 (Value.slice sp k cap).ownBlock) :
    AllRel w L (.int .i64 (k + 1 : Nat)) (.slice sp5 (k + 1) c5) w5:=by
  subst hrow;have hw : w.heap.size ≤ wr.heap.size:=hb.size;have hw2 : wr.heap.size ≤ w2.heap.size:=hb2.size;have hkeep : ∀ b,b < w2.heap.size → (Value.slice sp k cap).ownBlock ≠ some b → w5.heap[b]? = w2.heap[b]?:=fun b h1 h2 => by
    rw [hg.block b (by simp;omega) (fun e => h2 e.symm),Below.heap_alloc _ _ _ h1]
  have hb5 : Below w.heap.size w w5:=by
    refine (hb.trans ((hb2.mono hw).alloc (Nat.le_trans hw hw2) _)).trans ((grown_keep hg).mono fun b (hb' : b < w.heap.size) => ⟨by simp;omega,fun e => ?_⟩).below;have : w.heap.size ≤ b:=hT.own e;omega
  have hfr : ∀ b (cur : Array Value),w2.heap[b]? = some (Obj.cells cur 153 (0,0)) → w5.heap[b]? = w2.heap[b]?:=fun b cur hcur => by
    refine hkeep b (lt_of_block hcur) fun e => ?_;obtain ⟨cur',hcur'⟩:=hT.tag e;have h1 : b < wr.heap.size:=lt_of_block hcur';rw [← hb2.block b h1] at hcur';exact tag_ne hcur' hcur (by decide) rfl
  have hlen:=hT.len;refine ⟨k + 1,sp5,c5,_,by omega,rfl,rfl,hb5,h5.mono (fun b hb => ?_),fun j hj => ?_⟩
  · rcases hb with hb | rfl
    · exact hb
    · show w.heap.size ≤ _;simp;omega
  · by_cases hjk : j < k
    · refine IsTab.left ((hI j hjk).of_block fun b hb0 ⟨cur,hcur⟩ => ?_) (by omega)
      have h1 : b < wr.heap.size:=lt_of_block hcur;have h2:=hb2.block b h1;rw [hfr b cur (by rw [h2];exact hcur),h2]
    · have e : j = k:=by omega
      subst e;rw [← ht];refine IsTab.last hlen ?_;refine (hown.of_block fun g hg' => ?_).mono (fun b (hb' : wr.heap.size ≤ b) => Nat.le_trans hw hb');obtain ⟨cur,hcur⟩:=hown.tag hg';exact hfr g cur hcur
set_option maxHeartbeats 2000000 in
theorem all_any {w : World} {c n : Nat} {O : Nat → Prop} {L : List Tb} (h : IsCat w c O n L) :
    Calls Tryz.prog 35 #[.pointer (some ⟨c,0,none⟩)] w fun e w' => ∃ sp cap,e = .returned (.slice sp L.length cap) ∧ Tabs 107 153 w' (fun b => w.heap.size ≤ b) (.slice sp L.length cap) L ∧ Below w.heap.size w w':=by
  have hlen:=h.good.len;have hfs : ∀ i,i < L.length → (L.getD i noTb).fs.length ≤ 16:=fun i hi => (h.good.each i hi).2.1;have H0:=Hid2.mk h;have HF:=Hid2.mk hfs;obtain ⟨tv,dr,mb,hc,-,-,-,⟨cells,hT,hI⟩,-,-,hG⟩:=h;obtain ⟨sp,cap,rfl,hcap,hcap2⟩:=hT.slice;have c0:=hc.cell 0 (by simp);simp only [List.getD_cons_zero] at c0;have HT:=Hid2.mk hT;have HI:=Hid2.mk hI;clear hc hT hI hG hfs
  go_enter Tryz.func35,Tryz.ntmps35
  go_wp2_with fail
  go_loopw [13,3] (fun i l wr => AllRel w L i l wr) (fun i _ _ => L.length - (intOf i).toNat)
  case atStart => exact ⟨0,none,0,[],by omega,rfl,rfl,Below.refl _ _,OwnV.nil _ _ _ _,fun j hj => by omega⟩
  case round =>
    obtain ⟨k,spl,capl,lc,hk,rfl,rfl,hbr,hTl,hIl⟩:=hrel;have hTr:=HT.out.keep (Keep.of_below hbr) (fun g hg => HT.out.lt hg);have hIr : ∀ i,i < L.length → IsTab 153 wr O cells i (L.getD i noTb):=fun i hi => (HI.out i hi).of_block fun b hb _ => hbr.block b (H0.out.lt b hb)
    by_cases hkl : k < L.length
    · have hkl2 : (k : Int) < L.length:=by omega
      obtain ⟨t,ht⟩ : ∃ t,t = L.getD k noTb:=⟨_,rfl⟩;have hIk:=hIr k hkl;have hf:=HF.out k hkl;rw [← ht] at hIk hf;obtain ⟨g,cap',hsl,-,-,hg,-,x0,x1,x2,sp',cc,x3,hown⟩:=tab_cells hTr hkl hIk;obtain ⟨rfl,rfl⟩ : sp = some ⟨g,0,none⟩ ∧ cap = cap':=by simpa using hsl
      have Hown:=Hid2.mk hown;have Ht:=Hid2.mk ht;have Hbr:=Hid2.mk hbr;have HTl:=Hid2.mk hTl;have HIl:=Hid2.mk hIl;clear hTr hIr hIk hown hsl ht hbr hTl hIl
      go_wp2_with fail
      have ho3:=Hown.out.alloc (.cells #[.int .i64 ((k : Int) + 1),.string t.name,.bool t.dropped,.slice sp' t.fs.length cc] 107);refine (own_any _ _ _ _ ho3.slV (by omega)).mono ?_;rintro e w2 ⟨sp2,c2,rfl,hown2,hb2⟩;have Hb2:=Hid2.mk (((Below.refl _ wr).alloc (Nat.le_refl _) _).trans (hb2.mono (by simp)));have Hown2:=Hid2.mk (hown2.mono (O':=fun b => wr.heap.size ≤ b) (fun b (hb : _ ≤ b) => Nat.le_trans (by simp) hb));have HTl2:=Hid2.mk ((HTl.out.keep (Keep.of_below Hb2.out) (fun g hg => HTl.out.lt hg)).alloc (.cells #[.int .i64 (k + 1 : Nat),.string t.name,.bool t.dropped,.slice sp2 t.fs.length c2] 107));have Hsl:=Hid2.mk (SlV.fresh w2 (fun _ => True) 107 (m:=4) (n:=1) (l:=[.int .i64 (k + 1 : Nat),.string t.name,.bool t.dropped,.slice sp2 t.fs.length c2]) rfl (fun u hu => by simp at hu;rcases hu with rfl | rfl | rfl | rfl <;> rfl) trivial (by unfold maxLen;omega));clear hb2 hown2 ho3 x0 x1 x2 x3 c0 hg
      go_wp2_with (refine wpList_appV rfl (.tmp 17) (.tmp 20) 89 rfl elemTable rfl HTl2.out rfl Hsl.out (n':=k + 1) rfl (by unfold maxLen;omega) (by omega) ?_;intro sp5 c5 w5 hown5 hgrow hat)
      have Hst:=Hid2.mk (all_step hkl Ht.out Hbr.out HTl.out HIl.out rfl Hb2.out Hown2.out hown5 hgrow);clear hown5 hgrow hat
      go_roundw
      case rel => exact Hst.out
      case measure => simp [intOf];omega
    · have hd2 : decide ((k : Int) < L.length) = false:=decide_eq_false (by omega)
      obtain rfl : k = L.length:=by omega
      have Hbr:=Hid2.mk hbr;have HTl:=Hid2.mk hTl;have HIl:=Hid2.mk hIl;clear hTr hIr hbr hTl hIl c0
      go_wp2_with fail
      go_ret
      exact ⟨_,_,rfl,⟨_,HTl.out,HIl.out⟩,Hbr.out⟩
end Cat
namespace Cat
set_option maxRecDepth 100000
theorem or_eq (dr k : Nat) (hd : dr < 18446744073709551616) (hk : k < 64) : bits BinOp.or IntKind.u64 (dr : Int) (IntKind.u64.wrap (2 ^ min (IntKind.u64.wrap (IntKind.i64.wrap (k : Int))).toNat 64)) = ((dr ||| 2 ^ k : Nat) : Int):=by
  have h1 : IntKind.i64.wrap (k : Int) = k:=IntWalk.i64_in _ (by omega);have h2 : (IntKind.u64.wrap (k : Int)).toNat = k:=by rw [IntKind.wrap_u64];omega
  have h3 : min k 64 = k:=by omega
  have h4 : (2 : Nat) ^ k < 2 ^ 64:=Nat.pow_lt_pow_right (by omega) hk;have h5 : ((2 : Int) ^ k) = ((2 ^ k : Nat) : Int):=by simp
  rw [h1,h2,h3,h5];generalize 2 ^ k = p at h4 ⊢;have h6 : IntKind.u64.wrap ((p : Nat) : Int) = ((p : Nat) : Int):=by rw [IntKind.wrap_u64];omega
  rw [h6];exact bits_or_u64_nat dr p hd (by omega)
theorem or_lt (dr k : Nat) (hd : dr < 18446744073709551616) (hk : k < 64) : dr ||| 2 ^ k < 18446744073709551616 :=
  Nat.or_lt_two_pow (n:=64) hd (Nat.pow_lt_pow_right (by omega) hk)
def delF (L : List Tb) (k : Nat) (l : List ByteArray) (x : Int × ByteArray) : Option Value:=if x.1 = (k + 1 : Nat) ∧ mem l x.2 = true then none else hasF L x
theorem delF_nil (L : List Tb) (k : Nat) : delF L k [] = hasF L:=by funext x;simp [delF,mem_nil]
theorem delF_snoc (L : List Tb) (k : Nat) (l : List ByteArray) (f : ByteArray) : mfDel (delF L k l) (((k + 1 : Nat) : Int),f) = delF L k (l ++ [f]):=by
  funext x
  obtain ⟨x1,x2⟩:=x;unfold mfDel delF;simp only [mem_snoc]
  by_cases h : x1 = (k + 1 : Nat)
  · by_cases h2 : x2 = f
    · subst h;subst h2;simp
    · have : ¬ ((x1,x2) = (((k + 1 : Nat) : Int),f)):=fun e => h2 (by injection e)
      rw [if_neg this];have h3 : decide (f = x2) = false:=decide_eq_false (fun e => h2 e.symm);rw [h3,Bool.or_false]
  · have : ¬ ((x1,x2) = (((k + 1 : Nat) : Int),f)):=fun e => h (by injection e)
    rw [if_neg this,if_neg (fun e => h e.1),if_neg (fun e => h e.1)]
theorem delF_all {L : List Tb} {k : Nat} (hk : k < L.length) (nm : ByteArray) : delF L k (L.getD k noTb).fs = hasF (L.set k ⟨nm,true,[]⟩):=by
  funext x
  obtain ⟨x1,x2⟩:=x;unfold delF hasF has
  by_cases h : x1 = (k + 1 : Nat)
  · subst h
    have e : (((k + 1 : Nat) : Int) - 1).toNat = k:=by omega
    simp only [e,List.length_set];have e2 : (L.set k ⟨nm,true,[]⟩).getD k noTb = ⟨nm,true,[]⟩:=by simp [hk]
    rw [e2];cases h2 : mem (L.getD k noTb).fs x2 <;> simp [mem_nil]
  · rw [if_neg (fun e => h e.1)]
    by_cases h1 : 1 ≤ x1
    · have e2 : (L.set k ⟨nm,true,[]⟩).getD (x1 - 1).toNat noTb = L.getD (x1 - 1).toNat noTb:=by
        simp only [List.getD_eq_getElem?_getD];rw [List.getElem?_set_ne (by omega)]
      simp only [e2,List.length_set]
    · simp [h1]
theorem ent_cells {w : World} {cs : Array Value} {kind tbl : Int} {txt : ByteArray} (hE : Ent cs kind txt tbl) : (w.alloc (.cells cs 52)).cell? ⟨w.heap.size,0,none⟩ = some (.int .i64 kind) ∧
    (w.alloc (.cells cs 52)).cell? ⟨w.heap.size,1,none⟩ = some (.string txt) ∧ (w.alloc (.cells cs 52)).cell? ⟨w.heap.size,2,none⟩ = some (.int .i64 tbl):=by
  have hrow:=heap_alloc_new w (.cells cs 52);exact ⟨by rw [cell_of_row _ _ _ _ _ _ hrow];exact hE.hk,by rw [cell_of_row _ _ _ _ _ _ hrow];exact hE.htx,by rw [cell_of_row _ _ _ _ _ _ hrow];exact hE.htb⟩
theorem IsTab.moved {eF : TypeId} {w w' : World} {O : Nat → Prop} {cells cells' : List Value} {i : Nat} {t : Tb} (h : IsTab eF w O cells i t) (hc : ∀ j,j < 4 → cells'.getD (i * 4 + j) undef = cells.getD (i * 4 + j) undef)
    (hb : ∀ b,O b → (∃ cur,w.heap[b]? = some (.cells cur eF (0,0))) → w'.heap[b]? = w.heap[b]?) : IsTab eF w' O cells' i t:=by
  obtain ⟨i0,i1,i2,i3⟩:=h.of_block hb;refine ⟨(hc 0 (by omega)).trans i0,(hc 1 (by omega)).trans i1,(hc 2 (by omega)).trans i2,?_⟩;rw [hc 3 (by omega)];exact i3
theorem getD_set_ne {α : Type} (l : List α) (i j : Nat) (x d : α) (h : i ≠ j) : (l.set i x).getD j d = l.getD j d:=by
  simp only [List.getD_eq_getElem?_getD];rw [List.getElem?_set_ne h]
theorem getD_set_eq {α : Type} (l : List α) (i : Nat) (x d : α) (h : i < l.length) : (l.set i x).getD i d = x:=by simp [h]
theorem bits_drop {dr k : Nat} {L : List Tb} (h : Bits dr L) (hk : k < L.length) (h64 : L.length ≤ 64) (nm : ByteArray) (fs : List ByteArray) : Bits (dr ||| 2 ^ k) (L.set k ⟨nm,true,fs⟩):=by
  refine ⟨or_lt dr k h.1 (by omega),fun i => ?_⟩;rw [Nat.testBit_or,Nat.testBit_two_pow,h.2 i]
  by_cases e : k = i
  · subst e;rw [getD_set_eq _ _ _ _ hk];simp
  · rw [getD_set_ne _ _ _ _ _ e];simp [e]
theorem good_set {L : List Tb} (h : Good L) {k : Nat} {t : Tb} (h1 : t.name.size ≤ 40) (h2 : t.fs.length ≤ 16) (h3 : ∀ f ∈ t.fs,f.size ≤ 40) (h4 : t.dropped = true → t.fs = []) : Good (L.set k t):=by
  refine ⟨by rw [List.length_set];exact h.len,fun i hi => ?_⟩;rw [List.length_set] at hi
  by_cases e : k = i
  · subst e;rw [getD_set_eq _ _ _ _ hi];exact ⟨h1,h2,h3,h4⟩
  · rw [getD_set_ne _ _ _ _ _ e];exact h.each i hi
theorem wf_small (k : Nat) (h : k < 1000) : (Lit.int .i64 ((k + 1 : Nat) : Int)).wf = true:=by
  simp [Lit.wf,IntKind.min,IntKind.max,IntKind.bits,IntKind.signed];omega
set_option maxRecDepth 100000 in
set_option maxHeartbeats 8000000 in
theorem apply_drop {w : World} {c n : Nat} {O : Nat → Prop} {L : List Tb} {cs : Array Value} {txt : ByteArray} {tbl : Int} (h : IsCat w c O n L) (hE : Ent cs 6 txt tbl) :
    Calls Tryz.prog 60 #[.pointer (some ⟨c,0,none⟩),.agg cs] w (AppPost w c n O L 6 txt tbl):=by
  have hz:=zeroTable;have hbel : Below w.heap.size w (w.alloc (.cells cs 52)):=(Below.refl _ w).alloc (Nat.le_refl _) _;have h1:=h.below hbel (Nat.le_refl _);have HE:=Hid2.mk hE;obtain ⟨e0,e1,e2⟩:=ent_cells (w:=w) hE;have H:=Hid2.mk h;have HB:=Hid2.mk hbel;have H1:=Hid2.mk h1;have HT:=Hid2.mk (there_any h1 tbl);clear h hbel h1 hE;cases ht : there L tbl with
  | false =>
    have hx : appC L 6 txt tbl = 7:=by unfold appC;rw [if_neg (by omega),if_pos rfl,ht];rfl
    have Hx:=Hid2.mk hx;have Ht:=Hid2.mk ht;clear hx ht
    go_enter Tryz.func60,Tryz.ntmps60
    go_wp2_with (refine (HT.out).mono ?_;rw [Ht.out];rintro e w' ⟨rfl,rfl⟩)
    go_ret
    exact appPost_no Hx.out (by omega) H.out HB.out
  | true =>
    obtain ⟨k,rfl,hk⟩ : ∃ k : Nat,tbl = (k + 1 : Nat) ∧ k < L.length:=⟨(tbl - 1).toNat,by unfold there at ht;simp at ht;omega,by unfold there at ht;simp at ht;omega⟩;have hlen:=H.out.good.len;obtain ⟨t,hte⟩ : ∃ t,t = L.getD k noTb:=⟨_,rfl⟩;obtain ⟨tv,dr,mb,hc,hOc,hOm,hO3,⟨cells,hT,hI⟩,hB3,hM3,hG⟩:=H1.out;have hIk:=hI k hk;rw [← hte] at hIk;obtain ⟨g,cap,rfl,hcap,hcap2,hg,hOg,x0,x1,x2,sp,cc,x3,hown⟩:=tab_cells hT hk hIk;have c0:=hc.cell 0 (by simp);have c1:=hc.cell 1 (by simp);have c2:=hc.cell 2 (by simp);have f1:=hc.free 1;simp only [List.getD_cons_zero,List.getD_cons_succ] at c0 c1 c2;have Ht:=Hid2.mk ht;have Hc:=Hid2.mk hc;have Hte:=Hid2.mk hte;have HT0:=Hid2.mk hT;have HI:=Hid2.mk hI;have Hm:=Hid2.mk hM3;have Hown:=Hid2.mk hown;have HX:=Hid2.mk (And.intro hOm (And.intro hO3 (And.intro hB3 hG)));have hfl : t.fs.length ≤ 16:=by rw [hte];exact (hG.each k hk).2.1
    clear ht hc hT hI hIk hown hM3 hG hO3 hOm hte
    go_enter Tryz.func60,Tryz.ntmps60
    go_wp2_with (refine (HT.out).mono ?_;rw [Ht.out];rintro e w' ⟨rfl,rfl⟩)
    generalize World.alloc _ _ = w1 at e0 e1 e2 HB H1 HT c0 c1 c2 f1 x0 x1 x2 x3 hg Hc HT0 HI Hm Hown HX ⊢;refine wp_region_till 12 (fun w' => w'.cell? ⟨c,1,none⟩ = some (.int .u64 (dr : Nat)) ∧ w'.cell? ⟨w.heap.size,2,none⟩ = some (.int .i64 ((k + 1 : Nat) : Int))) (by kernel_rfl) ?_;have hS : w1.drew.cell? ⟨c,1,none⟩ = some (.int .u64 (dr : Nat)) ∧ w1.drew.cell? ⟨w.heap.size,2,none⟩ = some (.int .i64 ((k + 1 : Nat) : Int)):=⟨c1,e2⟩;refine till_free (i:=0) rfl (by kernel_rfl) (by kernel_rfl) (by kernel_rfl) rfl (fun _ _ _ h => h) (.inr hS) (by rfl) (fun _ => by first | (go_simp;done) | (go_simp;with_reducible rfl)) ?_  -- move (tmp 0)
    refine till_free (i:=1) rfl (by kernel_rfl) (by kernel_rfl) (by kernel_rfl) rfl (fun _ _ _ h => h) (.inr hS) (by rfl) (fun _ => by first | (go_simp;done) | (go_simp;with_reducible rfl)) ?_  -- nilCheck (tmp 71)
    refine till_free (i:=2) rfl (by kernel_rfl) (by kernel_rfl) (by kernel_rfl) rfl (fun _ _ _ h => h) (.inr hS) (by rfl) (fun _ => by first | (go_simp;done) | (go_simp;with_reducible rfl)) ?_  -- fieldAddr 69 (tmp 72) 1
    refine till_read (i:=3) [12] rfl (by kernel_rfl) (by kernel_rfl) (by kernel_rfl) (by kernel_rfl) rfl (fun _ _ _ h => h) (by rfl) (fun w' hw' => by first | (go_simp;done) | (go_simp;with_reducible rfl)) hS ?_  -- load 67 (tmp 73)
    refine till_free (i:=4) rfl (by kernel_rfl) (by kernel_rfl) (by kernel_rfl) rfl (fun _ _ _ h => h) (.inr hS) (by rfl) (fun _ => by first | (go_simp;done) | (go_simp;with_reducible rfl)) ?_  -- fieldAddr 37 (tmp 3) 2
    refine till_read (i:=5) [12] rfl (by kernel_rfl) (by kernel_rfl) (by kernel_rfl) (by kernel_rfl) rfl (fun _ _ _ h => h) (by rfl) (fun w' hw' => by first | (go_simp;done) | (go_simp;with_reducible rfl)) hS ?_  -- load 3 (tmp 75)
    refine till_free (i:=6) rfl (by kernel_rfl) (by kernel_rfl) (by kernel_rfl) rfl (fun _ _ _ h => h) (.inr hS) (by rfl) (fun _ => by first | (go_simp;done) | (go_simp;with_reducible rfl)) ?_  -- binOp Binsub 3 (tmp 76) (const (Value.int IntKind.
    refine till_free (i:=7) rfl (by kernel_rfl) (by kernel_rfl) (by kernel_rfl) rfl (fun _ _ _ h => h) (.inr hS) (by rfl) (fun _ => by first | (go_simp;done) | (go_simp;with_reducible rfl)) ?_  -- convert 3 72 (tmp 77)
    refine till_free (i:=8) rfl (by kernel_rfl) (by kernel_rfl) (by kernel_rfl) rfl (fun _ _ _ h => h) (.inr hS) (by rfl) (fun _ => by first | (go_simp;done) | (go_simp;with_reducible rfl)) ?_  -- binOp Binshl 67 (const (Value.int IntKind.u64 1)) 
    refine till_free (i:=9) rfl (by kernel_rfl) (by kernel_rfl) (by kernel_rfl) rfl (fun _ _ _ h => h) (.inr hS) (by rfl) (fun _ => by first | (go_simp;done) | (go_simp;with_reducible rfl)) ?_  -- binOp Binor 67 (tmp 74) (tmp 79) 67
    refine till_free (i:=10) rfl (by kernel_rfl) (by kernel_rfl) (by kernel_rfl) rfl (fun _ _ _ h => h) (.inr hS) (by rfl) (fun _ => by first | (go_simp;done) | (go_simp;with_reducible rfl)) ?_  -- nilCheck (tmp 71)
    refine till_free (i:=11) rfl (by kernel_rfl) (by kernel_rfl) (by kernel_rfl) rfl (fun _ _ _ h => h) (.inr hS) (by rfl) (fun _ => by first | (go_simp;done) | (go_simp;with_reducible rfl)) ?_  -- fieldAddr 69 (tmp 81) 1
    refine till_one (i:=12) (by kernel_rfl) rfl ?_;intro K hK  -- EFFECT Op.store 67 (Operand.tmp 82) (Operand.tmp 80)
    go_simp
    have hw1 : IntKind.i64.wrap (k : Int) = k:=IntWalk.i64_in _ (by omega);have hw2 : IntKind.u64.wrap (k : Int) = k:=by rw [IntKind.wrap_u64];omega
    rw [or_eq dr k hB3.1 (by omega),hw1,hw2,Int.toNat_natCast];clear hw1 hw2;have hnc : g ≠ c:=by
      obtain ⟨cur,hcur⟩:=HT0.out.tag rfl;exact tag_ne hcur Hc.out (by decide)
    have hne : w.heap.size ≠ c:=fun e => by have:=H.out.lt c hOc;omega
    have hmc : mb ≠ c:=MF.tag_ne Hm.out Hc.out;have hc2 : VBlk 113 (w1.setCell ⟨c,1,none⟩ (.int .u64 ((dr ||| 2 ^ k : Nat) : Int))).drew c [.slice (some ⟨g,0,none⟩) L.length cap,.int .u64 ((dr ||| 2 ^ k : Nat) : Int),.map (some mb)]:=Hc.out.set 1 (.int .u64 ((dr ||| 2 ^ k : Nat) : Int));have hk2 : Keep (fun b => b ≠ c) w1 (w1.setCell ⟨c,1,none⟩ (.int .u64 ((dr ||| 2 ^ k : Nat) : Int))).drew:=(Keep.refl _ w1).setCell (fun h => h rfl) _ |>.drewN 1;have hm2:=Hm.out.keep hk2 hmc;refine hK _ _ (.inl rfl) ?_;refine till_done (by kernel_rfl) ?_ _;clear hK K hS;generalize (World.setCell _ _ _).drew = w2 at hc2 hk2 hm2 ⊢;have c0':=hc2.cell 0 (by simp);have c2':=hc2.cell 2 (by simp);simp only [List.getD_cons_zero,List.getD_cons_succ] at c0' c2';have e2' : w2.cell? ⟨w.heap.size,2,none⟩ = some (.int .i64 ((k + 1 : Nat) : Int)):=by rw [hk2.cell (p:=⟨w.heap.size,2,none⟩) hne];exact e2
    have x3' : w2.cell? ⟨g,k * 4 + 3,none⟩ = some (.slice sp t.fs.length cc):=by rw [hk2.cell (p:=⟨g,k * 4 + 3,none⟩) hnc];exact x3
    have hwk : IntKind.i64.wrap (k : Int) = k:=IntWalk.i64_in _ (by omega);have hkl : (k : Int) < L.length:=by omega
    have hk0 : (0 : Int) ≤ k:=by omega
    have Hc2:=Hid2.mk hc2;have Hk2:=Hid2.mk hk2;have Hm2:=Hid2.mk hm2;clear hc2 hk2 hm2 e0 e1 e2 c0 c1 c2 f1 x0 x1 x2 x3
    go_wp2_with fail
    go_quiet (fail)
    clear hwk;generalize hw3 : World.drewN _ _ = w3;have y0 : w3.cell? ⟨c,0,none⟩ = some (.slice (some ⟨g,0,none⟩) L.length cap):=by rw [← hw3];exact c0'
    have y2 : w3.cell? ⟨c,2,none⟩ = some (.map (some mb)):=by rw [← hw3];exact c2'
    have ye : w3.cell? ⟨w.heap.size,2,none⟩ = some (.int .i64 ((k + 1 : Nat) : Int)):=by rw [← hw3];exact e2'
    have y3 : w3.cell? ⟨g,k * 4 + 3,none⟩ = some (.slice sp t.fs.length cc):=by rw [← hw3];exact x3'
    have Hk3:=Hid2.mk (show Keep (fun b => b ≠ c) w1 w3 by rw [← hw3];exact Hk2.out.drewN _);have Hc3:=Hid2.mk (show VBlk 113 w3 c [.slice (some ⟨g,0,none⟩) L.length cap,.int .u64 ((dr ||| 2 ^ k : Nat) : Int),.map (some mb)] by rw [← hw3];exact Hc2.out);have Hm3:=Hid2.mk (show MF Tryz.prog 134 mk w3 mb n (hasF L) by rw [← hw3];exact Hm2.out);clear c0' c2' e2' x3' hw3 Hk2 Hc2 Hm2
    go_wp2_with fail
    go_loopw [96] (fun i wr => ∃ j : Nat,j ≤ t.fs.length ∧ i = .int .i64 (j : Nat) ∧ Keep (fun b => b < w3.heap.size ∧ b ≠ mb) w3 wr ∧ MF Tryz.prog 134 mk wr mb n (delF L k (t.fs.take j))) (fun i _ => t.fs.length - (intOf i).toNat)
    case atStart => exact ⟨0,by omega,rfl,Keep.refl _ _,by rw [List.take_zero,delF_nil];exact Hm3.out⟩
    case round =>
      obtain ⟨j,hj,rfl,hkr,hmr⟩:=hrel;have y2r : wr.cell? ⟨c,2,none⟩ = some (.map (some mb)):=by rw [hkr.cell (p:=⟨c,2,none⟩) ⟨Hc3.out.lt,Ne.symm hmc⟩];exact y2
      have hes : w.heap.size < w3.heap.size:=World.block_lt_of_cell? w3 _ ye;have hem : w.heap.size ≠ mb:=fun e => by have:=HX.out.1;have:=H.out.lt mb this;omega
      have yer : wr.cell? ⟨w.heap.size,2,none⟩ = some (.int .i64 ((k + 1 : Nat) : Int)):=by rw [hkr.cell (p:=⟨w.heap.size,2,none⟩) ⟨hes,hem⟩];exact ye
      have hms : mb < wr.heap.size:=hmr.lt;have Hkr:=Hid2.mk hkr;have Hmr:=Hid2.mk hmr;clear hkr hmr
      by_cases hjl : j < t.fs.length
      · have hjl2 : (j : Int) < t.fs.length:=by omega
        have hj0 : (0 : Int) ≤ j:=by omega
        obtain ⟨f,hf⟩ : ∃ f,f = t.fs[j]:=⟨_,rfl⟩;have hiv : OwnV 153 1 wr O (.slice sp t.fs.length cc) t.fs.length (t.fs.map Value.string):=by
          refine Hown.out.of_block fun b hb => ?_;obtain ⟨cur,hcur⟩:=Hown.out.tag hb;have h1 : b ≠ c:=tag_ne hcur Hc.out (by decide);have h2 : b ≠ mb:=Ne.symm (MF.tag_ne Hm.out hcur);have h3 : b < w3.heap.size:=Nat.lt_of_lt_of_le (lt_of_block hcur) Hk3.out.size;rw [Hkr.out.block b ⟨h3,h2⟩,Hk3.out.block b h1]
        rcases hiv.form with ⟨-,h0,-⟩ | ⟨gi,cpi,cur,hsl,-,-,-⟩
        · omega
        · obtain ⟨rfl,rfl⟩ : sp = some ⟨gi,0,none⟩ ∧ cc = cpi:=by simpa using hsl
          have z0 : wr.cell? ⟨gi,j,none⟩ = some (.string f):=by
            rw [hiv.at j (by simpa using hjl),hf];simp [hjl]
          have htk : t.fs.take (j + 1) = t.fs.take j ++ [f]:=by rw [List.take_succ_eq_append_getElem hjl,hf]
          have Htk:=Hid2.mk htk;have hfs : f.size ≤ maxLen:=by
            have:=(HX.out.2.2.2.each k hk).2.2.1 f (by rw [← Hte.out,hf];exact List.getElem_mem hjl);unfold maxLen;omega
          have Hfs:=Hid2.mk hfs;clear hf hiv hsl htk hfs
          go_wp2_with fail
          have hS : (wr.alloc (.cells #[.string f] 153)).drew.cell? ⟨c,2,none⟩ = some (.map (some mb)) ∧ (wr.alloc (.cells #[.string f] 153)).drew.cell? ⟨w.heap.size,2,none⟩ = some (.int .i64 ((k + 1 : Nat) : Int)) ∧ (wr.alloc (.cells #[.string f] 153)).drew.cell? ⟨wr.heap.size,0,none⟩ = some (.string f) :=
            ⟨by rw [← y2r];exact World.cell?_of_block (w:=wr) (Below.heap_alloc _ _ _ (World.block_lt_of_cell? wr _ y2r)),by rw [← yer];exact World.cell?_of_block (w:=wr) (Below.heap_alloc _ _ _ (World.block_lt_of_cell? wr _ yer)),(VBlk.mk wr [.string f] _).cell 0 (by simp)⟩
          refine wp_region_till 9 (fun w' => w'.cell? ⟨c,2,none⟩ = some (.map (some mb)) ∧ w'.cell? ⟨w.heap.size,2,none⟩ = some (.int .i64 ((k + 1 : Nat) : Int)) ∧ w'.cell? ⟨wr.heap.size,0,none⟩ = some (.string f)) (by kernel_rfl) ?_;refine till_free (i:=0) rfl (by kernel_rfl) (by kernel_rfl) (by kernel_rfl) rfl (fun _ _ _ h => h) (.inr hS) (by rfl) (fun _ => by first | (go_simp;done) | (go_simp;with_reducible rfl)) ?_  -- move (tmp 0)
          refine till_free (i:=1) rfl (by kernel_rfl) (by kernel_rfl) (by kernel_rfl) rfl (fun _ _ _ h => h) (.inr hS) (by rfl) (fun _ => by first | (go_simp;done) | (go_simp;with_reducible rfl)) ?_  -- nilCheck (tmp 100)
          refine till_free (i:=2) rfl (by kernel_rfl) (by kernel_rfl) (by kernel_rfl) rfl (fun _ _ _ h => h) (.inr hS) (by rfl) (fun _ => by first | (go_simp;done) | (go_simp;with_reducible rfl)) ?_  -- fieldAddr 69 (tmp 101) 2
          refine till_read (i:=3) [9] rfl (by kernel_rfl) (by kernel_rfl) (by kernel_rfl) (by kernel_rfl) rfl (fun _ _ _ h => h) (by rfl) (fun w' hw' => by first | (go_simp;done) | (go_simp;with_reducible rfl)) hS ?_  -- load 66 (tmp 102)
          refine till_free (i:=4) rfl (by kernel_rfl) (by kernel_rfl) (by kernel_rfl) rfl (fun _ _ _ h => h) (.inr hS) (by rfl) (fun _ => by first | (go_simp;done) | (go_simp;with_reducible rfl)) ?_  -- fieldAddr 37 (tmp 3) 2
          refine till_read (i:=5) [8,9] rfl (by kernel_rfl) (by kernel_rfl) (by kernel_rfl) (by kernel_rfl) rfl (fun _ _ _ h => h) (by rfl) (fun w' hw' => by first | (go_simp;done) | (go_simp;with_reducible rfl)) hS ?_  -- load 3 (tmp 104)
          refine till_free (i:=6) rfl (by kernel_rfl) (by kernel_rfl) (by kernel_rfl) rfl (fun _ _ _ h => h) (.inr hS) (by rfl) (fun _ => by first | (go_simp;done) | (go_simp;with_reducible rfl)) ?_  -- fieldAddr 62 (tmp 9) 0
          refine till_read (i:=7) [8,9] rfl (by kernel_rfl) (by kernel_rfl) (by kernel_rfl) (by kernel_rfl) rfl (fun _ _ _ h => h) (by rfl) (fun w' hw' => by first | (go_simp;done) | (go_simp;with_reducible rfl)) hS ?_  -- load 9 (tmp 106)
          refine till_free (i:=8) rfl (by kernel_rfl) (by kernel_rfl) (by kernel_rfl) rfl (fun _ _ _ h => h) (.inr hS) (by rfl) (fun _ => by first | (go_simp;done) | (go_simp;with_reducible rfl)) ?_  -- build 75 #[(0,tmp 105),(1,tmp 107)]
          refine till_one (i:=9) (by kernel_rfl) rfl ?_;intro K hK  -- EFFECT Op.call { callee:=Callee.builtin Builtin.delete,args:=#[Operand.tmp 103,Operand.tmp 108],argTypes:=#[66,75] }
          obtain ⟨kl,hkk⟩:=keyOf_mk (((k + 1 : Nat) : Int),f) ⟨wf_small k (by omega),Hfs.out⟩;have hmA : MF Tryz.prog 134 mk (wr.alloc (.cells #[.string f] 153)).drew mb n (delF L k (t.fs.take j)):=(Hmr.out.alloc _).of_block rfl;obtain ⟨w5,hrun,hm5,hk5⟩:=hmA.del mk_inj keyed Tryz.underlying110 hkk 0;have em : mk (((k + 1 : Nat) : Int),f) = .agg #[.int .i64 ((k : Int) + 1),.string f]:=by unfold mk;simp
          rw [em] at hrun;have hm6 : MF Tryz.prog 134 mk w5 mb n (delF L k (t.fs.take (j + 1))):=by rw [Htk.out,← delF_snoc];exact hm5
          have hk6 : Keep (fun b => b < w3.heap.size ∧ b ≠ mb) w3 w5 :=
            Hkr.out.trans (((Keep.of_below (((Below.refl wr.heap.size wr).alloc (Nat.le_refl _) (.cells #[.string f] 153)).drew)).mono (fun b (hb : b < w3.heap.size ∧ b ≠ mb) => Nat.lt_of_lt_of_le hb.1 Hkr.out.size)).trans (hk5.mono fun b hb => hb.2))
          have Hm6:=Hid2.mk hm6;have Hk6:=Hid2.mk hk6;refine step_del rfl (.tmp 103) (.tmp 108) 110 134 rfl (.map (some mb)) (.agg #[.int .i64 ((k : Int) + 1),.string f]) (by go_simp) (by go_simp) hrun ?_;refine hK _ _ (.inl rfl) ?_;clear hm5 hk5 hm6 hk6 hrun hmA hS hK K hkk;refine till_done (by kernel_rfl) ?_ _
          go_wp2_with fail
          go_roundw
          case rel => exact ⟨j + 1,by omega,by go_num,Hk6.out,Hm6.out⟩
          case measure => simp [intOf];omega
      · have hd2 : decide ((j : Int) < t.fs.length) = false:=decide_eq_false (by omega)
        have hjn : j = t.fs.length:=by omega
        have hTr : OwnV 107 4 wr O (.slice (some ⟨g,0,none⟩) L.length cap) L.length cells:=by
          refine HT0.out.of_block fun b hb => ?_;obtain ⟨cur,hcur⟩:=HT0.out.tag hb;have h1 : b ≠ c:=tag_ne hcur Hc.out (by decide);have h2 : b ≠ mb:=Ne.symm (MF.tag_ne Hm.out hcur);have h3 : b < w3.heap.size:=Nat.lt_of_lt_of_le (lt_of_block hcur) Hk3.out.size;rw [Hkr.out.block b ⟨h3,h2⟩,Hk3.out.block b h1]
        have hl4:=hTr.len;have q2:=hTr.at (k * 4 + 2) (by omega);have q3:=hTr.at (k * 4 + 3) (by omega);have f2:=hTr.free (k * 4 + 2);have f3:=hTr.free (k * 4 + 3);have HTr:=Hid2.mk hTr;have Hmr2:=Hid2.mk (show MF Tryz.prog 134 mk wr mb n (delF L k t.fs) by have:=Hmr.out;rw [hjn,List.take_length] at this;exact this);clear hTr hjn y0 y2 y3 ye hl4
        go_wp2_with fail
        go_ret
        have hg3 : wr.heap[g]? = w1.heap[g]?:=by
          obtain ⟨cur,hcur⟩:=HT0.out.tag rfl;rw [Hkr.out.block g ⟨Nat.lt_of_lt_of_le (lt_of_block hcur) Hk3.out.size,Ne.symm (MF.tag_ne Hm.out hcur)⟩,Hk3.out.block g hnc]
        have hgm : mb ≠ g:=by obtain ⟨cur,hcur⟩:=HT0.out.tag rfl;exact MF.tag_ne Hm.out hcur
        have hl4:=HTr.out.len;have hc4 : VBlk 113 wr c [.slice (some ⟨g,0,none⟩) L.length cap,.int .u64 ((dr ||| 2 ^ k : Nat) : Int),.map (some mb)]:=Hc3.out.keep Hkr.out ⟨Hc3.out.lt,Ne.symm hmc⟩;have hOw:=(HTr.out.stored (k * 4 + 2) (u:=.bool true) rfl).stored (k * 4 + 3) (u:=.slice none 0 0) rfl;have hkf : Keep (fun b => b ≠ g) wr ((wr.setCell ⟨g,k * 4 + 2,none⟩ (.bool true)).setCell ⟨g,k * 4 + 3,none⟩ (.slice none 0 0)):=((Keep.refl _ wr).setCell (fun h => h rfl) _).setCell (fun h => h rfl) _;obtain ⟨hOm,hO1,hBt,hG⟩:=HX.out;have hx : appC L 6 txt ((k + 1 : Nat) : Int) = 0:=by unfold appC;rw [if_neg (by omega),if_pos rfl,Ht.out];rfl
        have e1 : (((k + 1 : Nat) : Int) - 1).toNat = k:=by omega
        have hl : appL L 6 txt ((k + 1 : Nat) : Int) = L.set k ⟨t.name,true,[]⟩:=by
          unfold appL;rw [if_pos hx,if_neg (by omega),if_pos rfl,e1,← Hte.out]
        refine ⟨O,by rw [hx];rfl,?_,?_,fun b hb => .inl hb⟩
        · rw [hl]
          refine IsCat.mono (n:=n) ⟨_,_,mb,hc4.keep hkf (Ne.symm hnc),hOc,hOm,fun b hb => Nat.lt_of_lt_of_le (Nat.lt_of_lt_of_le (Nat.lt_of_lt_of_le (hO1 b hb) Hk3.out.size) Hkr.out.size) hkf.size,⟨_,by rw [List.length_set];exact hOw,fun i hi => ?_⟩,bits_drop hBt hk hlen _ _,?_,good_set hG ?_ (by simp) (by simp) (fun _ => rfl)⟩ (by omega)
          · rw [List.length_set] at hi
            by_cases e : k = i
            · subst e
              rw [getD_set_eq _ _ _ _ hk];obtain ⟨i0,i1,i2,i3⟩:=HI.out k hk;refine ⟨?_,?_,?_,?_⟩
              · rw [getD_set_ne _ _ _ _ _ (by omega),getD_set_ne _ _ _ _ _ (by omega)];exact i0
              · rw [getD_set_ne _ _ _ _ _ (by omega),getD_set_ne _ _ _ _ _ (by omega),Hte.out];exact i1
              · rw [getD_set_ne _ _ _ _ _ (by omega),getD_set_eq _ _ _ _ (by omega)]
              · rw [getD_set_eq _ _ _ _ (by simp;omega)];exact OwnV.nil _ _ _ _
            · rw [getD_set_ne _ _ _ _ _ e]
              refine (HI.out i hi).moved (fun j hj => ?_) (fun b hb hcur => ?_)
              · rw [getD_set_ne _ _ _ _ _ (by omega),getD_set_ne _ _ _ _ _ (by omega)]
              · obtain ⟨cur,hcur⟩:=hcur
                obtain ⟨curg,hcurg⟩:=HT0.out.tag rfl;rw [hkf.block b (tag_ne hcur hcurg (by decide)),Hkr.out.block b ⟨Nat.lt_of_lt_of_le (lt_of_block hcur) Hk3.out.size,Ne.symm (MF.tag_ne Hm.out hcur)⟩,Hk3.out.block b (tag_ne hcur Hc.out (by decide))]
          · rw [← delF_all hk,← Hte.out]
            exact Hmr2.out.keep hkf hgm
          · rw [Hte.out];exact (hG.each k hk).1
        · refine ((Keep.of_below HB.out).mono fun b hb => hb.1).trans ((Hk3.out.mono fun b hb e => hb.2 (e ▸ hOc)).trans ((Hkr.out.mono fun b (hb : b < w.heap.size ∧ ¬ O b) => ⟨Nat.lt_of_lt_of_le (Nat.lt_of_lt_of_le hb.1 HB.out.size) Hk3.out.size,fun e => hb.2 (e ▸ hOm)⟩).trans (hkf.mono fun b hb e => hb.2 (e ▸ hOg))))
end Cat
namespace Cat
set_option maxRecDepth 100000
theorem put_has {L : List Tb} {k : Nat} (hk : k < L.length) (txt nm : ByteArray) (d : Bool) : mfPut (hasF L) (((k + 1 : Nat) : Int),txt) (.bool true) = hasF (L.set k ⟨nm,d,(L.getD k noTb).fs ++ [txt]⟩):=by
  funext x
  obtain ⟨x1,x2⟩:=x;unfold mfPut hasF has
  by_cases h : x1 = (k + 1 : Nat)
  · subst h
    have e : (((k + 1 : Nat) : Int) - 1).toNat = k:=by omega
    simp only [e,List.length_set];have e2 : (L.set k ⟨nm,d,(L.getD k noTb).fs ++ [txt]⟩).getD k noTb = ⟨nm,d,(L.getD k noTb).fs ++ [txt]⟩:=by simp [hk]
    have e3 : decide ((1 : Int) ≤ ((k + 1 : Nat) : Int)) = true:=decide_eq_true (by omega);have e4 : decide (((k + 1 : Nat) : Int) ≤ L.length) = true:=decide_eq_true (by omega);rw [e2,mem_snoc,e3,e4]
    by_cases h2 : x2 = txt
    · subst h2;simp
    · have : ¬ (((((k + 1 : Nat) : Int)),x2) = (((k + 1 : Nat) : Int),txt)):=fun e => h2 (by injection e)
      rw [if_neg this];have h3 : decide (txt = x2) = false:=decide_eq_false (fun e => h2 e.symm);rw [h3,Bool.or_false]
  · have : ¬ ((x1,x2) = (((k + 1 : Nat) : Int),txt)):=fun e => h (by injection e)
    rw [if_neg this]
    by_cases h1 : 1 ≤ x1
    · have e2 : (L.set k ⟨nm,d,(L.getD k noTb).fs ++ [txt]⟩).getD (x1 - 1).toNat noTb = L.getD (x1 - 1).toNat noTb:=by
        simp only [List.getD_eq_getElem?_getD];rw [List.getElem?_set_ne (by omega)]
      simp only [e2,List.length_set]
    · simp [h1]
theorem bits_same {dr k : Nat} {L : List Tb} (h : Bits dr L) (hk : k < L.length) (t : Tb) (ht : t.dropped = (L.getD k noTb).dropped) : Bits dr (L.set k t):=by
  refine ⟨h.1,fun i => ?_⟩;rw [h.2 i]
  by_cases e : k = i
  · subst e;rw [getD_set_eq _ _ _ _ hk,ht]
  · rw [getD_set_ne _ _ _ _ _ e]
set_option maxRecDepth 100000 in
set_option maxHeartbeats 4000000 in
theorem apply_index_ok {w : World} {c n : Nat} {O : Nat → Prop} {L : List Tb} {cs : Array Value} {txt : ByteArray} {tbl : Int} (h : IsCat w c O n L) (hE : Ent cs 7 txt tbl) (hn : n < 1000000000)
    (ht : there L tbl = true) (hnm : isNm txt = true) (hh : has L tbl txt = false) (h16 : (L.getD (tbl - 1).toNat noTb).fs.length < 16) :
    Calls Tryz.prog 60 #[.pointer (some ⟨c,0,none⟩),.agg cs] w (AppPost w c n O L 7 txt tbl):=by
  have hz:=zeroTable;have hbel : Below w.heap.size w (w.alloc (.cells cs 52)):=(Below.refl _ w).alloc (Nat.le_refl _) _;have h1:=h.below hbel (Nat.le_refl _);have HE:=Hid2.mk hE;obtain ⟨e0,e1,e2⟩:=ent_cells (w:=w) hE;have H:=Hid2.mk h;have HB:=Hid2.mk hbel;have H1:=Hid2.mk h1;have HT:=Hid2.mk (there_any h1 tbl);clear h hbel h1 hE;obtain ⟨k,rfl,hk⟩ : ∃ k : Nat,tbl = (k + 1 : Nat) ∧ k < L.length:=⟨(tbl - 1).toNat,by unfold there at ht;simp at ht;omega,by unfold there at ht;simp at ht;omega⟩;have hlen:=H.out.good.len;obtain ⟨t,hte⟩ : ∃ t,t = L.getD k noTb:=⟨_,rfl⟩;have ek : (((k + 1 : Nat) : Int) - 1).toNat = k:=by omega
  obtain ⟨tv,dr,mb,hc,hOc,hOm,hO3,⟨cells,hT,hI⟩,hB3,hM3,hG⟩:=H1.out;have hIk:=hI k hk;rw [← hte] at hIk;obtain ⟨g,cap,rfl,hcap,hcap2,hg,hOg,x0,x1,x2,sp,cc,x3,hown⟩:=tab_cells hT hk hIk;have c0:=hc.cell 0 (by simp);have c2:=hc.cell 2 (by simp);simp only [List.getD_cons_zero,List.getD_cons_succ] at c0 c2;have hlk : ∀ m,(Instr.lookup 110 (.map (some mb)) (.agg #[.int .i64 ((k : Int) + 1),.string txt]) false).run Tryz.prog ((w.alloc (.cells cs 52)).drewN m) = .ok (.bool (has L ((k + 1 : Nat) : Int) txt)) ((w.alloc (.cells cs 52)).drewN m) :=
    fun m => look_has (hM3.drewN m) ((k + 1 : Nat) : Int) txt ⟨HE.out.hwf,HE.out.hsh⟩
  obtain ⟨kl,hkk⟩:=keyOf_mk (((k + 1 : Nat) : Int),txt) ⟨HE.out.hwf,HE.out.hsh⟩;have Hkk:=Hid2.mk hkk;clear hkk;have Hte:=Hid2.mk hte;have HT0:=Hid2.mk hT;have HI:=Hid2.mk hI;have Hm:=Hid2.mk hM3;have Hown:=Hid2.mk hown;have HX:=Hid2.mk (And.intro hOm (And.intro hO3 (And.intro hB3 hG)));have hfl : t.fs.length ≤ 16:=by rw [hte];exact (hG.each k hk).2.1
  obtain ⟨nf,hnf⟩ : ∃ nf,nf = t.fs.length:=⟨_,rfl⟩;rw [← hnf] at x3 hfl;have hncc : nf ≤ cc:=by obtain ⟨sp',cap',e,hle,-⟩:=hown.slice;injection e with _ _ e3;omega
  have Hnf:=Hid2.mk hnf;have Ht:=Hid2.mk ht;have Hnm:=Hid2.mk hnm;have Hc:=Hid2.mk hc;clear ht hc hT hI hIk hown hM3 hG hO3 hOm hte hB3 hnm hnf;have hlk':=hlk;rw [hh] at hlk;clear hlk';have hwk : IntKind.i64.wrap (k : Int) = k:=IntWalk.i64_in _ (by omega);have hkl : (k : Int) < L.length:=by omega
  have hk0 : (0 : Int) ≤ k:=by omega
  have Hh:=Hid2.mk hh;have Hek:=Hid2.mk ek;have h16 : nf < 16:=by have:=h16;rw [ek,← Hte.out,← Hnf.out] at this;exact this
  clear hh ek;have h16' : (nf : Int) < 16:=by omega
  have qm : ∀ (w : World) r,(binOp .eql 110 (.map (some r)) (.map none)).run Tryz.prog w = .ok (.bool false) w:=fun w r => run_eql_map_nil w _ _ _ (some r) Tryz.underlying110
  go_enter Tryz.func60,Tryz.ntmps60
  go_wp2_with (first | (go_at_call 81;refine (HT.out).mono ?_;rw [Ht.out];rintro e w' ⟨rfl,rfl⟩) | (go_at_call 80;refine (isName_any _ _).mono ?_;rw [Hnm.out];rintro e w' ⟨rfl,rfl⟩))
  go_quiet (fail)
  clear hlk
  go_wp2_with fail
  go_quiet (fail)
  go_wp2_with fail
  go_quiet (fail)
  clear hwk
  go_wp2_with fail
  generalize hw3 : World.drewN _ _ = w3;have hdr : w3.heap = (w.alloc (.cells cs 52)).heap ∧ w3.os = (w.alloc (.cells cs 52)).os ∧ w3.tape = (w.alloc (.cells cs 52)).tape ∧ w3.output = (w.alloc (.cells cs 52)).output:=by rw [← hw3];exact ⟨rfl,rfl,rfl,rfl⟩
  clear hw3;obtain ⟨d1,d2,d3,d4⟩:=hdr;have db : ∀ b : Nat,w3.heap[b]? = (w.alloc (.cells cs 52)).heap[b]?:=fun b => by rw [d1]
  have Hk3:=Hid2.mk (show Keep (fun _ => True) (w.alloc (.cells cs 52)) w3 from ⟨d2,d3,d4,by rw [d1];exact Nat.le_refl _,fun b _ => db b⟩);have y2 : w3.cell? ⟨c,2,none⟩ = some (.map (some mb)):=by rw [Hk3.out.cell (p:=⟨c,2,none⟩) trivial];exact c2
  have y3 : w3.cell? ⟨g,k * 4 + 3,none⟩ = some (.slice sp nf cc):=by rw [Hk3.out.cell (p:=⟨g,k * 4 + 3,none⟩) trivial];exact x3
  have ye1 : w3.cell? ⟨w.heap.size,1,none⟩ = some (.string txt):=by rw [Hk3.out.cell (p:=⟨w.heap.size,1,none⟩) trivial];exact e1
  have ye2 : w3.cell? ⟨w.heap.size,2,none⟩ = some (.int .i64 ((k + 1 : Nat) : Int)):=by rw [Hk3.out.cell (p:=⟨w.heap.size,2,none⟩) trivial];exact e2
  clear d1 d2 d3 d4 db c0 c2 x0 x1 x2 x3 e0 e1 e2;have hgo : g < w.heap.size:=H.out.lt g hOg;have hco : c < w.heap.size:=H.out.lt c hOc;have hs3 : w.heap.size < w3.heap.size:=World.block_lt_of_cell? w3 _ ye1;have hS : w3.drew.cell? ⟨g,k * 4 + 3,none⟩ = some (.slice sp nf cc) ∧ w3.drew.cell? ⟨w.heap.size,1,none⟩ = some (.string txt):=⟨y3,ye1⟩;refine wp_region_till 20 (fun w' => w'.cell? ⟨g,k * 4 + 3,none⟩ = some (.slice sp nf cc) ∧ w'.cell? ⟨w.heap.size,1,none⟩ = some (.string txt)) (by kernel_rfl) ?_;refine till_free (i:=0) rfl (by kernel_rfl) (by kernel_rfl) (by kernel_rfl) rfl (fun _ _ _ h => h) (.inr hS) (by rfl) (fun _ => by first | (go_simp;done) | (go_simp;with_reducible rfl)) ?_  -- move (tmp 10)
  refine till_free (i:=1) rfl (by kernel_rfl) (by kernel_rfl) (by kernel_rfl) rfl (fun _ _ _ h => h) (.inr hS) (by rfl) (fun _ => by first | (go_simp;done) | (go_simp;with_reducible rfl)) ?_  -- move (tmp 10)
  refine till_free (i:=2) rfl (by kernel_rfl) (by kernel_rfl) (by kernel_rfl) rfl (fun _ _ _ h => h) (.inr hS) (by rfl) (fun _ => by first | (go_simp;done) | (go_simp;with_reducible rfl)) ?_  -- nilCheck (tmp 162)
  refine till_free (i:=3) rfl (by kernel_rfl) (by kernel_rfl) (by kernel_rfl) rfl (fun _ _ _ h => h) (.inr hS) (by rfl) (fun _ => by first | (go_simp;done) | (go_simp;with_reducible rfl)) ?_  -- fieldAddr 45 (tmp 163) 3
  refine till_read (i:=4) [15,20] rfl (by kernel_rfl) (by kernel_rfl) (by kernel_rfl) (by kernel_rfl) rfl (fun _ _ _ h => h) (by rfl) (fun w' hw' => by first | (go_simp;done) | (go_simp;with_reducible rfl)) hS ?_  -- load 43 (tmp 164)
  refine till_free (i:=5) rfl (by kernel_rfl) (by kernel_rfl) (by kernel_rfl) rfl (fun _ _ _ h => h) (.inr hS) (by rfl) (fun _ => by first | (go_simp;done) | (go_simp;with_reducible rfl)) ?_  -- move (tmp 10)
  refine till_free (i:=6) rfl (by kernel_rfl) (by kernel_rfl) (by kernel_rfl) rfl (fun _ _ _ h => h) (.inr hS) (by rfl) (fun _ => by first | (go_simp;done) | (go_simp;with_reducible rfl)) ?_  -- nilCheck (tmp 166)
  refine till_free (i:=7) rfl (by kernel_rfl) (by kernel_rfl) (by kernel_rfl) rfl (fun _ _ _ h => h) (.inr hS) (by rfl) (fun _ => by first | (go_simp;done) | (go_simp;with_reducible rfl)) ?_  -- fieldAddr 45 (tmp 167) 3
  refine till_read (i:=8) [9,15,20] rfl (by kernel_rfl) (by kernel_rfl) (by kernel_rfl) (by kernel_rfl) rfl (fun _ _ _ h => h) (by rfl) (fun w' hw' => by first | (go_simp;done) | (go_simp;with_reducible rfl)) hS ?_  -- load 43 (tmp 168)
  refine till_free (i:=9) rfl (by kernel_rfl) (by kernel_rfl) (by kernel_rfl) rfl (fun _ _ _ h => h) (.inr hS) (by rfl) (fun _ => by first | (go_simp;done) | (go_simp;with_reducible rfl)) ?_  -- call { callee:=Callee.builtin Builtin.len,args 
  refine till_free (i:=10) rfl (by kernel_rfl) (by kernel_rfl) (by kernel_rfl) rfl (fun _ _ _ h => h) (.inr hS) (by rfl) (fun _ => by first | (go_simp;done) | (go_simp;with_reducible rfl)) ?_  -- move (tmp 10)
  refine till_free (i:=11) rfl (by kernel_rfl) (by kernel_rfl) (by kernel_rfl) rfl (fun _ _ _ h => h) (.inr hS) (by rfl) (fun _ => by first | (go_simp;done) | (go_simp;with_reducible rfl)) ?_  -- nilCheck (tmp 171)
  refine till_free (i:=12) rfl (by kernel_rfl) (by kernel_rfl) (by kernel_rfl) rfl (fun _ _ _ h => h) (.inr hS) (by rfl) (fun _ => by first | (go_simp;done) | (go_simp;with_reducible rfl)) ?_  -- fieldAddr 45 (tmp 172) 3
  refine till_read (i:=13) [14,15,20] rfl (by kernel_rfl) (by kernel_rfl) (by kernel_rfl) (by kernel_rfl) rfl (fun _ _ _ h => h) (by rfl) (fun w' hw' => by first | (go_simp;done) | (go_simp;with_reducible rfl)) hS ?_  -- load 43 (tmp 173)
  refine till_free (i:=14) rfl (by kernel_rfl) (by kernel_rfl) (by kernel_rfl) rfl (fun _ _ _ h => h) (.inr hS) (by rfl) (fun _ => by first | (go_simp;done) | (go_simp;with_reducible rfl)) ?_  -- call { callee:=Callee.builtin Builtin.len,args 
  refine till_free (i:=15) rfl (by kernel_rfl) (by kernel_rfl) (by kernel_rfl) rfl (fun _ _ _ h => h) (.inr hS) (by rfl) (fun _ => by first | (go_simp;done) | (go_simp;with_reducible rfl)) ?_  -- slice 43 (tmp 165) none (some (tmp 170)) (some (tm
  refine till_free (i:=16) rfl (by kernel_rfl) (by kernel_rfl) (by kernel_rfl) rfl (fun _ _ _ h => h) (.inr hS) (by rfl) (fun _ => by first | (go_simp;done) | (go_simp;with_reducible rfl)) ?_  -- fieldAddr 37 (tmp 3) 1
  refine till_read (i:=17) [18,19,20] rfl (by kernel_rfl) (by kernel_rfl) (by kernel_rfl) (by kernel_rfl) rfl (fun _ _ _ h => h) (by rfl) (fun w' hw' => by first | (go_simp;done) | (go_simp;with_reducible rfl)) hS ?_  -- load 9 (tmp 177)
  refine till_free (i:=18) rfl (by kernel_rfl) (by kernel_rfl) (by kernel_rfl) rfl (fun _ _ _ h => h) (.inr hS) (by rfl) (fun _ => by first | (go_simp;done) | (go_simp;with_reducible rfl)) ?_  -- build 62 #[(0,tmp 178)]
  refine till_one (i:=19) (by kernel_rfl) rfl ?_;intro K hK  -- EFFECT Op.buildSlice 43 1 #[(0,Operand.tmp 179)]
  go_simp
  have hS2 : (w3.alloc (.cells #[.string txt] 153)).drew.cell? ⟨g,k * 4 + 3,none⟩ = some (.slice sp nf cc) ∧ (w3.alloc (.cells #[.string txt] 153)).drew.cell? ⟨w.heap.size,1,none⟩ = some (.string txt) :=
    ⟨by rw [← y3];exact World.cell?_of_block (w:=w3) (Below.heap_alloc _ _ _ (by show g < w3.heap.size;omega)),by rw [← ye1];exact World.cell?_of_block (w:=w3) (Below.heap_alloc _ _ _ hs3)⟩
  refine hK _ _ (.inr hS2) ?_;have hb4 : Below w3.heap.size w3 (w3.alloc (.cells #[.string txt] 153)).drew:=((Below.refl _ _).alloc (Nat.le_refl _) _).drew;have ho5 : SlV (w3.alloc (.cells #[.string txt] 153)).drew O 1 (.slice sp nf cc) nf (t.fs.map Value.string):=by
    rw [Hnf.out];exact (Hown.out.slV.keep Hk3.out (fun _ _ _ => trivial)).below hb4 (Nat.le_refl _)
  have hs5 : SlV (w3.alloc (.cells #[.string txt] 153)).drew (fun _ => True) 1 (.slice (some ⟨w3.heap.size,0,none⟩) 1 1) 1 [.string txt]:=SlV.fresh w3 (fun _ => True) _ (m:=1) (n:=1) (l:=[.string txt]) rfl (fun u hu => by simp at hu;subst hu;rfl) trivial (by unfold maxLen;omega);clear hS hS2 hK K;refine till_one (i:=20) (by kernel_rfl) rfl ?_;intro K hK  -- EFFECT Op.call { callee:=Callee.builtin Builtin.append,args:=#[Operand.tmp 176,Operand.tmp 180],argTypes:=#[43,43] }
  refine step_growV rfl (.tmp 176) (.tmp 180) 105 rfl elemIndex rfl ho5 rfl hs5 (by omega) (n':=nf + 1) rfl (by unfold maxLen;omega) (by omega) ?_;intro sp5 c5 w5 hown5 hgrow;have hb5 : Below w3.heap.size w3 w5:=hb4.trans (((grown_keep hgrow).mono fun b (hb : b < w3.heap.size) => ⟨Nat.lt_of_lt_of_le hb hb4.size,fun e => by cases e⟩).below);have hT5 : OwnV 107 4 w5 O (.slice (some ⟨g,0,none⟩) L.length cap) L.length cells:=HT0.out.of_block fun b hb => by
    have : b = g:=(Option.some.inj hb).symm;rw [this,hb5.block g (by omega),Hk3.out.block g trivial]
  have hl4:=hT5.len;have q3:=hT5.at (k * 4 + 3) (by omega);have f3:=hT5.free (k * 4 + 3);have HT5:=Hid2.mk hT5;have Hb5:=Hid2.mk hb5;have Hown5:=Hid2.mk hown5;refine hK _ _ (.inl rfl) ?_;clear hK K ho5 hs5 hb4 hb5 hown5 hgrow hT5 hl4;refine till_free (i:=21) rfl (by kernel_rfl) (by kernel_rfl) (by kernel_rfl) rfl (fun _ _ _ h => h) (.inl rfl) (by rfl) (fun _ => by first | (go_simp;done) | (go_simp;with_reducible rfl)) ?_  -- nilCheck (tmp 161)
  refine till_free (i:=22) rfl (by kernel_rfl) (by kernel_rfl) (by kernel_rfl) rfl (fun _ _ _ h => h) (.inl rfl) (by rfl) (fun _ => by first | (go_simp;done) | (go_simp;with_reducible rfl)) ?_  -- fieldAddr 45 (tmp 182) 3
  refine till_one (i:=23) (by kernel_rfl) rfl ?_;intro K hK  -- EFFECT Op.store 43 (Operand.tmp 183) (Operand.tmp 181)
  go_simp
  refine hK _ _ (.inl rfl) ?_;refine till_done (by kernel_rfl) ?_ _;clear hK K y3;have hgs : g ≠ w.heap.size:=by omega
  have hgc : g ≠ c:=by obtain ⟨cur,hcur⟩:=HT0.out.tag rfl;exact tag_ne hcur Hc.out (by decide)
  have z2 : (w5.setCell ⟨g,k * 4 + 3,none⟩ (.slice sp5 (nf + 1) c5)).cell? ⟨c,2,none⟩ = some (.map (some mb)):=by
    rw [World.cell?_of_block (w:=w5) (Below.heap_setCell _ _ _ _ (by show c ≠ g;omega)),Hb5.out.cell (p:=⟨c,2,none⟩) (by show c < w3.heap.size;omega)];exact y2
  have ze1 : (w5.setCell ⟨g,k * 4 + 3,none⟩ (.slice sp5 (nf + 1) c5)).cell? ⟨w.heap.size,1,none⟩ = some (.string txt):=by
    rw [World.cell?_of_block (w:=w5) (Below.heap_setCell _ _ _ _ (by show w.heap.size ≠ g;omega)),Hb5.out.cell (p:=⟨w.heap.size,1,none⟩) (by show w.heap.size < w3.heap.size;omega)];exact ye1
  have ze2 : (w5.setCell ⟨g,k * 4 + 3,none⟩ (.slice sp5 (nf + 1) c5)).cell? ⟨w.heap.size,2,none⟩ = some (.int .i64 ((k + 1 : Nat) : Int)):=by
    rw [World.cell?_of_block (w:=w5) (Below.heap_setCell _ _ _ _ (by show w.heap.size ≠ g;omega)),Hb5.out.cell (p:=⟨w.heap.size,2,none⟩) (by show w.heap.size < w3.heap.size;omega)];exact ye2
  have hmg : mb ≠ g:=by obtain ⟨cur,hcur⟩:=HT0.out.tag rfl;exact MF.tag_ne Hm.out hcur
  have hm6 : MF Tryz.prog 134 mk (w5.setCell ⟨g,k * 4 + 3,none⟩ (.slice sp5 (nf + 1) c5)) mb n (hasF L) :=
    (((Hm.out.keep Hk3.out trivial).below Hb5.out (Nat.lt_of_lt_of_le Hm.out.lt Hk3.out.size)).other _ _ hmg)
  have hT6:=HT5.out.stored (k * 4 + 3) (u:=.slice sp5 (nf + 1) c5) rfl;have hk6 : Keep (fun b => b < w3.heap.size ∧ b ≠ g) w3 (w5.setCell ⟨g,k * 4 + 3,none⟩ (.slice sp5 (nf + 1) c5)):=((Keep.of_below Hb5.out).mono fun b hb => hb.1).setCell (fun h => h.2 rfl) _;have h67 : Keep (fun b => b ≠ g) w5 (w5.setCell ⟨g,k * 4 + 3,none⟩ (.slice sp5 (nf + 1) c5)):=(Keep.refl _ w5).setCell (fun h => h rfl) _;generalize World.setCell _ _ _ = w6 at z2 ze1 ze2 hm6 hT6 hk6 h67 ⊢;have hm6d : MF Tryz.prog 134 mk w6.drew mb n (hasF L):=hm6.of_block rfl;have hnl : n < maxLen:=by unfold maxLen;omega
  obtain ⟨w7,hrun,hm7,hk7⟩:=hm6d.put mk_inj keyed Tryz.underlying110 hnl (.bool true) Hkk.out;have em : mk (((k + 1 : Nat) : Int),txt) = .agg #[.int .i64 ((k : Int) + 1),.string txt]:=by unfold mk;simp
  rw [em] at hrun;have Hrun:=Hid2.mk hrun;have Hm7:=Hid2.mk hm7;have Hk7:=Hid2.mk (show Keep (fun b => b ≠ mb) w6 w7 from ((Keep.refl _ w6).drewN 1).trans hk7);clear hm6d hnl hrun hm7 hk7 em;have HT6:=Hid2.mk hT6;have Hk6:=Hid2.mk hk6;have H67:=Hid2.mk h67;clear hm6 hT6 hk6 h67 q3 f3 y2 ye1 ye2 hz
  go_wp2_with fail
  have hrun:=Hrun.out;refine wp_region_still_tail 9 (by kernel_rfl) (by kernel_rfl) ?_;simp only [List.take_succ_cons,List.take_zero,List.drop_succ_cons,List.drop_zero]
  repeat still_step
  try refine wpStill_nil ?_
  change wpList _ _ _ _ _ w6.drew
  go_wp2_with fail
  go_ret
  clear hrun;obtain ⟨hOm,hO1,hBt,hG⟩:=HX.out;have hmo : mb < w.heap.size:=H.out.lt mb hOm;have hmc : mb ≠ c:=MF.tag_ne Hm.out Hc.out;have hx : appC L 7 txt ((k + 1 : Nat) : Int) = 0:=by
    unfold appC;rw [if_neg (by omega),if_neg (by omega),if_pos rfl,if_neg (by rw [Ht.out];simp),if_neg (by rw [Hnm.out];simp),if_neg (by rw [Hh.out];simp),Hek.out,if_neg (by rw [← Hte.out,← Hnf.out];omega)]
  have hl : appL L 7 txt ((k + 1 : Nat) : Int) = L.set k ⟨t.name,t.dropped,t.fs ++ [txt]⟩:=by
    unfold appL;rw [if_pos hx,if_neg (by omega),if_neg (by omega),if_pos rfl,Hek.out,← Hte.out]
  have hnm2 : txt.size ≤ 40:=by
    have:=Hnm.out;unfold isNm at this;simp at this
    exact this.2
  have hs36:=Hk6.out.size;have hs67:=Hk7.out.size;have hs56:=H67.out.size;have hsA : ∀ b,(w3.alloc (.cells #[.string txt] 153)).drew.heap.size ≤ b → w3.heap.size < b:=fun b (hb : (w3.alloc _).heap.size ≤ b) => by simp at hb;omega
  have hc7 : VBlk 113 w7 c [.slice (some ⟨g,0,none⟩) L.length cap,.int .u64 (dr : Nat),.map (some mb)] :=
    ((Hc.out.keep Hk3.out trivial).keep Hk6.out ⟨by omega,Ne.symm hgc⟩).keep Hk7.out (Ne.symm hmc)
  have hT7:=HT6.out.keep Hk7.out (fun b hb => by have e:=Option.some.inj hb;subst e;exact Ne.symm hmg);have hO5 : ∀ b,(Value.slice sp5 (nf + 1) c5).ownBlock = some b → w3.heap.size < b:=fun b hb => hsA b (Hown5.out.own hb);have hl4:=HT0.out.len;refine ⟨fun b => O b ∨ (Value.slice sp5 (nf + 1) c5).ownBlock = some b,by rw [hx];rfl,?_,?_,fun b hb => hb.imp id fun h => by have:=hO5 b h;omega⟩
  · rw [hl]
    refine ⟨_,dr,mb,hc7,.inl hOc,.inl hOm,fun b hb => ?_,⟨_,by rw [List.length_set];exact hT7.mono (fun _ h => .inl h),fun i hi => ?_⟩,bits_same hBt hk _ (by rw [← Hte.out]),?_,good_set hG ?_ ?_ ?_ ?_⟩
    · rcases hb with hb | hb
      · have:=H.out.lt b hb;omega
      · have:=Hown5.out.lt hb;omega
    · rw [List.length_set] at hi
      by_cases e : k = i
      · subst e
        rw [getD_set_eq _ _ _ _ hk];obtain ⟨i0,i1,i2,i3⟩:=HI.out k hk;refine ⟨?_,?_,?_,?_⟩
        · rw [getD_set_ne _ _ _ _ _ (by omega)];exact i0
        · rw [getD_set_ne _ _ _ _ _ (by omega),Hte.out];exact i1
        · rw [getD_set_ne _ _ _ _ _ (by omega),Hte.out];exact i2
        · rw [getD_set_eq _ _ _ _ (by omega)]
          have e1 : (t.fs ++ [txt]).length = nf + 1:=by rw [List.length_append,← Hnf.out];rfl
          have e2 : (t.fs ++ [txt]).map Value.string = t.fs.map Value.string ++ [.string txt]:=by simp
          show OwnV _ 1 w7 _ _ (t.fs ++ [txt]).length ((t.fs ++ [txt]).map Value.string)
          rw [e1,e2];refine ⟨(Hown5.out.of_block (w':=w7) fun b hb => ?_).1,Hown5.out.2.1,fun b hb => .inr hb⟩;have:=hO5 b hb;rw [Hk7.out.block b (by show b ≠ mb;omega),H67.out.block b (by show b ≠ g;omega)]
      · rw [getD_set_ne _ _ _ _ _ e]
        have hit : IsTab 153 w7 O (cells.set (k * 4 + 3) (.slice sp5 (nf + 1) c5)) i (L.getD i noTb):=by
          refine (HI.out i hi).moved (fun j hj => ?_) (fun b hb hcur => ?_)
          · rw [getD_set_ne _ _ _ _ _ (by omega)]
          · obtain ⟨cur,hcur⟩:=hcur
            obtain ⟨curg,hcurg⟩:=HT0.out.tag rfl;have hbw:=H.out.lt b hb;rw [Hk7.out.block b (Ne.symm (MF.tag_ne Hm.out hcur)),Hk6.out.block b ⟨by omega,tag_ne hcur hcurg (by decide)⟩,Hk3.out.block b trivial]
        exact ⟨hit.1,hit.2.1,hit.2.2.1,hit.2.2.2.mono (fun _ h => .inl h)⟩
    · have:=put_has hk txt t.name t.dropped
      rw [← Hte.out] at this;rw [← this];exact Hm7.out
    · rw [Hte.out];exact (hG.each k hk).1
    · show (t.fs ++ [txt]).length ≤ 16
      rw [List.length_append,← Hnf.out];show nf + 1 ≤ 16;omega
    · intro f hf
      rcases List.mem_append.1 hf with h | h
      · have:=(hG.each k hk).2.2.1 f (by rw [← Hte.out];exact h);exact this
      · rw [List.mem_singleton.1 h];exact hnm2
    · intro hd
      have h1:=Ht.out;unfold there at h1;rw [Hek.out,← Hte.out] at h1;have hd' : t.dropped = true:=hd;rw [hd'] at h1;simp at h1
  · refine ((Keep.of_below HB.out).mono fun b hb => hb.1).trans ((Hk3.out.mono fun _ _ => trivial).trans ((Hk6.out.mono fun b (hb : b < w.heap.size ∧ ¬ O b) => ⟨by omega,fun e => hb.2 (e ▸ hOg)⟩).trans (Hk7.out.mono fun b hb e => hb.2 (e ▸ hOm))))
end Cat
namespace Cat
set_option maxRecDepth 100000 in
set_option maxHeartbeats 8000000 in
theorem apply_index {w : World} {c n : Nat} {O : Nat → Prop} {L : List Tb} {cs : Array Value} {txt : ByteArray} {tbl : Int} (h : IsCat w c O n L) (hE : Ent cs 7 txt tbl) (hn : n < 1000000000) :
    Calls Tryz.prog 60 #[.pointer (some ⟨c,0,none⟩),.agg cs] w (AppPost w c n O L 7 txt tbl):=by
  have hz:=zeroTable;have hbel : Below w.heap.size w (w.alloc (.cells cs 52)):=(Below.refl _ w).alloc (Nat.le_refl _) _;have h1:=h.below hbel (Nat.le_refl _);have HE:=Hid2.mk hE;obtain ⟨e0,e1,e2⟩:=ent_cells (w:=w) hE;have H:=Hid2.mk h;have HB:=Hid2.mk hbel;have H1:=Hid2.mk h1;have HT:=Hid2.mk (there_any h1 tbl);clear h hbel h1 hE;cases ht : there L tbl with
  | false =>
    have hx : appC L 7 txt tbl = 7:=by unfold appC;rw [if_neg (by omega),if_neg (by omega),if_pos rfl,if_pos ht]
    have Hx:=Hid2.mk hx;have Ht:=Hid2.mk ht;clear hx ht
    go_enter Tryz.func60,Tryz.ntmps60
    go_wp2_with (refine (HT.out).mono ?_;rw [Ht.out];rintro e w' ⟨rfl,rfl⟩)
    go_ret
    exact appPost_no Hx.out (by omega) H.out HB.out
  | true =>
    cases hnm : isNm txt with
    | false =>
      have hx : appC L 7 txt tbl = 3:=by unfold appC;rw [if_neg (by omega),if_neg (by omega),if_pos rfl,if_neg (by rw [ht];simp),if_pos hnm]
      have Hx:=Hid2.mk hx;have Ht:=Hid2.mk ht;have Hnm:=Hid2.mk hnm;clear hx ht hnm
      go_enter Tryz.func60,Tryz.ntmps60
      go_wp2_with (first | (go_at_call 81;refine (HT.out).mono ?_;rw [Ht.out];rintro e w' ⟨rfl,rfl⟩) | (go_at_call 80;refine (isName_any _ _).mono ?_;rw [Hnm.out];rintro e w' ⟨rfl,rfl⟩))
      go_ret
      exact appPost_no Hx.out (by omega) H.out HB.out
    | true =>
      obtain ⟨k,rfl,hk⟩ : ∃ k : Nat,tbl = (k + 1 : Nat) ∧ k < L.length:=⟨(tbl - 1).toNat,by unfold there at ht;simp at ht;omega,by unfold there at ht;simp at ht;omega⟩;have hlen:=H.out.good.len;obtain ⟨t,hte⟩ : ∃ t,t = L.getD k noTb:=⟨_,rfl⟩;have ek : (((k + 1 : Nat) : Int) - 1).toNat = k:=by omega
      obtain ⟨tv,dr,mb,hc,hOc,hOm,hO3,⟨cells,hT,hI⟩,hB3,hM3,hG⟩:=H1.out;have hIk:=hI k hk;rw [← hte] at hIk;obtain ⟨g,cap,rfl,hcap,hcap2,hg,hOg,x0,x1,x2,sp,cc,x3,hown⟩:=tab_cells hT hk hIk;have c0:=hc.cell 0 (by simp);have c2:=hc.cell 2 (by simp);simp only [List.getD_cons_zero,List.getD_cons_succ] at c0 c2;have hlk : ∀ m,(Instr.lookup 110 (.map (some mb)) (.agg #[.int .i64 ((k : Int) + 1),.string txt]) false).run Tryz.prog ((w.alloc (.cells cs 52)).drewN m) = .ok (.bool (has L ((k + 1 : Nat) : Int) txt)) ((w.alloc (.cells cs 52)).drewN m) :=
        fun m => look_has (hM3.drewN m) ((k + 1 : Nat) : Int) txt ⟨HE.out.hwf,HE.out.hsh⟩
      have Hte:=Hid2.mk hte;have HT0:=Hid2.mk hT;have HI:=Hid2.mk hI;have Hm:=Hid2.mk hM3;have Hown:=Hid2.mk hown;have HX:=Hid2.mk (And.intro hOm (And.intro hO3 (And.intro hB3 hG)));have hfl : t.fs.length ≤ 16:=by rw [hte];exact (hG.each k hk).2.1
      obtain ⟨nf,hnf⟩ : ∃ nf,nf = t.fs.length:=⟨_,rfl⟩;rw [← hnf] at x3 hfl;have hncc : nf ≤ cc:=by obtain ⟨sp',cap',e,hle,-⟩:=hown.slice;injection e with _ _ e3;omega
      have Hnf:=Hid2.mk hnf;have Ht:=Hid2.mk ht;have Hnm:=Hid2.mk hnm;have Hc:=Hid2.mk hc;clear ht hc hT hI hIk hown hM3 hG hO3 hOm hte hB3 hnm hnf;cases hh : has L ((k + 1 : Nat) : Int) txt with
      | true =>
        have hx : appC L 7 txt ((k + 1 : Nat) : Int) = 8:=by unfold appC;rw [if_neg (by omega),if_neg (by omega),if_pos rfl,if_neg (by rw [Ht.out];simp),if_neg (by rw [Hnm.out];simp),if_pos hh]
        rw [hh] at hlk;have Hx:=Hid2.mk hx;clear hx hh ek
        go_enter Tryz.func60,Tryz.ntmps60
        go_wp2_with (first | (go_at_call 81;refine (HT.out).mono ?_;rw [Ht.out];rintro e w' ⟨rfl,rfl⟩) | (go_at_call 80;refine (isName_any _ _).mono ?_;rw [Hnm.out];rintro e w' ⟨rfl,rfl⟩))
        go_quiet (fail)
        clear hlk
        go_wp2_with fail
        go_ret
        exact appPost_no Hx.out (by omega) H.out (belowN HB.out _)
      | false =>
        rw [hh] at hlk;have hwk : IntKind.i64.wrap (k : Int) = k:=IntWalk.i64_in _ (by omega);have hkl : (k : Int) < L.length:=by omega
        have hk0 : (0 : Int) ≤ k:=by omega
        have Hh:=Hid2.mk hh;have Hek:=Hid2.mk ek;clear hh ek
        by_cases h16 : 16 ≤ nf
        · have hx : appC L 7 txt ((k + 1 : Nat) : Int) = 17:=by unfold appC;rw [if_neg (by omega),if_neg (by omega),if_pos rfl,if_neg (by rw [Ht.out];simp),if_neg (by rw [Hnm.out];simp),if_neg (by rw [Hh.out];simp),Hek.out,if_pos (by rw [← Hte.out,← Hnf.out];exact h16)]
          have Hx:=Hid2.mk hx;have h16' : (16 : Int) ≤ nf:=by omega
          clear hx
          go_enter Tryz.func60,Tryz.ntmps60
          go_wp2_with (first | (go_at_call 81;refine (HT.out).mono ?_;rw [Ht.out];rintro e w' ⟨rfl,rfl⟩) | (go_at_call 80;refine (isName_any _ _).mono ?_;rw [Hnm.out];rintro e w' ⟨rfl,rfl⟩))
          go_quiet (fail)
          clear hlk
          go_wp2_with fail
          go_quiet (fail)
          go_wp2_with fail
          go_ret
          exact appPost_no Hx.out (by omega) H.out (belowN (belowN HB.out _) _)
        · exact apply_index_ok H.out HE.out hn Ht.out Hnm.out Hh.out (by rw [Hek.out,← Hte.out,← Hnf.out];omega)
end Cat
namespace Cat
set_option maxRecDepth 100000 in
set_option maxHeartbeats 800000 in
theorem apply_other {w : World} {c n : Nat} {O : Nat → Prop} {L : List Tb} {cs : Array Value} {kind : Int} {txt : ByteArray} {tbl : Int} (h : IsCat w c O n L) (hE : Ent cs kind txt tbl) (h5 : kind ≠ 5) (h6 : kind ≠ 6) (h7 : kind ≠ 7) :
    Calls Tryz.prog 60 #[.pointer (some ⟨c,0,none⟩),.agg cs] w (AppPost w c n O L kind txt tbl):=by
  have hbel : Below w.heap.size w (w.alloc (.cells cs 52)):=(Below.refl _ w).alloc (Nat.le_refl _) _;obtain ⟨e0,e1,e2⟩:=ent_cells (w:=w) hE;have hx : appC L kind txt tbl = 0:=by unfold appC;rw [if_neg h5,if_neg h6,if_neg h7]
  have hl : appL L kind txt tbl = L:=by unfold appL;rw [if_pos hx,if_neg h5,if_neg h6,if_neg h7]
  have Hx:=Hid2.mk hx;have Hl:=Hid2.mk hl;have HB:=Hid2.mk hbel;have H:=Hid2.mk h;have g5 : (kind == 5) = false:=beq_eq_false_iff_ne.2 h5;have g6 : (kind == 6) = false:=beq_eq_false_iff_ne.2 h6;have g7 : (kind == 7) = false:=beq_eq_false_iff_ne.2 h7;clear hx hl hbel h hE h5 h6 h7 e1 e2
  go_enter Tryz.func60,Tryz.ntmps60
  go_wp2_with fail
  go_ret
  exact ⟨O,by rw [Hx.out];rfl,by rw [Hl.out];exact (H.out.below HB.out (Nat.le_refl _)).mono (by omega),(Keep.of_below HB.out).mono (fun b hb => hb.1),fun b hb => .inl hb⟩
theorem apply_any {w : World} {c n : Nat} {O : Nat → Prop} {L : List Tb} {cs : Array Value} {kind : Int} {txt : ByteArray} {tbl : Int} (h : IsCat w c O n L) (hE : Ent cs kind txt tbl) (hn : n < 1000000000) :
    Calls Tryz.prog 60 #[.pointer (some ⟨c,0,none⟩),.agg cs] w (AppPost w c n O L kind txt tbl):=by
  by_cases h5 : kind = 5
  · subst h5;exact apply_table h hE
  · by_cases h6 : kind = 6
    · subst h6;exact apply_drop h hE
    · by_cases h7 : kind = 7
      · subst h7;exact apply_index h hE hn
      · exact apply_other h hE h5 h6 h7
theorem good_nil : Good []:=⟨by simp,fun i hi => by simp at hi⟩
set_option maxHeartbeats 800000 in
theorem new_any (w : World) : Calls Tryz.prog 27 #[] w fun e w' => ∃ O,e = .returned (.pointer (some ⟨w.heap.size + 1,0,none⟩)) ∧ IsCat w' (w.heap.size + 1) O 0 [] ∧ Below w.heap.size w w' ∧ ∀ b,O b → w.heap.size ≤ b:=by
  have hmm:=@run_makeMap Tryz.prog
  go_enter Tryz.func27,Tryz.ntmps27
  go_wp2_with fail
  go_ret
  have hm : MF Tryz.prog 134 mk (w.alloc (.map #[] 0)) w.heap.size 0 (fun _ => none):=MF.made _ _ _ w;have hs1 : (w.alloc (.map #[] 0)).heap.size = w.heap.size + 1:=by simp
  have hv:=VBlk.mk (w.alloc (.map #[] 0)) [.slice none 0 0,.int .u64 0,.map (some w.heap.size)] 113;rw [hs1] at hv;refine ⟨fun b => b = w.heap.size ∨ b = w.heap.size + 1,rfl,⟨.slice none 0 0,0,w.heap.size,hv,.inr rfl,.inl rfl,fun b hb => ?_,⟨[],OwnV.nil _ _ _ _,fun i hi => by simp at hi⟩,⟨by omega,fun i => by simp [noTb]⟩,?_,good_nil⟩,((Below.refl _ _).alloc (Nat.le_refl _) _).alloc (by simp) _,fun b hb => by omega⟩
  · simp;omega
  · exact (hm.alloc _).congr fun x => by unfold hasF has;simp;omega
end Cat
namespace Cr
open K Cat
theorem elemRT : ElemV Tryz.prog 58 rtT 4 56:=ElemV.mk' (z:=.agg zTab.toArray) Tryz.underlying58 (by kernel_rfl) rfl (by omega)
theorem elemSt : ElemV Tryz.prog 45 stT 1 16:=ElemV.mk' (z:=.string ByteArray.empty) Tryz.underlying45 (by kernel_rfl) rfl (by omega)
theorem OwnV.fresh {w w' : World} {g e m n : Nat} {cs : List Value} {O : Nat → Prop} (h : Fresh w g w' e cs) (h1 : Ones cs) (hl : cs.length = n * m) (hn : n ≤ 1000000) (hO : O g) : OwnV e m w' O (.slice (some ⟨g,0,none⟩) n n) n cs :=
  ⟨⟨hl,.inr ⟨g,n,cs.toArray,rfl,Nat.zero_le _,h.blk,Nat.le_refl _,by unfold maxLen;omega,by simp [hl],by simp [← hl]⟩⟩,h1,fun b hb => by cases hb;exact hO⟩
def RApp (w : World) (rc : Nat) (O : Nat → Prop) (L : List Tb) (kind : Int) (txt : ByteArray) (tbl : Int) (e : Ending) (w' : World) : Prop :=
  ∃ O',e = .returned (.int .i64 (appC L kind txt tbl)) ∧ RCat w' rc O' (appL L kind txt tbl) ∧ Keep (fun b => b < w.heap.size ∧ ¬ O b) w w' ∧ ∀ b,O' b → O b ∨ w.heap.size ≤ b
theorem RApp.no {w w' : World} {rc : Nat} {O : Nat → Prop} {L : List Tb} {kind : Int} {txt : ByteArray} {tbl x : Int} (hx : appC L kind txt tbl = x) (hne : x ≠ 0) (h : RCat w rc O L) (hb : Below w.heap.size w w') : RApp w rc O L kind txt tbl (.returned (.int .i64 x)) w' :=
  ⟨O,by rw [hx],by unfold appL;rw [if_neg (by rw [hx];exact hne)];exact h.below hb,Keep.mono (Keep.of_below hb) (fun k hk => hk.1),fun b hb => .inl hb⟩
theorem ent_at {w : World} {g T : Nat} {cs : Array Value} {kind tbl : Int} {txt : ByteArray} (hE : Ent cs kind txt tbl) (h : VBlk T w g cs.toList) : w.cell? ⟨g,0,none⟩ = some (.int .i64 kind) ∧ w.cell? ⟨g,1,none⟩ = some (.string txt) ∧ w.cell? ⟨g,2,none⟩ = some (.int .i64 tbl):=by
  have hl : cs.toList.length = 46:=by simpa using hE.hsz
  have e : ∀ j v,cs[j]? = some v → cs.toList.getD j undef = v:=fun j v hv => by rw [List.getD_eq_getElem?_getD,Array.getElem?_toList,hv];rfl
  exact ⟨by rw [h.cell 0 (by omega),e _ _ hE.hk],by rw [h.cell 1 (by omega),e _ _ hE.htx],by rw [h.cell 2 (by omega),e _ _ hE.htb]⟩
theorem RC.push {w w0 w' : World} {rc : Nat} {O O2 : Nat → Prop} {L : List Tb} {tv tv' : Value} {cells : List Value} {txt : ByteArray} (h : RC w rc O L tv cells) (hk : Keep (fun b => b < w0.heap.size) w w') (hs : w0.heap.size = w.heap.size) (h64 : L.length < 64) (hnm : isNm txt = true)
    (ho : OwnV rtT 4 w' O2 tv' (L.length + 1) (cells ++ [.int .i64 ((L.length : Int) + 1),.string txt,.bool false,.slice none 0 0])) (hO2 : ∀ g,tv'.ownBlock = some g → w.heap.size ≤ g) :
    RC (w'.setCell ⟨rc,0,none⟩ tv') rc (fun b => (O b ∨ w.heap.size ≤ b) ∧ b < w'.heap.size) (L ++ [⟨txt,false,[]⟩]) tv' (cells ++ [.int .i64 ((L.length : Int) + 1),.string txt,.bool false,.slice none 0 0]) ∧
      Keep (fun b => b < w.heap.size ∧ ¬ O b) w (w'.setCell ⟨rc,0,none⟩ tv'):=by
  rw [hs] at hk;have hz:=hk.size;have hrc:=h.lt _ h.rc;have hl:=h.own.len;have vb' : VBlk rcT w' rc [tv]:=h.vb.keep hk hrc;have hnm' : 1 ≤ txt.size ∧ txt.size ≤ 40:=by unfold isNm at hnm;simpa using hnm
  have hsz : (w'.setCell ⟨rc,0,none⟩ tv').heap.size = w'.heap.size:=by simp
  refine ⟨⟨vb'.set 0 tv',?_,fun i hi => ?_,⟨.inl h.rc,by omega⟩,fun b hb => by rw [hsz];exact hb.2,?_⟩,Keep.setCell (hk.mono fun b hb => hb.1) (fun hh => hh.2 h.rc) _⟩
  · rw [show (L ++ [(⟨txt,false,[]⟩ : Tb)]).length = L.length + 1 by simp]
    have ho' : OwnV rtT 4 w' (fun b => (O b ∨ w.heap.size ≤ b) ∧ b < w'.heap.size) tv' (L.length + 1) (cells ++ [.int .i64 ((L.length : Int) + 1),.string txt,.bool false,.slice none 0 0]):=⟨ho.1,ho.2.1,fun g hg => ⟨.inr (hO2 g hg),ho.lt hg⟩⟩;refine ho'.of_block fun g hg => Below.heap_setCell w' _ _ g ?_;have:=hO2 g hg
    show g ≠ rc
    omega
  · have hb : ∀ b,O b → (∃ cur,w.heap[b]? = some (.cells cur stT (0,0))) → (w'.setCell ⟨rc,0,none⟩ tv').heap[b]? = w.heap[b]?:=fun b hb ⟨cur,hc⟩ => by
      rw [Below.heap_setCell w' _ _ b (fun e => ?_),hk.block b (h.lt b hb)];have e' : b = rc:=e;have hv : w.heap[rc]? = some (.cells [tv].toArray rcT (0,0)):=h.vb;rw [e',hv] at hc
      injection hc with hc
      injection hc with _ hc _
      exact absurd hc (by decide)
    by_cases hlt : i < L.length
    · rw [Cat.getD_left _ _ _ _ hlt]
      exact ((h.tab i hlt).of_block hb).left (by omega) |>.mono fun b hb => ⟨.inl hb,Nat.lt_of_lt_of_le (h.lt b hb) hz⟩
    · obtain rfl : i = L.length:=by simp at hi;omega
      have e : (L ++ [(⟨txt,false,[]⟩ : Tb)]).getD L.length noTb = ⟨txt,false,[]⟩:=by simp
      rw [e];exact IsTab.last (t:=⟨txt,false,[]⟩) (by omega) (OwnV.nil _ _ _ _)
  · refine ⟨by simp;omega,fun i hi => ?_⟩
    by_cases hlt : i < L.length
    · rw [Cat.getD_left _ _ _ _ hlt];exact h.good.each i hlt
    · obtain rfl : i = L.length:=by simp at hi;omega
      have e : (L ++ [(⟨txt,false,[]⟩ : Tb)]).getD L.length noTb = ⟨txt,false,[]⟩:=by simp
      rw [e];exact ⟨hnm'.2,by simp,by simp,by simp⟩
theorem RC.place {w w' : World} {rc : Nat} {O O' : Nat → Prop} {L : List Tb} {cells cells' : List Value} {t : Tb} {g cap k : Nat} (h : RC w rc O L (.slice (some ⟨g,0,none⟩) L.length cap) cells) (hk : k < L.length)
    (hb : ∀ b,b < w.heap.size → b ≠ g → w'.heap[b]? = w.heap[b]?) (ho : OwnV rtT 4 w' O (.slice (some ⟨g,0,none⟩) L.length cap) L.length cells') (hO : ∀ b,O b → O' b) (hlt : ∀ b,O' b → b < w'.heap.size)
    (hc : ∀ i,i ≠ k → ∀ j,j < 4 → cells'.getD (i * 4 + j) undef = cells.getD (i * 4 + j) undef) (ht : IsTab stT w' O' cells' k t) (hg : Cat.Good (L.set k t)) : RC w' rc O' (L.set k t) (.slice (some ⟨g,0,none⟩) L.length cap) cells':=by
  have htag : w.heap[g]? = some (.cells ((w.heap[g]?).elim #[] fun | .cells c _ _ => c | _ => #[]) rtT (0,0)):=by
    obtain ⟨cur,hcur⟩:=h.own.tag (g:=g) rfl;rw [hcur];rfl
  have hrcg : rc ≠ g:=fun e => by
    have hv : w.heap[rc]? = some (.cells [Value.slice (some ⟨g,0,none⟩) L.length cap].toArray rcT (0,0)):=h.vb;rw [e,htag] at hv
    injection hv with hv
    injection hv with _ hv _
    exact absurd hv (by decide)
  refine ⟨(hb rc (h.lt _ h.rc) hrcg).trans h.vb,?_,fun i hi => ?_,hO _ h.rc,hlt,hg⟩
  · rw [List.length_set];exact ho.mono hO
  · rw [List.length_set] at hi
    by_cases e : i = k
    · subst e
      rw [Cat.getD_set_eq _ _ _ _ hi];exact ht
    · rw [Cat.getD_set_ne _ _ _ _ _ (fun q => e q.symm)]
      refine ((h.tab i hi).moved (hc i e) fun b hOb ⟨cur,hcur⟩ => hb b (h.lt b hOb) fun q => ?_).mono hO;rw [q,htag] at hcur
      injection hcur with hcur
      injection hcur with _ hcur _
      exact absurd hcur (by decide)
end Cr
namespace Cr
open K Cat
set_option maxHeartbeats 4000000 in
theorem rapply_table {w : World} {rc : Nat} {O : Nat → Prop} {L : List Tb} {cs : Array Value} {txt : ByteArray} {tbl : Int} (h0 : RCat w rc O L) (hE : Ent cs 5 txt tbl) :
    Calls Tryz.prog 64 #[.pointer (some ⟨rc,0,none⟩),.agg cs] w (RApp w rc O L 5 txt tbl):=by
  obtain ⟨tv,cells,h⟩:=id h0;obtain ⟨sp0,cap0,rfl,-,-⟩:=h.own.slice;have hlen:=h.good.len;refine enter (args:=[.pointer (some ⟨rc,0,none⟩),.agg cs]) Tryz.func64 rfl Tryz.ntmps64 rfl ?_;refine K.kgn ?_;refine WL.box rfl rfl rfl rfl rfl fun ge w1 f1 => ?_;have b1 : Below w.heap.size w w1:=f1.below;obtain ⟨e0,e1,e2⟩:=ent_at hE f1.blk;have eg:=f1.eq;have ez:=f1.size;clear f1;have h1:=h.below b1;have z1:=b1.size;have cv:=h1.vb.cell 0 (by simp);simp only [List.getD_cons_zero] at cv
  by_cases g64 : 64 ≤ L.length
  · refine K.kgl ?_
    exact WQ.ret1 rfl rfl (RApp.no (by unfold appC;rw [if_pos rfl,if_pos g64]) (by omega) h0 b1)
  by_cases ht : tbl = (L.length : Int) + 1
  · subst ht
    refine K.kgl ?_;refine WC.drawn 14 (fun wx => Below w1.heap.size w1 wx) fun w2 hd => ?_;have hS : Below w1.heap.size w1 w2:=hd.below _;have kc : ∀ {wx : World},Below w1.heap.size w1 wx → wx.cell? ⟨rc,0,none⟩ = some (.slice sp0 L.length cap0):=fun hx => (hx.cell (p:=⟨rc,0,none⟩) (show rc < w1.heap.size by have:=h.lt _ h.rc;omega)).trans cv;have k1 : ∀ {wx : World},Below w1.heap.size w1 wx → wx.cell? ⟨ge,1,none⟩ = some (.string txt):=fun hx => (hx.cell (p:=⟨ge,1,none⟩) (show ge < w1.heap.size by omega)).trans e1;have k2 : ∀ {wx : World},Below w1.heap.size w1 wx → wx.cell? ⟨ge,2,none⟩ = some (.int .i64 ((L.length : Int) + 1)):=fun hx => (hx.cell (p:=⟨ge,2,none⟩) (show ge < w1.heap.size by omega)).trans e2;refine K.fr [0,2,3,4] hS ?_;refine K.wl 1 [8,9,13,14] rfl rfl rfl rfl rfl rfl rfl (fun wx hx => k2 hx) hS ?_;refine K.wl 5 [6,7,8,9,13,14] rfl rfl rfl rfl rfl rfl rfl (fun wx hx => kc hx) hS ?_;refine K.fr [6,7,8,9,10] hS ?_;refine K.wl 11 [12,13,14] rfl rfl rfl rfl rfl rfl rfl (fun wx hx => k1 hx) hS ?_;refine K.wo 12 ?_;refine WL.on rfl rfl ?_;refine WL.call rfl rfl rfl rfl rfl Tryz.func86 rfl (by kernel_rfl) (rname_any txt w2) ?_;rintro _ w2 ⟨rfl,rfl⟩;refine ⟨_,rfl,?_⟩;refine K.di hS ?_;refine K.fr [13] hS ?_;refine K.wo 14 ?_;cases hnm : isNm txt with
    | false =>
      refine K.kgo ?_;refine WQ.dk (.inl rfl) ?_;refine WD.done (by kernel_rfl) ?_;refine K.kgo ?_;exact WQ.ret1 rfl rfl (RApp.no (by unfold appC;rw [if_pos rfl,if_neg g64,if_pos (.inr hnm)]) (by omega) h0 (b1.trans (hS.mono z1)))
    | true =>
    refine K.kgo ?_;refine WQ.dk (.inl rfl) ?_;refine WD.done (by kernel_rfl) ?_;have h2:=(h1.below hS);have z2:=hS.size;have q1:=k1 hS;refine K.kgl ?_;refine WL.call rfl rfl rfl rfl rfl Tryz.func87 rfl (by kernel_rfl) (rfind_any ⟨_,_,h2⟩ txt) ?_;intro e w4 hp;have hA : appC L 5 txt ((L.length : Int) + 1) = if (findI L txt).isSome = true then 8 else 0:=by
      unfold appC;rw [if_pos rfl,if_neg g64,if_neg (by rw [hnm];simp)]
    cases hfi : findI L txt with
    | some k =>
      rw [show findR L txt = (((k + 1 : Nat) : Int),L.getD k noTb,0) by unfold findR;rw [hfi]] at hp;obtain ⟨fv,he,hfo,hb4⟩:=hp;simp only at he;subst he;refine ⟨_,rfl,?_⟩;refine K.kgo ?_;refine WL.alloc (z:=.agg zTab.toArray) rfl rfl rfl rfl zeroRT fun gt w5 f5 => ?_;refine WL.storeRow rfl rfl rfl rfl rfl rfl f5.blk rfl rfl (ones4 (OwnV.one hfo)) ?_;refine K.kgo ?_;have b4:=hS.trans (hb4.mono z2);have b5:=b4.trans (f5.below.mono b4.size);exact WQ.ret1 rfl rfl (RApp.no (by rw [hA,hfi];rfl) (by omega) h0 ((b1.trans (b5.mono z1)).trans (keepRow (K:=fun b => b < w.heap.size) (g:=gt) (Keep.refl _ _) (fun hh => by have:=f5.eq;have:=b4.size;omega) _).below))
    | none =>
      rw [show findR L txt = (0,noTb,13) by unfold findR;rw [hfi]] at hp;obtain ⟨fv,he,hfo,hb4⟩:=hp;simp only at he;subst he;refine ⟨_,rfl,?_⟩;refine K.kgo ?_;refine WL.alloc (z:=.agg zTab.toArray) rfl rfl rfl rfl zeroRT fun gt w5 f5 => ?_;refine WL.storeRow rfl rfl rfl rfl rfl rfl f5.blk rfl rfl (ones4 (OwnV.one hfo)) ?_;have b4:=hS.trans (hb4.mono z2);have b5:=(b4.trans (f5.below.mono b4.size)).trans (keepRow (K:=fun b => b < w1.heap.size) (g:=gt) (Keep.refl _ _) (fun hh => by have:=f5.eq;have:=b4.size;omega) [Value.int .i64 0,.string ByteArray.empty,.bool false,fv].toArray).below;clear hfo hb4 b4 h2 z2 q1;have hc : appC L 5 txt ((L.length : Int) + 1) = 0:=by rw [hA,hfi];rfl
      have hL : appL L 5 txt ((L.length : Int) + 1) = L ++ [⟨txt,false,[]⟩]:=by unfold appL;rw [if_pos hc,if_pos rfl]
      refine K.kgl ?_;refine WC.drawn 13 (fun wx => Below w1.heap.size w1 wx) fun w3 hd3 => ?_;have c3 : Below w1.heap.size w1 w3:=b5.trans (hd3.below _);clear hd3 b5 f5 hS;have hS:=c3;have src : ∀ {wx : World},Below w1.heap.size w1 wx → SlV wx O 4 (.slice sp0 L.length cap0) L.length cells:=fun hx => (h1.below hx).own.slV;refine K.fr [0,2,3,4,7,9] hS ?_;refine K.wl 5 [6,13] rfl rfl rfl rfl rfl rfl rfl (fun wx hx => kc hx) c3 ?_;refine K.wl 8 [11,12,13] rfl rfl rfl rfl rfl rfl rfl (fun wx hx => k2 hx) c3 ?_;refine K.wl 10 [11,12,13] rfl rfl rfl rfl rfl rfl rfl (fun wx hx => k1 hx) c3 ?_;refine WDbuild [.int .i64 ((L.length : Int) + 1),.string txt,.bool false,.slice none 0 0] 11 rfl (by kernel_rfl) rfl rfl (fun _ _ _ _ _ h => h) rfl rfl rfl (by kernel_rfl) (.inr c3) ?_;refine WD.two 1 12 (by kernel_rfl) rfl rfl ?_ ?_
      · skip
        refine WL.empty rfl rfl rfl rfl rfl fun ga wa fa => ?_;have ca : Below w1.heap.size w1 wa:=c3.trans (fa.below.mono c3.size);have owna : OwnV rtT 4 wa (fun b => w1.heap.size ≤ b) (.slice (some ⟨ga,0,none⟩) 0 0) 0 []:=OwnV.fresh fa (fun u hu => absurd hu List.not_mem_nil) (by simp) (by omega) (by have:=fa.eq;have:=c3.size;omega);refine K.di ca ?_;refine WD.two 6 12 (by kernel_rfl) rfl rfl ?_ ?_
        · skip
          refine WL.appV rfl rfl rfl rfl elemRT rfl owna rfl (src ca) (by omega) (by omega) fun vb wb ob gb => ?_;have cb : Below w1.heap.size w1 wb:=ca.trans (gb.old ca.size fun g hg => owna.own hg);have ownb : OwnV rtT 4 wb (fun b => w1.heap.size ≤ b) vb L.length cells:=by
            rw [Nat.zero_add,List.nil_append] at ob;exact ob.mono fun b hb => hb.elim id fun e => by have:=ca.size;omega
          refine K.di cb ?_;refine K.wo 12 ?_;refine WL.lit1 rfl rfl rfl rfl rfl rfl (cs:=[.int .i64 ((L.length : Int) + 1),.string txt,.bool false,.slice none 0 0]) rfl rfl (by omega) (by kernel_rfl) fun gl wl fl => ?_;have cl : Below w1.heap.size w1 wl:=cb.trans (fl.below.mono cb.size);have litL:=SlV.fresh1 fl (T:=rtT) (ones4 rfl);have glL : gl < wl.heap.size:=fl.blk.lt;have ownl:=ownb.keep (Keep.of_below fl.below) (fun g hg => ownb.lt hg)
          skip
          refine K.di cl ?_;refine K.wo 13 ?_;refine WL.appV rfl rfl rfl rfl elemRT rfl ownl rfl litL (by omega) (by omega) fun vd wd od gd => ?_;have cd : Below w1.heap.size w1 wd:=cl.trans (gd.old cl.size fun g hg => ownl.own hg);have ownd : OwnV rtT 4 wd (fun b => w1.heap.size ≤ b) vd (L.length + 1) (cells ++ [.int .i64 ((L.length : Int) + 1),.string txt,.bool false,.slice none 0 0]):=od.mono fun b hb => hb.elim id fun e => by have:=cl.size;omega
          refine K.dl ?_
          (refine K.fzl 14 rfl (q:=?_);refine K.fzl 15 rfl (q:=?_))
          refine K.wo 16 ?_;have hlt:=h.lt _ h.rc;have bd:=b1.trans (cd.mono z1);have cvd : wd.cell? ⟨rc,0,none⟩ = some (.slice sp0 L.length cap0):=(cd.cell (p:=⟨rc,0,none⟩) (show rc < w1.heap.size by omega)).trans cv;refine WL.store rfl rfl rfl rfl rfl (OwnV.one ownd) (by kernel_rfl) cvd (VBlk.free (h1.below cd |>.vb) 0) ?_;refine K.dl ?_;refine WD.done (by kernel_rfl) ?_;refine K.kgo ?_;obtain ⟨r1,r2⟩:=h.push (w0:=w) (Keep.of_below bd) rfl (by omega) hnm ownd (fun g hg => by have : w1.heap.size ≤ g:=ownd.own hg;omega);exact WQ.ret1 rfl rfl ⟨_,by rw [hc],by rw [hL];exact ⟨_,_,r1⟩,r2,fun b (hb : (O b ∨ w.heap.size ≤ b) ∧ _) => hb.1⟩
        · skip
          refine WL.lit1 rfl rfl rfl rfl rfl rfl (cs:=[.int .i64 ((L.length : Int) + 1),.string txt,.bool false,.slice none 0 0]) rfl rfl (by omega) (by kernel_rfl) fun gl wl fl => ?_;have cl : Below w1.heap.size w1 wl:=ca.trans (fl.below.mono ca.size);have litL:=SlV.fresh1 fl (T:=rtT) (ones4 rfl);have glL : gl < wl.heap.size:=fl.blk.lt;have ownl:=owna.keep (Keep.of_below fl.below) (fun g hg => owna.lt hg);have gne : ga ≠ gl:=by have:=fl.eq;have : ga < wa.heap.size:=owna.lt rfl;omega
          refine K.di cl ?_;refine K.wo 6 ?_;refine WL.appV rfl rfl rfl rfl elemRT rfl ownl rfl (src cl) (by omega) (by omega) fun vb wb ob gb => ?_;have cb : Below w1.heap.size w1 wb:=cl.trans (gb.old cl.size fun g hg => ownl.own hg);have ownb : OwnV rtT 4 wb (fun b => w1.heap.size ≤ b) vb L.length cells:=by
            rw [Nat.zero_add,List.nil_append] at ob;exact ob.mono fun b hb => hb.elim id fun e => by have:=cl.size;omega
          have litA:=litL.keep gb.1 (fun b hb hl => ⟨hl,fun e => gne ((Option.some.inj e).trans hb)⟩);refine K.di cb ?_;refine K.wo 13 ?_;refine WL.appV rfl rfl rfl rfl elemRT rfl ownb rfl litA (by omega) (by omega) fun vd wd od gd => ?_;have cd : Below w1.heap.size w1 wd:=cb.trans (gd.old cb.size fun g hg => ownb.own hg);have ownd : OwnV rtT 4 wd (fun b => w1.heap.size ≤ b) vd (L.length + 1) (cells ++ [.int .i64 ((L.length : Int) + 1),.string txt,.bool false,.slice none 0 0]):=od.mono fun b hb => hb.elim id fun e => by have:=cb.size;omega
          refine K.dl ?_
          (refine K.fzl 14 rfl (q:=?_);refine K.fzl 15 rfl (q:=?_))
          refine K.wo 16 ?_;have hlt:=h.lt _ h.rc;have bd:=b1.trans (cd.mono z1);have cvd : wd.cell? ⟨rc,0,none⟩ = some (.slice sp0 L.length cap0):=(cd.cell (p:=⟨rc,0,none⟩) (show rc < w1.heap.size by omega)).trans cv;refine WL.store rfl rfl rfl rfl rfl (OwnV.one ownd) (by kernel_rfl) cvd (VBlk.free (h1.below cd |>.vb) 0) ?_;refine K.dl ?_;refine WD.done (by kernel_rfl) ?_;refine K.kgo ?_;obtain ⟨r1,r2⟩:=h.push (w0:=w) (Keep.of_below bd) rfl (by omega) hnm ownd (fun g hg => by have : w1.heap.size ≤ g:=ownd.own hg;omega);exact WQ.ret1 rfl rfl ⟨_,by rw [hc],by rw [hL];exact ⟨_,_,r1⟩,r2,fun b (hb : (O b ∨ w.heap.size ≤ b) ∧ _) => hb.1⟩
      · skip
        refine WL.lit1 rfl rfl rfl rfl rfl rfl (cs:=[.int .i64 ((L.length : Int) + 1),.string txt,.bool false,.slice none 0 0]) rfl rfl (by omega) (by kernel_rfl) fun gl wl fl => ?_;have cl : Below w1.heap.size w1 wl:=c3.trans (fl.below.mono c3.size);have litL:=SlV.fresh1 fl (T:=rtT) (ones4 rfl);have glL : gl < wl.heap.size:=fl.blk.lt;refine K.di cl ?_;refine K.wo 1 ?_;refine WL.empty rfl rfl rfl rfl rfl fun ga wa fa => ?_;have ca : Below w1.heap.size w1 wa:=cl.trans (fa.below.mono cl.size);have owna : OwnV rtT 4 wa (fun b => w1.heap.size ≤ b) (.slice (some ⟨ga,0,none⟩) 0 0) 0 []:=OwnV.fresh fa (fun u hu => absurd hu List.not_mem_nil) (by simp) (by omega) (by have:=fa.eq;have:=cl.size;omega);have litE:=litL.keep (Keep.of_below fa.below) (fun b _ hb => hb);have gne : ga ≠ gl:=by have:=fa.eq;omega
        have glE : gl < wa.heap.size:=Nat.lt_of_lt_of_le glL fa.below.size;refine K.di ca ?_;refine K.wo 6 ?_;refine WL.appV rfl rfl rfl rfl elemRT rfl owna rfl (src ca) (by omega) (by omega) fun vb wb ob gb => ?_;have cb : Below w1.heap.size w1 wb:=ca.trans (gb.old ca.size fun g hg => owna.own hg);have ownb : OwnV rtT 4 wb (fun b => w1.heap.size ≤ b) vb L.length cells:=by
          rw [Nat.zero_add,List.nil_append] at ob;exact ob.mono fun b hb => hb.elim id fun e => by have:=ca.size;omega
        have litA:=litE.keep gb.1 (fun b hb hl => ⟨hl,fun e => gne ((Option.some.inj e).trans hb)⟩);refine K.di cb ?_;refine K.wo 13 ?_;refine WL.appV rfl rfl rfl rfl elemRT rfl ownb rfl litA (by omega) (by omega) fun vd wd od gd => ?_;have cd : Below w1.heap.size w1 wd:=cb.trans (gd.old cb.size fun g hg => ownb.own hg);have ownd : OwnV rtT 4 wd (fun b => w1.heap.size ≤ b) vd (L.length + 1) (cells ++ [.int .i64 ((L.length : Int) + 1),.string txt,.bool false,.slice none 0 0]):=od.mono fun b hb => hb.elim id fun e => by have:=cb.size;omega
        refine K.dl ?_
        (refine K.fzl 14 rfl (q:=?_);refine K.fzl 15 rfl (q:=?_))
        refine K.wo 16 ?_;have hlt:=h.lt _ h.rc;have bd:=b1.trans (cd.mono z1);have cvd : wd.cell? ⟨rc,0,none⟩ = some (.slice sp0 L.length cap0):=(cd.cell (p:=⟨rc,0,none⟩) (show rc < w1.heap.size by omega)).trans cv;refine WL.store rfl rfl rfl rfl rfl (OwnV.one ownd) (by kernel_rfl) cvd (VBlk.free (h1.below cd |>.vb) 0) ?_;refine K.dl ?_;refine WD.done (by kernel_rfl) ?_;refine K.kgo ?_;obtain ⟨r1,r2⟩:=h.push (w0:=w) (Keep.of_below bd) rfl (by omega) hnm ownd (fun g hg => by have : w1.heap.size ≤ g:=ownd.own hg;omega);exact WQ.ret1 rfl rfl ⟨_,by rw [hc],by rw [hL];exact ⟨_,_,r1⟩,r2,fun b (hb : (O b ∨ w.heap.size ≤ b) ∧ _) => hb.1⟩
  · refine K.kgl ?_
    refine WC.drawn 14 (fun wx => Below w1.heap.size w1 wx) fun w2 hd => ?_;have hS : Below w1.heap.size w1 w2:=hd.below _;have kc : ∀ {wx : World},Below w1.heap.size w1 wx → wx.cell? ⟨rc,0,none⟩ = some (.slice sp0 L.length cap0):=fun hx => (hx.cell (p:=⟨rc,0,none⟩) (show rc < w1.heap.size by have:=h.lt _ h.rc;omega)).trans cv;have k2 : ∀ {wx : World},Below w1.heap.size w1 wx → wx.cell? ⟨ge,2,none⟩ = some (.int .i64 tbl):=fun hx => (hx.cell (p:=⟨ge,2,none⟩) (show ge < w1.heap.size by omega)).trans e2;refine K.fr [0,2,3,4] hS ?_;refine K.wl 1 [8,9,13,14] rfl rfl rfl rfl rfl rfl rfl (fun wx hx => k2 hx) hS ?_;refine K.wl 5 [6,7,8,9,13,14] rfl rfl rfl rfl rfl rfl rfl (fun wx hx => kc hx) hS ?_;refine K.fr [6,7,8,9,10,11,12,13] hS ?_;refine K.wo 14 ?_;refine K.kgo ?_;refine WQ.dk (.inl rfl) ?_;refine WD.done (by kernel_rfl) ?_;refine K.kgo ?_;exact WQ.ret1 rfl rfl (RApp.no (by unfold appC;rw [if_pos rfl,if_neg g64,if_pos (.inl ht)]) (by omega) h0 (b1.trans (hS.mono z1)))
set_option maxHeartbeats 4000000 in
theorem rapply_drop {w : World} {rc : Nat} {O : Nat → Prop} {L : List Tb} {cs : Array Value} {txt : ByteArray} {tbl : Int} (h0 : RCat w rc O L) (hE : Ent cs 6 txt tbl) :
    Calls Tryz.prog 64 #[.pointer (some ⟨rc,0,none⟩),.agg cs] w (RApp w rc O L 6 txt tbl):=by
  obtain ⟨tv,cells,h⟩:=id h0;have hlen:=h.good.len;refine enter (args:=[.pointer (some ⟨rc,0,none⟩),.agg cs]) Tryz.func64 rfl Tryz.ntmps64 rfl ?_;refine K.kgn ?_;refine WL.box rfl rfl rfl rfl rfl fun ge w1 f1 => ?_;have b1 : Below w.heap.size w w1:=f1.below;obtain ⟨e0,e1,e2⟩:=ent_at hE f1.blk;have eg:=f1.eq;have ez:=f1.size;clear f1;have h1:=h.below b1;have z1:=b1.size;refine K.kgl ?_;refine WL.call rfl rfl rfl rfl rfl Tryz.func88 rfl (by kernel_rfl) (rthere_any h1 tbl) ?_;rintro _ w1' ⟨rfl,⟨ht,rfl⟩ | ⟨k,g,cap,hk,rfl,ht,hnd,rfl,rfl⟩⟩
  · refine ⟨_,rfl,?_⟩
    refine K.kgo ?_;refine WL.nilP rfl rfl rfl rfl rfl rfl (by kernel_rfl) ?_;refine K.kgo ?_;exact WQ.ret1 rfl rfl (RApp.no (by unfold appC;rw [if_neg (by omega),if_pos rfl,if_neg (by rw [ht];simp)]) (by omega) h0 b1)
  · refine ⟨_,rfl,?_⟩
    have hc : appC L 6 txt ((k : Int) + 1) = 0:=by unfold appC;rw [if_neg (by omega),if_pos rfl,if_pos ht]
    have hL : appL L 6 txt ((k : Int) + 1) = L.set k ⟨(L.getD k noTb).name,true,[]⟩:=by unfold appL;rw [if_pos hc,if_neg (by omega),if_pos rfl,show ((k : Int) + 1 - 1).toNat = k by omega]
    obtain ⟨g',cap',es,-,-,hg1,hOg,d0,d1,d2,sp,c,d3,hown⟩:=tab_cells h1.own hk (h1.tab k hk);obtain ⟨rfl,rfl⟩ : g = g' ∧ cap = cap':=by simpa using es
    clear es;have hl:=h1.own.len;have hbk:=h.good.each k hk;have o1:=OwnV.stored h1.own (k * 4 + 2) (u:=.bool true) rfl;have o2:=OwnV.stored o1 (k * 4 + 3) (u:=.slice none 0 0) rfl;refine K.kgo ?_;refine WL.nilP rfl rfl rfl rfl rfl rfl (by kernel_rfl) ?_;refine K.kgo ?_;refine WL.store rfl rfl rfl rfl rfl rfl (by kernel_rfl) d2 (OwnV.free h1.own _) ?_;have d3' : (w1'.setCell ⟨g,k * 4 + 2,none⟩ (.bool true)).cell? ⟨g,k * 4 + 3,none⟩ = some (.slice sp (L.getD k noTb).fs.length c):=by
      rw [OwnV.at o1 (k * 4 + 3) (by rw [List.length_set];omega)];rw [OwnV.at h1.own (k * 4 + 3) (by omega)] at d3;rw [Cat.getD_set_ne _ _ _ _ _ (by omega)];exact d3
    refine K.kgo ?_;refine WL.store rfl rfl rfl rfl rfl rfl (by kernel_rfl) d3' (OwnV.free o1 _) ?_;refine K.kgo ?_;have hb : ∀ b,b < w1'.heap.size → b ≠ g → ((w1'.setCell ⟨g,k * 4 + 2,none⟩ (.bool true)).setCell ⟨g,k * 4 + 3,none⟩ (.slice none 0 0)).heap[b]? = w1'.heap[b]?:=fun b _ hne => by
      rw [Below.heap_setCell _ _ _ b hne,Below.heap_setCell _ _ _ b hne]
    have R:=h1.place (O':=O) (t:=⟨(L.getD k noTb).name,true,[]⟩) hk hb o2 (fun _ hh => hh) (fun b hh => by simp;exact h1.lt b hh) (fun i hi j hj => by
      rw [Cat.getD_set_ne _ _ _ _ _ (by omega),Cat.getD_set_ne _ _ _ _ _ (by omega)]) ?_ (Cat.good_set h.good hbk.1 (by simp) (by simp) (by simp))
    · refine WQ.ret1 rfl rfl ⟨O,by rw [hc],by rw [hL];exact ⟨_,_,R⟩,?_,fun b hh => .inl hh⟩
      exact Keep.setCell (Keep.setCell ((Keep.of_below b1).mono fun b hh => hh.1) (fun hh => hh.2 hOg) _) (fun hh => hh.2 hOg) _
    · obtain ⟨i0,i1,i2,i3⟩:=h1.tab k hk
      refine ⟨?_,?_,?_,?_⟩
      · rw [Cat.getD_set_ne _ _ _ _ _ (by omega),Cat.getD_set_ne _ _ _ _ _ (by omega)];exact i0
      · rw [Cat.getD_set_ne _ _ _ _ _ (by omega),Cat.getD_set_ne _ _ _ _ _ (by omega)];exact i1
      · rw [Cat.getD_set_ne _ _ _ _ _ (by omega),Cat.getD_set_eq _ _ _ _ (by omega)]
      · rw [Cat.getD_set_eq _ _ _ _ (by rw [List.length_set];omega)];exact OwnV.nil _ _ _ _
set_option maxHeartbeats 4000000 in
theorem rapply_index {w : World} {rc : Nat} {O : Nat → Prop} {L : List Tb} {cs : Array Value} {txt : ByteArray} {tbl : Int} (h0 : RCat w rc O L) (hE : Ent cs 7 txt tbl) :
    Calls Tryz.prog 64 #[.pointer (some ⟨rc,0,none⟩),.agg cs] w (RApp w rc O L 7 txt tbl):=by
  obtain ⟨tv,cells,h⟩:=id h0;have hlen:=h.good.len;refine enter (args:=[.pointer (some ⟨rc,0,none⟩),.agg cs]) Tryz.func64 rfl Tryz.ntmps64 rfl ?_;refine K.kgn ?_;refine WL.box rfl rfl rfl rfl rfl fun ge w1 f1 => ?_;have b1 : Below w.heap.size w w1:=f1.below;obtain ⟨e0,e1,e2⟩:=ent_at hE f1.blk;have eg:=f1.eq;have ez:=f1.size;clear f1;have h1:=h.below b1;have z1:=b1.size;refine K.kgl ?_;refine WL.call rfl rfl rfl rfl rfl Tryz.func88 rfl (by kernel_rfl) (rthere_any h1 tbl) ?_;rintro _ w1 ⟨rfl,⟨ht,rfl⟩ | ⟨k,g,cap,hk,rfl,ht,hnd,rfl,rfl⟩⟩
  · refine ⟨_,rfl,?_⟩
    refine K.kgo ?_;refine WL.nilP rfl rfl rfl rfl rfl rfl (by kernel_rfl) ?_;refine K.kgo ?_;exact WQ.ret1 rfl rfl (RApp.no (by unfold appC;rw [if_neg (by omega),if_neg (by omega),if_pos rfl,if_pos ht]) (by omega) h0 b1)
  refine ⟨_,rfl,?_⟩;have htf : ¬ there L ((k : Int) + 1) = false:=by rw [ht];simp
  refine K.kgo ?_;refine WL.nilP rfl rfl rfl rfl rfl rfl (by kernel_rfl) ?_;refine K.kgl ?_;refine WL.call rfl rfl rfl rfl rfl Tryz.func86 rfl (by kernel_rfl) (rname_any txt w1) ?_;rintro _ w1 ⟨rfl,rfl⟩;refine ⟨_,rfl,?_⟩;cases hnm : isNm txt with
  | false =>
    refine K.kgo ?_;exact WQ.ret1 rfl rfl (RApp.no (by unfold appC;rw [if_neg (by omega),if_neg (by omega),if_pos rfl,if_neg htf,if_pos hnm]) (by omega) h0 b1)
  | true =>
  refine K.kgl ?_;refine WL.call rfl rfl rfl rfl rfl Tryz.func89 rfl (by kernel_rfl) (rhas_any ⟨_,_,h1⟩ ((k : Int) + 1) txt) ?_;rintro _ w1 ⟨rfl,rfl⟩;refine ⟨_,rfl,?_⟩;cases hhs : has L ((k : Int) + 1) txt with
  | true =>
    refine K.kgo ?_;exact WQ.ret1 rfl rfl (RApp.no (by unfold appC;rw [if_neg (by omega),if_neg (by omega),if_pos rfl,if_neg htf,if_neg (by rw [hnm];simp),if_pos hhs]) (by omega) h0 b1)
  | false =>
  have hkk : ((k : Int) + 1 - 1).toNat = k:=by omega
  obtain ⟨g',cap',es,-,-,hg1,hOg,d0,d1,d2,sp,c,d3,hown⟩:=tab_cells h1.own hk (h1.tab k hk);obtain ⟨rfl,rfl⟩ : g = g' ∧ cap = cap':=by simpa using es
  clear es;have hbk:=h.good.each k hk
  by_cases h16 : 16 ≤ (L.getD k noTb).fs.length
  · refine K.kgl ?_
    exact WQ.ret1 rfl rfl (RApp.no (by unfold appC;rw [if_neg (by omega),if_neg (by omega),if_pos rfl,if_neg htf,if_neg (by rw [hnm];simp),if_neg (by rw [hhs];simp),if_pos (by rw [hkk];exact h16)]) (by omega) h0 b1)
  have hc : appC L 7 txt ((k : Int) + 1) = 0:=by unfold appC;rw [if_neg (by omega),if_neg (by omega),if_pos rfl,if_neg htf,if_neg (by rw [hnm];simp),if_neg (by rw [hhs];simp),if_neg (by rw [hkk];exact h16)]
  have hL : appL L 7 txt ((k : Int) + 1) = L.set k ⟨(L.getD k noTb).name,(L.getD k noTb).dropped,(L.getD k noTb).fs ++ [txt]⟩:=by unfold appL;rw [if_pos hc,if_neg (by omega),if_neg (by omega),if_pos rfl,hkk]
  have htxt : txt.size ≤ 40:=by unfold isNm at hnm;simp at hnm;omega
  have hgood : Cat.Good (L.set k ⟨(L.getD k noTb).name,(L.getD k noTb).dropped,(L.getD k noTb).fs ++ [txt]⟩):=Cat.good_set h.good hbk.1 (by show ((L.getD k noTb).fs ++ [txt]).length ≤ 16;rw [List.length_append];show _ + 1 ≤ 16;omega) (fun f hf => by
    rcases List.mem_append.1 hf with hf | hf
    · exact hbk.2.2.1 f hf
    · obtain rfl : f = txt:=by simpa using hf
      exact htxt) (fun hdr => by rw [show (⟨(L.getD k noTb).name,(L.getD k noTb).dropped,(L.getD k noTb).fs ++ [txt]⟩ : Tb).dropped = (L.getD k noTb).dropped from rfl,hnd] at hdr;cases hdr)
  have htab:=h1.tab k hk;clear hbk hhs htf hnd;generalize L.getD k noTb = t at *;refine K.kgl ?_;refine WC.drawn 10 (fun wx => Below w1.heap.size w1 wx) fun w3 hd3 => ?_;have c3 : Below w1.heap.size w1 w3:=hd3.below _;have hS:=c3;clear hd3;have src : ∀ {wx : World},Below w1.heap.size w1 wx → SlV wx O 1 (.slice sp t.fs.length c) t.fs.length (t.fs.map Value.string):=fun hx => hown.slV.below hx (Nat.le_refl _);refine K.fr [0,2,3,4,7] hS ?_;refine K.wl 5 [6,10] rfl rfl rfl rfl rfl rfl rfl (fun wx hx => (hx.cell (p:=⟨g,k * 4 + 3,none⟩) hg1).trans d3) c3 ?_;refine K.wl 8 [9,10] rfl rfl rfl rfl rfl rfl rfl (fun wx hx => (hx.cell (p:=⟨ge,1,none⟩) (show ge < w1.heap.size by omega)).trans e1) c3 ?_;refine WD.two 1 9 (by kernel_rfl) rfl rfl ?_ ?_
  · skip
    refine WL.empty rfl rfl rfl rfl rfl fun ga wa fa => ?_;have ca : Below w1.heap.size w1 wa:=c3.trans (fa.below.mono c3.size);have owna : OwnV stT 1 wa (fun b => w1.heap.size ≤ b) (.slice (some ⟨ga,0,none⟩) 0 0) 0 []:=OwnV.fresh fa (fun u hu => absurd hu List.not_mem_nil) (by simp) (by omega) (by have:=fa.eq;have:=c3.size;omega);refine K.di ca ?_;refine WD.two 6 9 (by kernel_rfl) rfl rfl ?_ ?_
    · skip
      refine WL.appV rfl rfl rfl rfl elemSt rfl owna rfl (src ca) (by omega) (by omega) fun vb wb ob gb => ?_;have cb : Below w1.heap.size w1 wb:=ca.trans (gb.old ca.size fun g hg => owna.own hg);have ownb : OwnV stT 1 wb (fun b => w1.heap.size ≤ b) vb t.fs.length (t.fs.map Value.string):=by
        rw [Nat.zero_add,List.nil_append] at ob;exact ob.mono fun b hb => hb.elim id fun e => by have:=ca.size;omega
      refine K.di cb ?_;refine K.wo 9 ?_;refine WL.lit1 rfl rfl rfl rfl rfl rfl (cs:=[.string txt]) rfl rfl (by omega) (by kernel_rfl) fun gl wl fl => ?_;have cl : Below w1.heap.size w1 wl:=cb.trans (fl.below.mono cb.size);have litL:=SlV.fresh1 fl (T:=stT) (fun u hu => by simp at hu;subst hu;rfl);have glL : gl < wl.heap.size:=fl.blk.lt;have ownl:=ownb.keep (Keep.of_below fl.below) (fun g hg => ownb.lt hg)
      skip
      refine K.di cl ?_;refine K.wo 10 ?_;refine WL.appV rfl rfl rfl rfl elemSt rfl ownl rfl litL (by omega) (by omega) fun vd wd od gd => ?_;have cd : Below w1.heap.size w1 wd:=cl.trans (gd.old cl.size fun g hg => ownl.own hg);have ownd : OwnV stT 1 wd (fun b => w1.heap.size ≤ b) vd (t.fs.length + 1) ((t.fs.map Value.string) ++ [.string txt]):=od.mono fun b hb => hb.elim id fun e => by have:=cl.size;omega
      refine K.dl ?_
      (refine K.fzl 11 rfl (q:=?_);refine K.fzl 12 rfl (q:=?_))
      refine K.wo 13 ?_;have bd:=b1.trans (cd.mono z1);have hd1:=h1.below cd;have d3d : wd.cell? ⟨g,k * 4 + 3,none⟩ = some (.slice sp t.fs.length c):=(cd.cell (p:=⟨g,k * 4 + 3,none⟩) hg1).trans d3;refine WL.store rfl rfl rfl rfl rfl (OwnV.one ownd) (by kernel_rfl) d3d (OwnV.free hd1.own _) ?_;refine K.dl ?_;refine WD.done (by kernel_rfl) ?_;refine K.kgo ?_;have o1:=OwnV.stored hd1.own (k * 4 + 3) (u:=vd) (OwnV.one ownd);have R:=hd1.place (O':=fun b => (O b ∨ w.heap.size ≤ b) ∧ b < wd.heap.size) (t:=⟨t.name,t.dropped,t.fs ++ [txt]⟩) hk (fun b _ hne => Below.heap_setCell _ _ _ b hne) o1 (fun b hh => ⟨.inl hh,Nat.lt_of_lt_of_le (h.lt b hh) bd.size⟩) (fun b hh => by simp;exact hh.2) (fun i hi j hj => by rw [Cat.getD_set_ne _ _ _ _ _ (by omega)]) ?_ hgood
      · refine WQ.ret1 rfl rfl ⟨_,by rw [hc],by rw [hL];exact ⟨_,_,R⟩,?_,fun b (hh : (O b ∨ w.heap.size ≤ b) ∧ _) => hh.1⟩
        exact Keep.setCell ((Keep.of_below bd).mono fun b hh => hh.1) (fun hh => hh.2 hOg) _
      · have hl:=h1.own.len
        obtain ⟨i0,i1,i2,-⟩:=htab;refine ⟨?_,?_,?_,?_⟩
        · rw [Cat.getD_set_ne _ _ _ _ _ (by omega)];exact i0
        · rw [Cat.getD_set_ne _ _ _ _ _ (by omega)];exact i1
        · rw [Cat.getD_set_ne _ _ _ _ _ (by omega)];exact i2
        · rw [Cat.getD_set_eq _ _ _ _ (by omega)]
          have e : (⟨t.name,t.dropped,t.fs ++ [txt]⟩ : Tb).fs.length = t.fs.length + 1:=by simp
          rw [e,show (⟨t.name,t.dropped,t.fs ++ [txt]⟩ : Tb).fs.map Value.string = t.fs.map Value.string ++ [.string txt] by simp];refine (OwnV.of_block (w:=wd) (w':=wd.setCell ⟨g,k * 4 + 3,none⟩ vd) ⟨ownd.1,ownd.2.1,fun b hb => ⟨.inr (by have : w1.heap.size ≤ b:=ownd.own hb;omega),ownd.lt hb⟩⟩ fun b hb => Below.heap_setCell _ _ _ b ?_);have : w1.heap.size ≤ b:=ownd.own hb
          show b ≠ g
          omega
    · skip
      refine WL.lit1 rfl rfl rfl rfl rfl rfl (cs:=[.string txt]) rfl rfl (by omega) (by kernel_rfl) fun gl wl fl => ?_;have cl : Below w1.heap.size w1 wl:=ca.trans (fl.below.mono ca.size);have litL:=SlV.fresh1 fl (T:=stT) (fun u hu => by simp at hu;subst hu;rfl);have glL : gl < wl.heap.size:=fl.blk.lt;have ownl:=owna.keep (Keep.of_below fl.below) (fun g hg => owna.lt hg);have gne : ga ≠ gl:=by have:=fl.eq;have : ga < wa.heap.size:=owna.lt rfl;omega
      refine K.di cl ?_;refine K.wo 6 ?_;refine WL.appV rfl rfl rfl rfl elemSt rfl ownl rfl (src cl) (by omega) (by omega) fun vb wb ob gb => ?_;have cb : Below w1.heap.size w1 wb:=cl.trans (gb.old cl.size fun g hg => ownl.own hg);have ownb : OwnV stT 1 wb (fun b => w1.heap.size ≤ b) vb t.fs.length (t.fs.map Value.string):=by
        rw [Nat.zero_add,List.nil_append] at ob;exact ob.mono fun b hb => hb.elim id fun e => by have:=cl.size;omega
      have litA:=litL.keep gb.1 (fun b hb hl => ⟨hl,fun e => gne ((Option.some.inj e).trans hb)⟩);refine K.di cb ?_;refine K.wo 10 ?_;refine WL.appV rfl rfl rfl rfl elemSt rfl ownb rfl litA (by omega) (by omega) fun vd wd od gd => ?_;have cd : Below w1.heap.size w1 wd:=cb.trans (gd.old cb.size fun g hg => ownb.own hg);have ownd : OwnV stT 1 wd (fun b => w1.heap.size ≤ b) vd (t.fs.length + 1) ((t.fs.map Value.string) ++ [.string txt]):=od.mono fun b hb => hb.elim id fun e => by have:=cb.size;omega
      refine K.dl ?_
      (refine K.fzl 11 rfl (q:=?_);refine K.fzl 12 rfl (q:=?_))
      refine K.wo 13 ?_;have bd:=b1.trans (cd.mono z1);have hd1:=h1.below cd;have d3d : wd.cell? ⟨g,k * 4 + 3,none⟩ = some (.slice sp t.fs.length c):=(cd.cell (p:=⟨g,k * 4 + 3,none⟩) hg1).trans d3;refine WL.store rfl rfl rfl rfl rfl (OwnV.one ownd) (by kernel_rfl) d3d (OwnV.free hd1.own _) ?_;refine K.dl ?_;refine WD.done (by kernel_rfl) ?_;refine K.kgo ?_;have o1:=OwnV.stored hd1.own (k * 4 + 3) (u:=vd) (OwnV.one ownd);have R:=hd1.place (O':=fun b => (O b ∨ w.heap.size ≤ b) ∧ b < wd.heap.size) (t:=⟨t.name,t.dropped,t.fs ++ [txt]⟩) hk (fun b _ hne => Below.heap_setCell _ _ _ b hne) o1 (fun b hh => ⟨.inl hh,Nat.lt_of_lt_of_le (h.lt b hh) bd.size⟩) (fun b hh => by simp;exact hh.2) (fun i hi j hj => by rw [Cat.getD_set_ne _ _ _ _ _ (by omega)]) ?_ hgood
      · refine WQ.ret1 rfl rfl ⟨_,by rw [hc],by rw [hL];exact ⟨_,_,R⟩,?_,fun b (hh : (O b ∨ w.heap.size ≤ b) ∧ _) => hh.1⟩
        exact Keep.setCell ((Keep.of_below bd).mono fun b hh => hh.1) (fun hh => hh.2 hOg) _
      · have hl:=h1.own.len
        obtain ⟨i0,i1,i2,-⟩:=htab;refine ⟨?_,?_,?_,?_⟩
        · rw [Cat.getD_set_ne _ _ _ _ _ (by omega)];exact i0
        · rw [Cat.getD_set_ne _ _ _ _ _ (by omega)];exact i1
        · rw [Cat.getD_set_ne _ _ _ _ _ (by omega)];exact i2
        · rw [Cat.getD_set_eq _ _ _ _ (by omega)]
          have e : (⟨t.name,t.dropped,t.fs ++ [txt]⟩ : Tb).fs.length = t.fs.length + 1:=by simp
          rw [e,show (⟨t.name,t.dropped,t.fs ++ [txt]⟩ : Tb).fs.map Value.string = t.fs.map Value.string ++ [.string txt] by simp];refine (OwnV.of_block (w:=wd) (w':=wd.setCell ⟨g,k * 4 + 3,none⟩ vd) ⟨ownd.1,ownd.2.1,fun b hb => ⟨.inr (by have : w1.heap.size ≤ b:=ownd.own hb;omega),ownd.lt hb⟩⟩ fun b hb => Below.heap_setCell _ _ _ b ?_);have : w1.heap.size ≤ b:=ownd.own hb
          show b ≠ g
          omega
  · skip
    refine WL.lit1 rfl rfl rfl rfl rfl rfl (cs:=[.string txt]) rfl rfl (by omega) (by kernel_rfl) fun gl wl fl => ?_;have cl : Below w1.heap.size w1 wl:=c3.trans (fl.below.mono c3.size);have litL:=SlV.fresh1 fl (T:=stT) (fun u hu => by simp at hu;subst hu;rfl);have glL : gl < wl.heap.size:=fl.blk.lt;refine K.di cl ?_;refine K.wo 1 ?_;refine WL.empty rfl rfl rfl rfl rfl fun ga wa fa => ?_;have ca : Below w1.heap.size w1 wa:=cl.trans (fa.below.mono cl.size);have owna : OwnV stT 1 wa (fun b => w1.heap.size ≤ b) (.slice (some ⟨ga,0,none⟩) 0 0) 0 []:=OwnV.fresh fa (fun u hu => absurd hu List.not_mem_nil) (by simp) (by omega) (by have:=fa.eq;have:=cl.size;omega);have litE:=litL.keep (Keep.of_below fa.below) (fun b _ hb => hb);have gne : ga ≠ gl:=by have:=fa.eq;omega
    have glE : gl < wa.heap.size:=Nat.lt_of_lt_of_le glL fa.below.size;refine K.di ca ?_;refine K.wo 6 ?_;refine WL.appV rfl rfl rfl rfl elemSt rfl owna rfl (src ca) (by omega) (by omega) fun vb wb ob gb => ?_;have cb : Below w1.heap.size w1 wb:=ca.trans (gb.old ca.size fun g hg => owna.own hg);have ownb : OwnV stT 1 wb (fun b => w1.heap.size ≤ b) vb t.fs.length (t.fs.map Value.string):=by
      rw [Nat.zero_add,List.nil_append] at ob;exact ob.mono fun b hb => hb.elim id fun e => by have:=ca.size;omega
    have litA:=litE.keep gb.1 (fun b hb hl => ⟨hl,fun e => gne ((Option.some.inj e).trans hb)⟩);refine K.di cb ?_;refine K.wo 10 ?_;refine WL.appV rfl rfl rfl rfl elemSt rfl ownb rfl litA (by omega) (by omega) fun vd wd od gd => ?_;have cd : Below w1.heap.size w1 wd:=cb.trans (gd.old cb.size fun g hg => ownb.own hg);have ownd : OwnV stT 1 wd (fun b => w1.heap.size ≤ b) vd (t.fs.length + 1) ((t.fs.map Value.string) ++ [.string txt]):=od.mono fun b hb => hb.elim id fun e => by have:=cb.size;omega
    refine K.dl ?_
    (refine K.fzl 11 rfl (q:=?_);refine K.fzl 12 rfl (q:=?_))
    refine K.wo 13 ?_;have bd:=b1.trans (cd.mono z1);have hd1:=h1.below cd;have d3d : wd.cell? ⟨g,k * 4 + 3,none⟩ = some (.slice sp t.fs.length c):=(cd.cell (p:=⟨g,k * 4 + 3,none⟩) hg1).trans d3;refine WL.store rfl rfl rfl rfl rfl (OwnV.one ownd) (by kernel_rfl) d3d (OwnV.free hd1.own _) ?_;refine K.dl ?_;refine WD.done (by kernel_rfl) ?_;refine K.kgo ?_;have o1:=OwnV.stored hd1.own (k * 4 + 3) (u:=vd) (OwnV.one ownd);have R:=hd1.place (O':=fun b => (O b ∨ w.heap.size ≤ b) ∧ b < wd.heap.size) (t:=⟨t.name,t.dropped,t.fs ++ [txt]⟩) hk (fun b _ hne => Below.heap_setCell _ _ _ b hne) o1 (fun b hh => ⟨.inl hh,Nat.lt_of_lt_of_le (h.lt b hh) bd.size⟩) (fun b hh => by simp;exact hh.2) (fun i hi j hj => by rw [Cat.getD_set_ne _ _ _ _ _ (by omega)]) ?_ hgood
    · refine WQ.ret1 rfl rfl ⟨_,by rw [hc],by rw [hL];exact ⟨_,_,R⟩,?_,fun b (hh : (O b ∨ w.heap.size ≤ b) ∧ _) => hh.1⟩
      exact Keep.setCell ((Keep.of_below bd).mono fun b hh => hh.1) (fun hh => hh.2 hOg) _
    · have hl:=h1.own.len
      obtain ⟨i0,i1,i2,-⟩:=htab;refine ⟨?_,?_,?_,?_⟩
      · rw [Cat.getD_set_ne _ _ _ _ _ (by omega)];exact i0
      · rw [Cat.getD_set_ne _ _ _ _ _ (by omega)];exact i1
      · rw [Cat.getD_set_ne _ _ _ _ _ (by omega)];exact i2
      · rw [Cat.getD_set_eq _ _ _ _ (by omega)]
        have e : (⟨t.name,t.dropped,t.fs ++ [txt]⟩ : Tb).fs.length = t.fs.length + 1:=by simp
        rw [e,show (⟨t.name,t.dropped,t.fs ++ [txt]⟩ : Tb).fs.map Value.string = t.fs.map Value.string ++ [.string txt] by simp];refine (OwnV.of_block (w:=wd) (w':=wd.setCell ⟨g,k * 4 + 3,none⟩ vd) ⟨ownd.1,ownd.2.1,fun b hb => ⟨.inr (by have : w1.heap.size ≤ b:=ownd.own hb;omega),ownd.lt hb⟩⟩ fun b hb => Below.heap_setCell _ _ _ b ?_);have : w1.heap.size ≤ b:=ownd.own hb
        show b ≠ g
        omega
theorem rapply_other {w : World} {rc : Nat} {O : Nat → Prop} {L : List Tb} {cs : Array Value} {kind : Int} {txt : ByteArray} {tbl : Int} (h0 : RCat w rc O L) (hE : Ent cs kind txt tbl) (h5 : kind ≠ 5) (h6 : kind ≠ 6) (h7 : kind ≠ 7) :
    Calls Tryz.prog 64 #[.pointer (some ⟨rc,0,none⟩),.agg cs] w (RApp w rc O L kind txt tbl):=by
  obtain ⟨tv,cells,h⟩:=id h0;refine enter (args:=[.pointer (some ⟨rc,0,none⟩),.agg cs]) Tryz.func64 rfl Tryz.ntmps64 rfl ?_;refine K.kgn ?_;refine WL.box rfl rfl rfl rfl rfl fun ge w1 f1 => ?_;have b1 : Below w.heap.size w w1:=f1.below;obtain ⟨e0,e1,e2⟩:=ent_at hE f1.blk;have eg:=f1.eq;have ez:=f1.size;clear f1;have h1:=h.below b1;have z1:=b1.size;refine K.kgl ?_;have hc : appC L kind txt tbl = 0:=by unfold appC;rw [if_neg h5,if_neg h6,if_neg h7]
  exact WQ.ret1 rfl rfl ⟨O,by rw [hc],by unfold appL;rw [if_pos hc,if_neg h5,if_neg h6,if_neg h7];exact ⟨_,_,h1⟩,(Keep.of_below b1).mono fun b hh => hh.1,fun b hh => .inl hh⟩
theorem rapply_any {w : World} {rc : Nat} {O : Nat → Prop} {L : List Tb} {cs : Array Value} {kind : Int} {txt : ByteArray} {tbl : Int} (h0 : RCat w rc O L) (hE : Ent cs kind txt tbl) :
    Calls Tryz.prog 64 #[.pointer (some ⟨rc,0,none⟩),.agg cs] w (RApp w rc O L kind txt tbl):=by
  by_cases h5 : kind = 5
  · subst h5;exact rapply_table h0 hE
  by_cases h6 : kind = 6
  · subst h6;exact rapply_drop h0 hE
  by_cases h7 : kind = 7
  · subst h7;exact rapply_index h0 hE
  exact rapply_other h0 hE h5 h6 h7
end Cr
namespace Cr
open K Cat
theorem vb_ne {w : World} {a b T T' : Nat} {cs : List Value} {cs' : Array Value} (h : VBlk T w a cs) (h' : w.heap[b]? = some (.cells cs' T' (0,0))) (hne : T' ≠ T) : b ≠ a:=fun e => by
  have hv : w.heap[a]? = some (.cells cs.toArray T (0,0)):=h;rw [e,hv] at h'
  injection h' with h'
  injection h' with _ h' _
  exact hne h'.symm
theorem RC.snoc {w w' : World} {rc : Nat} {O O' : Nat → Prop} {L : List Tb} {tv tv' fv : Value} {cells : List Value} {t : Tb} (h : RC w rc O L tv cells) (hk : Keep (fun b => b < w.heap.size ∧ tv.ownBlock ≠ some b) w w') (hO : ∀ b,O b → O' b) (hlt : ∀ b,O' b → b < w'.heap.size)
    (ho : OwnV rtT 4 w' O' tv' (L.length + 1) (cells ++ [.int .i64 ((L.length + 1 : Nat) : Int),.string t.name,.bool t.dropped,fv])) (hf : OwnV stT 1 w' O' fv t.fs.length (t.fs.map Value.string)) (hg : Cat.Good (L ++ [t])) :
    RC (w'.setCell ⟨rc,0,none⟩ tv') rc O' (L ++ [t]) tv' (cells ++ [.int .i64 ((L.length + 1 : Nat) : Int),.string t.name,.bool t.dropped,fv]):=by
  have hl:=h.own.len;have hrc:=h.lt _ h.rc;have hrn : tv.ownBlock ≠ some rc:=fun e => by obtain ⟨cur,hc⟩:=h.own.tag e;exact vb_ne h.vb hc (by decide) rfl
  have vb' : VBlk rcT w' rc [tv]:=h.vb.keep hk ⟨hrc,hrn⟩;have hown : ∀ {e : Nat} {m : Nat} {v : Value} {n : Nat} {l : List Value},e ≠ rcT → OwnV e m w' O' v n l → OwnV e m (w'.setCell ⟨rc,0,none⟩ tv') O' v n l:=fun hne hh => hh.of_block fun b hb => Below.heap_setCell w' _ _ b (by obtain ⟨cur,hc⟩:=hh.tag hb;exact vb_ne vb' hc hne);refine ⟨vb'.set 0 tv',?_,fun i hi => ?_,hO _ h.rc,fun b hb => by simp;exact hlt b hb,hg⟩
  · rw [show (L ++ [t]).length = L.length + 1 by simp]
    exact hown (by decide) ho
  · by_cases hlt : i < L.length
    · rw [Cat.getD_left _ _ _ _ hlt]
      refine (((h.tab i hlt).of_block fun b hb ⟨cur,hc⟩ => ?_).left (by omega)).mono hO;have n1 : b ≠ rc:=vb_ne h.vb hc (by decide);rw [Below.heap_setCell w' _ _ b n1];refine hk.block b ⟨h.lt b hb,fun e => ?_⟩;obtain ⟨cur2,hc2⟩:=h.own.tag e;rw [hc2] at hc
      injection hc with hc
      injection hc with _ hc _
      exact absurd hc (by decide)
    · obtain rfl : i = L.length:=by simp at hi;omega
      have e : (L ++ [t]).getD L.length noTb = t:=by simp
      rw [e];exact IsTab.last hl (hown (by decide) hf)
theorem take_getD {L : List Tb} {i : Nat} (hi : i < L.length) : L.take (i + 1) = L.take i ++ [L.getD i noTb]:=by
  rw [List.take_add_one,List.getD_eq_getElem?_getD,List.getElem?_eq_getElem hi];rfl
theorem good_take {L : List Tb} (h : Cat.Good L) (i : Nat) : Cat.Good (L.take i) :=
  ⟨by rw [List.length_take];have:=h.len;omega,fun j hj => by
    rw [List.length_take] at hj;have e : (L.take i).getD j noTb = L.getD j noTb:=by rw [List.getD_eq_getElem?_getD,List.getD_eq_getElem?_getD,List.getElem?_take_of_lt (by omega)]
    rw [e];exact h.each j (by omega)⟩
theorem builtRC : Tryz.prog.built rcT [] = some [Value.slice none 0 0].toArray:=by kernel_rfl
set_option maxHeartbeats 4000000 in
theorem rcopy_cat {w : World} {rc : Nat} {O : Nat → Prop} {L : List Tb} (h0 : RCat w rc O L) : Calls Tryz.prog 51 #[.pointer (some ⟨rc,0,none⟩)] w fun e w' => ∃ rc' O',e = .returned (.pointer (some ⟨rc',0,none⟩)) ∧ RCat w' rc' O' L ∧ Below w.heap.size w w' ∧ ∀ b,O' b → w.heap.size ≤ b:=by
  obtain ⟨tv,cells,h⟩:=id h0;have hlen:=h.good.len;obtain ⟨sp0,cap0,rfl,-,-⟩:=h.own.slice;refine enter (args:=[.pointer (some ⟨rc,0,none⟩)]) Tryz.func51 rfl Tryz.ntmps51 rfl ?_;refine K.kgo ?_;refine WL.build [Value.slice none 0 0] rfl rfl rfl rfl rfl builtRC ?_;refine WL.box rfl rfl rfl rfl rfl fun ob w1 f1 => ?_;have b1:=f1.below;have eo:=f1.eq;have R1 : RC w1 ob (fun b => b = ob) [] (.slice none 0 0) []:=⟨f1.blk,OwnV.nil _ _ _ _,fun i hi => absurd hi (Nat.not_lt_zero i),rfl,fun b hb => by rw [hb];exact f1.blk.lt,⟨by simp,fun i hi => absurd hi (Nat.not_lt_zero i)⟩⟩;clear f1;refine K.kgo ?_;refine WC.loop (fun i : Nat => [(0,.pointer (some ⟨rc,0,none⟩)),(3,.pointer (some ⟨ob,0,none⟩)),(4,.int .i64 i)]) (fun i w' => i ≤ L.length ∧ Below w.heap.size w w' ∧ ∃ O' tv' cells',RC w' ob O' (L.take i) tv' cells' ∧ ∀ b,O' b → w.heap.size ≤ b) (fun i => L.length - i) 0 ⟨rfl,rfl,rfl,trivial⟩
    ⟨Nat.zero_le _,b1,_,_,_,R1,fun b hb => by rw [hb];omega⟩ ?_
  clear R1 b1 w1;rintro i w1 ⟨hi,b1,O1,tv1,cells1,h1,ho1⟩;have hs:=h.below b1;have cv:=hs.vb.cell 0 (by simp);simp only [List.getD_cons_zero] at cv;have z1:=b1.size
  by_cases hk : i < L.length
  · obtain ⟨g',cap,es,-,-,-,-,c0,c1,c2,sp,c,c3,hown⟩:=tab_cells hs.own hk (hs.tab i hk)
    obtain ⟨rfl,rfl⟩ : sp0 = some ⟨g',0,none⟩ ∧ cap0 = cap:=by simpa using es
    clear es;have hlt : (L.take i).length = i:=by rw [List.length_take];omega
    have hgood:=good_take h.good (i + 1);rw [take_getD hk] at hgood;have ht:=take_getD hk;have hfs:=(h.good.each i hk).2.1;generalize L.getD i noTb = t at c0 c1 c2 c3 hown hgood ht hfs;refine K.kgl ?_;refine WL.idx i (i * 4) rfl rfl rfl rfl rfl rfl rfl rfl hk (by omega) ?_;refine WL.loadMid rfl rfl rfl rfl rfl rfl (range4 c0 c1 c2 c3) rfl ?_;refine WL.alloc (z:=.agg zTab.toArray) rfl rfl rfl rfl zeroRT fun g5 w2 f5 => ?_;refine WL.storeRow rfl rfl rfl rfl rfl rfl f5.blk rfl rfl (ones4 rfl) ?_;obtain ⟨row,hrow⟩ : ∃ row,row = [Value.int .i64 ((i + 1 : Nat) : Int),.string t.name,.bool t.dropped,.slice sp t.fs.length c]:=⟨_,rfl⟩;rw [← hrow];have e5:=f5.eq;have v3:=f5.blk.setRow row;have k3 : Below w1.heap.size w1 (w2.setRow g5 row.toArray):=(keepRow (Keep.of_below f5.below) (fun hh => by omega) _).below;have z3 : g5 < (w2.setRow g5 row.toArray).heap.size:=VBlk.lt v3;generalize w2.setRow g5 row.toArray = w3 at v3 k3 z3 ⊢;clear f5;have cf : w3.cell? ⟨g5,3,none⟩ = some (.slice sp t.fs.length c):=by rw [v3.cell 3 (by rw [hrow];simp),hrow];rfl
    refine K.kgo ?_;refine WL.empty rfl rfl rfl rfl rfl fun ga w4 fa => ?_;have cf4:=(fa.below.cell (p:=⟨g5,3,none⟩) z3).trans cf;have v4:=v3.below fa.below z3;have k4:=k3.trans (fa.below.mono k3.size);have owna : OwnV stT 1 w4 (fun b => w1.heap.size ≤ b ∧ b ≠ g5) (.slice (some ⟨ga,0,none⟩) 0 0) 0 []:=OwnV.fresh fa (fun u hu => absurd hu List.not_mem_nil) (by simp) (by omega) (by have:=fa.eq;have:=k3.size;exact ⟨by omega,by omega⟩);refine K.kgl ?_;refine WL.appV rfl rfl rfl rfl elemSt rfl owna rfl (hown.slV.below k4 (Nat.le_refl _)) (by omega) (by omega) fun vb w5 ob5 gb => ?_;have k5:=k4.trans (gb.old k4.size fun g hg => (owna.own hg).1);have v5:=v4.keep gb.1 ⟨v4.lt,fun e => (owna.own e).2 rfl⟩;have own5 : OwnV stT 1 w5 (fun b => w1.heap.size ≤ b ∧ b ≠ g5) vb t.fs.length (t.fs.map Value.string):=by
      rw [Nat.zero_add,List.nil_append] at ob5;refine ob5.mono fun b hb => hb.elim id fun e => ?_;have:=k4.size;have:=VBlk.lt v4;exact ⟨by omega,by omega⟩
    have cf5 : w5.cell? ⟨g5,3,none⟩ = some (.slice sp t.fs.length c):=by rw [v5.cell 3 (by rw [hrow];simp),hrow];rfl
    clear fa cf4 ob5 gb v3 v4 k3 cf;refine K.kgo ?_;refine WL.store rfl rfl rfl rfl rfl (OwnV.one own5) (by kernel_rfl) cf5 (VBlk.free v5 3) ?_;have v6:=v5.set 3 vb;have k6 : Below w1.heap.size w1 (w5.setCell ⟨g5,3,none⟩ vb):=(Keep.setCell (Keep.of_below k5) (fun (hh : g5 < w1.heap.size) => by omega) _).below;have own6 : OwnV stT 1 (w5.setCell ⟨g5,3,none⟩ vb) (fun b => w1.heap.size ≤ b ∧ b ≠ g5) vb t.fs.length (t.fs.map Value.string):=own5.of_block fun b hb => Below.heap_setCell w5 _ _ b (own5.own hb).2;rw [hrow] at v6;generalize w5.setCell ⟨g5,3,none⟩ vb = w6 at v6 k6 own6 ⊢;clear v5 cf5 own5 k5 owna;change VBlk rtT w6 g5 [Value.int .i64 ((i + 1 : Nat) : Int),.string t.name,.bool t.dropped,vb] at v6;have h6:=h1.below k6;have z6:=k6.size;obtain ⟨sp1,cap1,rfl,-,-⟩:=h6.own.slice;rw [hlt] at h6;have cv6:=h6.vb.cell 0 (by simp);simp only [List.getD_cons_zero] at cv6;refine K.kgo ?_;refine WC.drawn 7 (fun wx => Below w6.heap.size w6 wx) fun w7 hd => ?_;have hS : Below w6.heap.size w6 w7:=hd.below _;clear hd;have hob:=h6.lt _ h6.rc;have hg6:=VBlk.lt v6;refine K.fr [0,1,2,3] hS ?_;refine K.wl 4 [7] rfl rfl rfl rfl rfl rfl rfl (fun wx hx => (hx.cell (p:=⟨ob,0,none⟩) hob).trans cv6) hS ?_;refine K.wm 5 [6,7] rfl rfl rfl rfl rfl rfl rfl (fun wx hx => VBlk.rangeAt (v6.below hx hg6)) rfl hS ?_;refine K.wo 6 ?_;refine WL.lit1 rfl rfl rfl rfl rfl rfl (cs:=[Value.int .i64 ((i + 1 : Nat) : Int),.string t.name,.bool t.dropped,vb]) rfl rfl (by omega) (by kernel_rfl) fun gl w8 f8 => ?_;have k8 : Below w6.heap.size w6 w8:=hS.trans (f8.below.mono hS.size);refine K.di k8 ?_;have h8:=h6.below k8;have sl8:=SlV.fresh1 f8 (T:=rtT) (ones4 (OwnV.one own6));have z8:=k8.size;refine K.wo 7 ?_;refine WL.appV rfl rfl rfl rfl elemRT rfl h8.own rfl sl8 (by omega) (by omega) fun v9 w9 o9 g9 => ?_;refine K.dl ?_
    (refine K.fzl 8 rfl (q:=?_);refine K.fzl 9 rfl (q:=?_))
    refine K.wo 10 ?_;have hne : (Value.slice sp1 i cap1).ownBlock ≠ some ob:=fun e => by obtain ⟨cur,hc⟩:=h8.own.tag e;exact vb_ne h8.vb hc (by decide) rfl
    have hlt8:=h8.lt _ h8.rc;have cv9 : w9.cell? ⟨ob,0,none⟩ = some (.slice sp1 i cap1):=(g9.1.cell (p:=⟨ob,0,none⟩) ⟨hlt8,hne⟩).trans ((k8.cell (p:=⟨ob,0,none⟩) hob).trans cv6);refine WL.store rfl rfl rfl rfl rfl (OwnV.one o9) (by kernel_rfl) cv9 (VBlk.free (h8.vb.keep g9.1 ⟨hlt8,hne⟩) 0) ?_;refine K.dl ?_;refine WD.done (by kernel_rfl) ?_;have own8:=own6.keep (Keep.of_below k8) (fun g hg => own6.lt hg);have own9 : OwnV stT 1 w9 (fun b => (O1 b ∨ w1.heap.size ≤ b) ∧ b < w9.heap.size) vb t.fs.length (t.fs.map Value.string):=by
      have:=own8.keep g9.1 (fun g hg => ⟨own8.lt hg,fun e => by
        have q1:=h1.lt g (h8.own.own e);have q2:=(own8.own hg).1;omega⟩)
      exact ⟨this.1,this.2.1,fun g hg => ⟨.inr (own8.own hg).1,this.lt hg⟩⟩
    have R:=h8.snoc (O':=fun b => (O1 b ∨ w1.heap.size ≤ b) ∧ b < w9.heap.size) (t:=t) (fv:=vb) g9.1 (fun b hb => ⟨.inl hb,Nat.lt_of_lt_of_le (h8.lt b hb) g9.1.size⟩) (fun b hb => hb.2) (by
      rw [show ((L.take i).length + 1 : Nat) = i + 1 by omega];rw [hlt] at o9;exact ⟨o9.1,o9.2.1,fun g hg => ⟨(o9.own hg).elim .inl (fun e => .inr (by omega)),o9.lt hg⟩⟩) own9 hgood
    rw [← ht] at R;have bf : Below w.heap.size w (w9.setCell ⟨ob,0,none⟩ v9):=by
      refine (Keep.setCell (Keep.of_below ((b1.trans (k6.mono z1)).trans ((k8.mono (by omega)).trans (g9.old (by omega) fun g hg => ?_)))) (fun (hh : ob < w.heap.size) => ?_) _).below
      · exact ho1 g (h8.own.own hg)
      · have:=ho1 ob h1.rc;omega
    refine K.kgo ?_;exact WQ.again (i + 1) ⟨rfl,rfl,rfl,trivial⟩ ⟨hk,bf,_,_,_,R,fun b hb => hb.1.elim (ho1 b) (fun hh => by omega)⟩ (by omega)
  · obtain rfl : i = L.length:=by omega
    rw [List.take_length] at h1;refine K.kgl ?_;exact WQ.ret1 rfl rfl ⟨ob,O1,rfl,⟨_,_,h1⟩,b1,ho1⟩
end Cr
namespace K
theorem eqGuard_map {P : Program} (op : BinOp) (t : TypeId) (x y : Operand) (p q : Option Nat) (w : World) : (eqGuard op t x y (.map p) (.map q)).run P w = .ok () w:=by
  cases op <;> simp [eqGuard]
section
variable {n : NN} {Q : Exit → Act → World → Prop} {l : Env} {w w' : World} {ops : Array Oper} {o : Oper} {rest : List Oper} {d : Nat} {S : World → Prop} {m fuel : Nat} {listed : Array Bool}
theorem WL.nilM {x : Operand} {t t2 k e : Nat} {p : Option Nat} (hu : Tryz.prog.underlying t = some (.map k e)) (hg : o.guard = none) (hd : o.dst = some d) (hn : Nat.blt d n.n = true) (ho : o.op = .binOp .eql t x (.const (.map none)) t2) (hx : evl l x = some (.map p))
    (h : WL n ops Q rest ((d,.bool p.isNone) :: l) w) : WL n ops Q (o :: rest) l w :=
  WL.step hg hd hn (fun a ha => by
    have hy : a.eval (.const (.map none)) = .map none:=rfl;unfold execOp;rw [ho];simp [ha.eval hx,hy,eqGuard_map _ _ _ _ _ _ _,run_eql_map_nil_sl w t k e p hu]) h
theorem look_run {a : Act} {t : Nat} {x y : Operand} {ok : Bool} {mv xv v : Value} {w w' : World} (ha : Fr n a l) (ho : o.op = .lookup t x y ok) (hx : evl l x = some mv) (hy : evl l y = some xv) (hr : (Instr.lookup t mv xv ok).run Tryz.prog w = .ok v w') : (execOp a.eval o).run Tryz.prog w = .ok (.value v) w':=by
  unfold execOp;rw [ho];simp [ha.eval hx,ha.eval hy,hr,Result.andThen]
theorem WL.look {t : Nat} {x y : Operand} {ok : Bool} {mv xv v : Value} (hg : o.guard = none) (hd : o.dst = some d) (hn : Nat.blt d n.n = true) (ho : o.op = .lookup t x y ok) (hx : evl l x = some mv) (hy : evl l y = some xv)
    (hr : (Instr.lookup t mv xv ok).run Tryz.prog w = .ok v w) (h : WL n ops Q rest ((d,v) :: l) w) : WL n ops Q (o :: rest) l w :=
  WL.step hg hd hn (fun _ ha => look_run ha ho hx hy hr) h
theorem WD.look {oi : Oper} {t : Nat} {x y : Operand} {ok : Bool} {mv xv v : Value} (i : Nat) (us : List Nat) (hi : ops[i]? = some oi) (hs : mayR ops listed i m us = true) (hd : oi.dst = some d) (hn : Nat.blt d n.n = true)
    (hQ : Passes Q) (hw : wants ops l oi = some true) (ho : oi.op = .lookup t x y ok) (hx : evl l x = some mv) (hy : evl l y = some xv) (hr : ∀ w,S w → (Instr.lookup t mv xv ok).run Tryz.prog w = .ok v w) (hS : S w)
    (h : WD n ops Q S m fuel (listed.setIfInBounds i true) ((d,v) :: l) w) : WD n ops Q S m (fuel + 1) listed l w :=
  WD.read i us hi hs hd hn hQ hw (fun _ ha w hSw => look_run ha ho hx hy (hr w hSw)) hS h
theorem WL.upd {t : Nat} {x y z : Operand} {mv xv zv : Value} (hg : o.guard = none) (hd : o.dst = none) (ho : o.op = .mapUpdate t x y z) (hx : evl l x = some mv) (hy : evl l y = some xv) (hz : evl l z = some zv)
    (hr : (Instr.mapUpdate t mv xv zv).run Tryz.prog w = .ok () w') (h : WL n ops Q rest l w') : WL n ops Q (o :: rest) l w :=
  WL.stepU hg hd (fun _ ha => by
    unfold execOp;rw [ho];simp [ha.eval hx,ha.eval hy,ha.eval hz,hr,Result.andThen]) h
theorem WL.mkMap {t : Nat} (hg : o.guard = none) (hd : o.dst = some d) (hn : Nat.blt d n.n = true) (ho : o.op = .makeMap t none) (h : WL n ops Q rest ((d,.map (some w.heap.size)) :: l) (w.alloc (.map #[] 0))) : WL n ops Q (o :: rest) l w :=
  WL.step hg hd hn (fun a ha => by
    unfold execOp;rw [ho];simp [go_sem,Instr.makeMap,Result.andThen]) h
end
theorem MF.clone {κ : Type} {P : Program} {k : TypeId} {mk : κ → Value} {w : World} {b n : Nat} {F : κ → Option Value} (h : MF P k mk w b n F) :
    ∃ es clock,w.heap[b]? = some (.map es clock) ∧ MF P k mk (w.alloc (.map es clock)) w.heap.size n F:=by
  obtain ⟨D,⟨es,clock,h1,h2⟩,hF⟩:=h;exact ⟨es,clock,h1,D,⟨es,clock,(MapKept.heap_alloc w _).1,h2⟩,hF⟩
end K
namespace Vw
open K
set_option maxRecDepth 100000
def rwC (r : Rw) (dc : List Value) : List Value :=
  .int .i64 r.tab :: .int .i64 r.doc :: .int .i64 r.ver :: (dc ++ [.bool r.gone,.bool r.del,.int .i64 r.blk,.int .i64 r.ent,.int .i64 r.tim])
structure RwOk (r : Rw) : Prop where
  tab : R64 r.tab
  doc : R64 r.doc
  ver : R64 r.ver
  blk : R64 r.blk
  ent : R64 r.ent
  tim : R64 r.tim
def RowP (D : Nat → Prop) (f : Nat) (w : World) (r : Rw) (cs : List Value) : Prop:=∃ dc,cs = rwC r dc ∧ IsVo D f w r.data dc ∧ RwOk r ∧ Sm 3000 f r.data
theorem RowP.len {D : Nat → Prop} {f : Nat} {w : World} {r : Rw} {cs : List Value} (h : RowP D f w r cs) : cs.length = 14:=by
  obtain ⟨dc,rfl,h1,-⟩:=h;simp [rwC,h1.len]
theorem RowP.one {D : Nat → Prop} {f : Nat} {w : World} {r : Rw} {cs : List Value} (h : RowP D f w r cs) : Ones cs:=by
  obtain ⟨dc,rfl,h1,-⟩:=h;intro u hu;unfold rwC at hu;simp only [List.mem_cons,List.mem_append,List.not_mem_nil,or_false] at hu;rcases hu with rfl | rfl | rfl | hu | rfl | rfl | rfl | rfl | rfl
  all_goals first | rfl | exact h1.one u hu
theorem RowP.keep {D D' : Nat → Prop} {f : Nat} {w w' : World} {r : Rw} {cs : List Value} (h : RowP D f w r cs) {K : Nat → Prop} (hk : Keep K w w') (hK : ∀ b,D b → b < w.heap.size → K b) (hD : ∀ b,D b → D' b) : RowP D' f w' r cs:=by
  obtain ⟨dc,h1,h2,h3⟩:=h;exact ⟨dc,h1,h2.keep hk hK hD,h3⟩
structure RwAt (w : World) (b o : Nat) (r : Rw) (dc : List Value) : Prop where
  tab : w.cell? ⟨b,o,none⟩ = some (.int .i64 r.tab)
  doc : w.cell? ⟨b,o + 1,none⟩ = some (.int .i64 r.doc)
  ver : w.cell? ⟨b,o + 2,none⟩ = some (.int .i64 r.ver)
  data : w.rangeAt b (o + 3) dc
  gone : w.cell? ⟨b,o + 9,none⟩ = some (.bool r.gone)
  del : w.cell? ⟨b,o + 10,none⟩ = some (.bool r.del)
  blk : w.cell? ⟨b,o + 11,none⟩ = some (.int .i64 r.blk)
  ent : w.cell? ⟨b,o + 12,none⟩ = some (.int .i64 r.ent)
  tim : w.cell? ⟨b,o + 13,none⟩ = some (.int .i64 r.tim)
  all : w.rangeAt b o (rwC r dc)
theorem RwAt.of {w : World} {b o : Nat} {r : Rw} {dc : List Value} (h : w.rangeAt b o (rwC r dc)) (hd : dc.length = 6) : RwAt w b o r dc:=by
  have e : ∀ i v,(rwC r dc)[i]? = some v → w.cell? ⟨b,o + i,none⟩ = some v:=fun i v hv => h i v hv;have q : ∀ i,[Value.bool r.gone,.bool r.del,.int .i64 r.blk,.int .i64 r.ent,.int .i64 r.tim][i]? = (rwC r dc)[i + 9]?:=fun i => by
    have : rwC r dc = ([.int .i64 r.tab,.int .i64 r.doc,.int .i64 r.ver] ++ dc) ++ [Value.bool r.gone,.bool r.del,.int .i64 r.blk,.int .i64 r.ent,.int .i64 r.tim]:=by simp [rwC]
    rw [this,List.getElem?_append_right (by simp [hd])];simp [hd]
  refine ⟨e 0 _ rfl,e 1 _ rfl,e 2 _ rfl,fun j u hu => ?_,e 9 _ ((q 0).symm.trans rfl),e 10 _ ((q 1).symm.trans rfl),e 11 _ ((q 2).symm.trans rfl),e 12 _ ((q 3).symm.trans rfl),e 13 _ ((q 4).symm.trans rfl),h⟩;rw [show o + 3 + j = o + (j + 3) by omega];refine e (j + 3) u ?_
  show (dc ++ _)[j]? = some u
  rw [List.getElem?_append_left]
  · exact hu
  · rcases Nat.lt_or_ge j dc.length with h | h
    · exact h
    · rw [List.getElem?_eq_none h] at hu;cases hu
theorem RwAt.below {w w' : World} {b o : Nat} {r : Rw} {dc : List Value} (h : RwAt w b o r dc) {K : Nat → Prop} (hk : Keep K w w') (hb : K b) : RwAt w' b o r dc:=by
  have c : ∀ i,w'.cell? ⟨b,i,none⟩ = w.cell? ⟨b,i,none⟩:=fun i => hk.cell (p:=⟨b,i,none⟩) hb;exact ⟨by rw [c];exact h.tab,by rw [c];exact h.doc,by rw [c];exact h.ver,fun j u hu => by rw [c];exact h.data j u hu,by rw [c];exact h.gone,by rw [c];exact h.del,by rw [c];exact h.blk,by rw [c];exact h.ent,by rw [c];exact h.tim,fun j u hu => by rw [c];exact h.all j u hu⟩
theorem els_at {D O : Nat → Prop} {f : Nat} {w : World} {v : Value} {L : List Rw} (h : Els 14 noR (RowP D f w) O w v L) {i : Nat} (hi : i < L.length) :
    ∃ b o cap dc,v = .slice (some ⟨b,o,none⟩) L.length cap ∧ b < w.heap.size ∧ O b ∧ RwAt w b (o + i * 14) (L.getD i noR) dc ∧ IsVo D f w (L.getD i noR).data dc ∧ RwOk (L.getD i noR) ∧ Sm 3000 f (L.getD i noR).data:=by
  obtain ⟨sp,cap,rfl,h1,h2,h3,h4⟩:=h;obtain ⟨b,o,rfl,hb,hO,hr⟩:=h4 (by omega);obtain ⟨cs,hl,⟨dc,rfl,hd,hok⟩,hat⟩:=hr i hi;exact ⟨b,o,cap,dc,rfl,hb,hO,RwAt.of hat hd.len,hd,hok⟩
def mk2 (x : Int × Int) : Value:=.agg #[.int .i64 x.1,.int .i64 x.2]
theorem mk2_inj (x y : Int × Int) (h : mk2 x = mk2 y) : x = y:=by
  unfold mk2 at h;simp at h
  exact Prod.ext h.1 h.2
theorem wf64 {x : Int} (h : R64 x) : (Lit.int .i64 x).wf = true:=by
  obtain ⟨h1,h2⟩:=h;simp only [Lit.wf,IntKind.min,IntKind.max,IntKind.signed,IntKind.bits,Bool.and_eq_true,decide_eq_true_eq];exact ⟨by simpa using h1,by simpa using h2⟩
theorem keyOf_2 {P : Program} {k ti : TypeId} {f0 f1 : Field} (hk : P.underlying k = some (.struct #[f0,f1])) (hi : P.underlying ti = some (.int .i64))
    (t0 : f0.type = ti) (o0 : f0.offset = 0) (n0 : (f0.name != "_") = true) (t1 : f1.type = ti) (o1 : f1.offset = 1) (n1 : (f1.name != "_") = true) (hkt : P.keyType k = true) (hc : P.cellsOf k = 2) (ci : P.cellsOf ti = 1)
    {d : Nat} (hd : P.types.size + 1 = d + 1 + 1) (x : Int × Int) (h1 : (Lit.int .i64 x.1).wf = true) (h2 : (Lit.int .i64 x.2).wf = true) : keyOf P k (mk2 x) = some (.string (keyBytes [.int .i64 x.1,.int .i64 x.2])):=by
  have e1 : (mk2 x).formed P k = true:=by
    unfold Value.formed mk2;simp only [hk,hc]
    rfl
  have e3 : ∀ y : Int,(Lit.int .i64 y).wf = true → P.keyLits (d + 1) ti [.int .i64 y] = some [.int .i64 y]:=fun y hy => by
    unfold Program.keyLits;rw [hi];exact if_pos ⟨rfl,hy⟩
  have e2 : P.keyLits (d + 1 + 1) k (mk2 x).cells.toList = some [.int .i64 x.1,.int .i64 x.2]:=by
    unfold Program.keyLits;rw [hk];simp only [mk2,Value.cells,hc,t0,t1,o0,o1,n0,n1,ci,List.length_cons,List.length_nil,List.mapM_cons,List.mapM_nil,List.drop_zero,List.drop_succ_cons,List.take_succ_cons,List.take_zero,e3 _ h1,e3 _ h2,List.all_cons,List.all_nil,Bool.and_self,Array.all_toList.symm,and_self,if_true];simp
  unfold keyOf;simp only [hk,hkt,e1,Bool.and_self,if_true,hd,e2,Option.map_some]
abbrev adT : Nat:=50
theorem adRow : adT < Tryz.prog.types.size:=of_decide_eq_true (by kernel_rfl)
theorem adWide : (match Tryz.prog.underlying adT with | some (.array _ _) | some (.struct _) => true | _ => false) = true:=by rw [show Tryz.prog.underlying adT = _ from Tryz.underlying50]
theorem adKeyed : Keyed Tryz.prog adT:=Keyed.of_law (deep_law_laid Cat.laid (m:=2) (by omega) adRow (by kernel_rfl) adWide)
theorem adKeyType : Tryz.prog.keyType adT = true:=by kernel_rfl
theorem adCells : Tryz.prog.cellsOf adT = 2:=by kernel_rfl
theorem adKey {x : Int × Int} (h1 : R64 x.1) (h2 : R64 x.2) : keyOf Tryz.prog adT (mk2 x) = some (.string (keyBytes [.int .i64 x.1,.int .i64 x.2])) :=
  keyOf_2 Tryz.underlying50 Tryz.underlying3 rfl rfl (by decide) rfl rfl (by decide) adKeyType adCells Cat.intCells Cat.deepEnough x (wf64 h1) (wf64 h2)
abbrev rvT : Nat:=44
abbrev rrT : Nat:=56
def redF (f : Int × Int → Bool) (x : Int × Int) : Option Value:=if f x = true then some (.int .i64 1) else none
structure RV (w : World) (rb : Nat) (M D : Nat → Prop) (f : Nat) (s : St) (cp : Nat) (Oc : Nat → Prop) (rv : Value) (mb k N : Nat) : Prop where
  vb : VBlk rvT w rb [.pointer (some ⟨cp,0,none⟩),rv,.int .i64 s.n,.map (some mb)]
  cat : Cr.RCat w cp Oc s.cat
  rows : OwnE rrT 14 noR (RowP D f w) M w rv s.rows
  red : MF Tryz.prog adT mk2 w mb k (redF s.red)
  mrb : M rb
  mmb : M mb
  moc : ∀ b,Oc b → M b
  orb : ¬ Oc rb
  omb : ¬ Oc mb
  orow : ∀ g,rv.ownBlock = some g → ¬ Oc g
  lt : ∀ b,M b ∨ D b → b < w.heap.size
  sep : ∀ b,M b → ¬ D b
  vers : ∀ r ∈ s.rows,r.ver ≤ s.rows.length
  ok : s.n ≤ N ∧ s.rows.length ≤ N ∧ k ≤ N ∧ N ≤ 1000000
def RVs (w : World) (rb : Nat) (M D : Nat → Prop) (f : Nat) (s : St) (N : Nat) : Prop:=∃ cp Oc rv mb k,RV w rb M D f s cp Oc rv mb k N
section
variable {w w' : World} {rb : Nat} {M D : Nat → Prop} {f : Nat} {s : St} {cp : Nat} {Oc : Nat → Prop} {rv : Value} {mb k N : Nat}
theorem OwnE.keepR {e : Nat} {O : Nat → Prop} {v : Value} {L : List Rw} (h : OwnE e 14 noR (RowP D f w) O w v L) {K : Nat → Prop} (hk : Keep K w w') (hK : ∀ g,v.ownBlock = some g → K g) (hD : ∀ b,D b → b < w.heap.size → K b) : OwnE e 14 noR (RowP D f w') O w' v L :=
  Go.Proofs.YtchgjaaadfjiiaaGreat.K.OwnE.keep h hk hK (fun _ h => h) fun _ _ hp => hp.keep hk hD fun _ h => h
theorem RV.keep (h : RV w rb M D f s cp Oc rv mb k N) {K : Nat → Prop} (hk : Keep K w w') (hK : ∀ b,M b ∨ D b → K b) : RV w' rb M D f s cp Oc rv mb k N :=
  ⟨h.vb.keep hk (hK _ (.inl h.mrb)),h.cat.keep hk fun b hb => hK b (.inl (h.moc b hb)),OwnE.keepR h.rows hk (fun g hg => hK g (.inl (h.rows.own hg))) (fun b hb _ => hK b (.inr hb)),h.red.keep hk (hK _ (.inl h.mmb)),
    h.mrb,h.mmb,h.moc,h.orb,h.omb,h.orow,fun b hb => Nat.lt_of_lt_of_le (h.lt b hb) hk.size,h.sep,h.vers,h.ok⟩
theorem RV.below (h : RV w rb M D f s cp Oc rv mb k N) (hb : Below w.heap.size w w') : RV w' rb M D f s cp Oc rv mb k N:=h.keep (Keep.of_below hb) h.lt
theorem RVs.below (h : RVs w rb M D f s N) (hb : Below w.heap.size w w') : RVs w' rb M D f s N:=by obtain ⟨_,_,_,_,_,h⟩:=h;exact ⟨_,_,_,_,_,h.below hb⟩
theorem RVs.keep (h : RVs w rb M D f s N) {K : Nat → Prop} (hk : Keep K w w') (hK : ∀ b,M b ∨ D b → K b) : RVs w' rb M D f s N:=by obtain ⟨_,_,_,_,_,h⟩:=h;exact ⟨_,_,_,_,_,h.keep hk hK⟩
theorem RVs.lt (h : RVs w rb M D f s N) : ∀ b,M b ∨ D b → b < w.heap.size:=by obtain ⟨_,_,_,_,_,h⟩:=h;exact h.lt
end
theorem rowed {w5 w6 w7 : World} {g T : Nat} {cs' : List Value} (cs : List Value) (b6 : Below w5.heap.size w5 w6) (f : Fresh w6 g w7 T cs') : VBlk T (w7.setRow g cs.toArray) g cs ∧ Below w5.heap.size w5 (w7.setRow g cs.toArray) ∧ Below w6.heap.size w6 (w7.setRow g cs.toArray) ∧ w6.heap.size ≤ g:=by
  have e:=f.eq;have z:=b6.size;exact ⟨f.blk.setRow cs,(Cr.keepRow (Keep.of_below (b6.trans (f.below.mono z))) (fun hh => by omega) _).below,(Cr.keepRow (Keep.of_below f.below) (fun hh => by omega) _).below,by omega⟩
theorem RV.app {w w' : World} {rb : Nat} {M D : Nat → Prop} {f : Nat} {s : St} {cp : Nat} {Oc O' : Nat → Prop} {rv : Value} {mb k N : Nat} {L : List Cat.Tb} (h : RV w rb M D f s cp Oc rv mb k N) (hr : Cr.RCat w' cp O' L) (hk : Keep (fun b => b < w.heap.size ∧ ¬ Oc b) w w') (ho : ∀ b,O' b → Oc b ∨ w.heap.size ≤ b) :
    RV w' rb (fun b => M b ∨ (w.heap.size ≤ b ∧ b < w'.heap.size)) D f { s with cat:=L } cp O' rv mb k N:=by
  have z:=hk.size;have l1:=h.lt;have hd : ∀ b,D b → b < w.heap.size ∧ ¬ Oc b:=fun b hb => ⟨l1 b (.inr hb),fun hh => h.sep b (h.moc b hh) hb⟩;refine ⟨h.vb.keep hk ⟨l1 _ (.inl h.mrb),h.orb⟩,hr,?_,h.red.keep hk ⟨l1 _ (.inl h.mmb),h.omb⟩,.inl h.mrb,.inl h.mmb,fun b hb => (ho b hb).elim (fun hh => .inl (h.moc b hh)) (fun hh => .inr ⟨hh,hr.lt b hb⟩),
    fun hh => (ho _ hh).elim h.orb (fun q => by have:=l1 _ (.inl h.mrb);omega),fun hh => (ho _ hh).elim h.omb (fun q => by have:=l1 _ (.inl h.mmb);omega),fun g hg hh => (ho _ hh).elim (h.orow g hg) (fun q => by have:=l1 g (.inl (h.rows.own hg));omega),?_,?_,h.vers,h.ok⟩
  · exact Go.Proofs.YtchgjaaadfjiiaaGreat.K.OwnE.keep h.rows hk (fun g hg => ⟨l1 g (.inl (h.rows.own hg)),h.orow g hg⟩) (fun _ hh => .inl hh) fun _ _ hp => hp.keep hk (fun b hb _ => hd b hb) fun _ hh => hh
  · rintro b ((hb | hb) | hb)
    · have:=l1 b (.inl hb);omega
    · exact hb.2
    · have:=l1 b (.inr hb);omega
  · rintro b (hb | hb) hd'
    · exact h.sep b hb hd'
    · have:=l1 b (.inr hd');omega
end Vw
namespace Vw
open K
set_option maxRecDepth 100000
def lastZ : Option Nat → Int
  | some i => i
  | none => -1
theorem own_els {e : Nat} {D O : Nat → Prop} {f : Nat} {w : World} {v : Value} {L : List Rw} (h : OwnE e 14 noR (RowP D f w) O w v L) : Els 14 noR (RowP D f w) O w v L:=K.OwnE.els h
set_option maxHeartbeats 1000000 in
theorem last_any {w : World} {rb : Nat} {M D : Nat → Prop} {f : Nat} {s : St} {N : Nat} (h0 : RVs w rb M D f s N) (t d : Int) :
    Calls Tryz.prog 65 #[.pointer (some ⟨rb,0,none⟩),.int .i64 t,.int .i64 d] w fun e w' => w' = w ∧ ∃ o,e = .returned (.int .i64 (lastZ o)) ∧
      (match o with | some i => i < s.rows.length ∧ (of s.rows (t,d)).getLast? = some (s.rows.getD i noR) | none => of s.rows (t,d) = []):=by
  obtain ⟨cp,Oc,rv,mb,k,h⟩:=h0;have hel:=own_els h.rows;obtain ⟨sp,cap,rfl,-⟩:=id hel;have c1:=h.vb.cell 1 (by simp);simp only [List.getD_cons_succ,List.getD_cons_zero] at c1;have hok:=h.ok;generalize s.rows = L at hel c1 hok ⊢;refine enter (args:=[.pointer (some ⟨rb,0,none⟩),.int .i64 t,.int .i64 d]) Tryz.func65 rfl Tryz.ntmps65 rfl ?_;refine K.kgl ?_;refine WC.loop (fun n : Nat => [(0,.pointer (some ⟨rb,0,none⟩)),(1,.int .i64 t),(2,.int .i64 d),(7,.int .i64 ((n : Int) - 1))]) (fun n w' => w' = w ∧ n ≤ L.length ∧ ∀ j,n ≤ j → j < L.length → (L.getD j noR).key ≠ (t,d)) (fun n => n) L.length ⟨rfl,rfl,rfl,rfl,trivial⟩ ⟨rfl,Nat.le_refl _,fun j h1 h2 => by omega⟩ ?_;rintro n w ⟨rfl,hn,hno⟩
  by_cases h0 : n = 0
  · subst h0
    refine K.kgo ?_;exact WQ.ret1 rfl rfl ⟨rfl,none,rfl,last_no fun j hj => hno j (Nat.zero_le _) hj⟩
  · obtain ⟨m,rfl⟩ : ∃ m,n = m + 1:=⟨n - 1,by omega⟩
    have hm : m < L.length:=hn;obtain ⟨b,o,cap',dc,es,-,-,hr,-,-⟩:=els_at hel hm;obtain ⟨rfl,rfl⟩ : sp = some ⟨b,o,none⟩ ∧ cap = cap':=by simpa using es
    clear es;have x0:=hr.tab;have x1:=hr.doc;have hl : (L.getD m noR).key = (t,d) → (of L (t,d)).getLast? = some (L.getD m noR):=fun hk => last_at hm hk fun j h1 h2 => hno j h1 h2;have nx : (L.getD m noR).key ≠ (t,d) → ∀ j,m ≤ j → j < L.length → (L.getD j noR).key ≠ (t,d):=fun hk j h1 h2 => by
      by_cases e : j = m
      · rw [e];exact hk
      · exact hno j (by omega) h2
    generalize hR : L.getD m noR = r at x0 x1 hl nx
    by_cases e1 : r.tab = t
    · by_cases e2 : r.doc = d
      · refine K.kgl ?_
        refine WL.idx m (o + m * 14) rfl rfl rfl rfl rfl rfl rfl (by omega) hm rfl ?_;refine K.kgl ?_;refine WL.idx m (o + m * 14) rfl rfl rfl rfl rfl rfl rfl (by omega) hm rfl ?_;refine K.kgl ?_;refine WQ.ret1 rfl rfl ⟨rfl,some m,congrArg (fun z => Ending.returned (.int .i64 z)) (show ((m + 1 : Nat) : Int) - 1 = (m : Int) by omega),hm,?_⟩;rw [hR];exact hl (by rw [← e1,← e2])
      · refine K.kgl ?_
        refine WL.idx m (o + m * 14) rfl rfl rfl rfl rfl rfl rfl (by omega) hm rfl ?_;refine K.kgl ?_;refine WL.idx m (o + m * 14) rfl rfl rfl rfl rfl rfl rfl (by omega) hm rfl ?_;refine K.kgl ?_;exact WQ.again m ⟨rfl,rfl,rfl,congrArg (fun z => some (Value.int .i64 z)) (show ((m + 1 : Nat) : Int) - 1 - 1 = (m : Int) - 1 by omega),trivial⟩ ⟨rfl,by omega,nx fun q => e2 (congrArg Prod.snd q)⟩ (by omega)
    · refine K.kgl ?_
      refine WL.idx m (o + m * 14) rfl rfl rfl rfl rfl rfl rfl (by omega) hm rfl ?_;refine K.kgl ?_;exact WQ.again m ⟨rfl,rfl,rfl,congrArg (fun z => some (Value.int .i64 z)) (show ((m + 1 : Nat) : Int) - 1 - 1 = (m : Int) - 1 by omega),trivial⟩ ⟨rfl,by omega,nx fun q => e1 (congrArg Prod.fst q)⟩ (by omega)
set_option maxHeartbeats 2000000 in
theorem next_any {w : World} {rb : Nat} {M D : Nat → Prop} {f : Nat} {s : St} {N : Nat} (h0 : RVs w rb M D f s N) (t : Int) :
    Calls Tryz.prog 39 #[.pointer (some ⟨rb,0,none⟩),.int .i64 t] w fun e w' => e = .returned (.int .i64 (next s t)) ∧ Below w.heap.size w w':=by
  obtain ⟨cp,Oc,rv,mb,k,h⟩:=h0;have c0:=h.vb.cell 0 (by simp);simp only [List.getD_cons_zero] at c0;refine enter (args:=[.pointer (some ⟨rb,0,none⟩),.int .i64 t]) Tryz.func39 rfl Tryz.ntmps39 rfl ?_;refine K.kgl ?_;refine WL.call rfl rfl rfl rfl rfl Tryz.func25 rfl (by kernel_rfl) (Cr.rtable_any h.cat t) ?_;rintro _ w1 ⟨fv,rfl,ho,b1⟩;refine ⟨_,rfl,?_⟩;refine K.kgo ?_;refine WL.alloc (z:=.agg Cr.zTab.toArray) rfl rfl rfl rfl Cr.zeroRT fun g w2 f2 => ?_;refine WL.storeRow rfl rfl rfl rfl rfl rfl f2.blk rfl rfl (Cr.ones4 (Cr.OwnV.one ho)) ?_;have b2 : Below w.heap.size w (w2.setRow g [Value.int .i64 (Cat.tabR s.cat t).1,.string (Cat.tabR s.cat t).2.1.name,.bool (Cat.tabR s.cat t).2.1.dropped,fv].toArray) :=
    (Cr.keepRow (K:=fun b => b < w.heap.size) (Keep.of_below (b1.trans (f2.below.mono b1.size))) (fun hh => by have:=f2.eq;have:=b1.size;omega) _).below
  generalize w2.setRow g _ = w3 at b2 ⊢;clear ho b1 f2 w1 w2;have h3:=h.below b2;have hel:=own_els h3.rows;obtain ⟨sp,cap,rfl,-⟩:=id hel;have c1:=h3.vb.cell 1 (by simp);simp only [List.getD_cons_succ,List.getD_cons_zero] at c1;have hok:=h.ok;have hnx : next s t = if (Cat.tabR s.cat t).2.2 = 0 then (cnt t s.rows : Int) + 1 else 0:=rfl
  rw [hnx];have hc:=cnt_le t s.rows;generalize (Cat.tabR s.cat t).2.2 = code;generalize s.rows = L at hel c1 hok hc ⊢
  by_cases hcd : code = 0
  · rw [if_pos hcd]
    refine K.kgo ?_;refine WC.loop (fun i : Nat => [(0,.pointer (some ⟨rb,0,none⟩)),(1,.int .i64 t),(7,.int .i64 ((cnt t (L.take i) : Int) + 1)),(8,.int .i64 i)]) (fun i w' => w' = w3 ∧ i ≤ L.length) (fun i => L.length - i) 0 ⟨rfl,rfl,rfl,rfl,trivial⟩ ⟨rfl,Nat.zero_le _⟩ ?_;rintro i w3 ⟨rfl,hi⟩
    by_cases hlt : i < L.length
    · obtain ⟨b,o,cap',dc,es,-,-,hr,-,-⟩:=els_at hel hlt
      obtain ⟨rfl,rfl⟩ : sp = some ⟨b,o,none⟩ ∧ cap = cap':=by simpa using es
      clear es;have x0:=hr.tab;have x2:=hr.ver;have hct:=cnt_take (t:=t) hlt;have hcl:=cnt_len t L hi;generalize L.getD i noR = r at x0 x2 hct
      by_cases e1 : r.tab = t
      · by_cases e2 : r.ver = 0
        · rw [if_pos ⟨e1,e2⟩] at hct
          refine K.kgl ?_;refine WL.idx i (o + i * 14) rfl rfl rfl rfl rfl rfl rfl rfl hlt rfl ?_;refine K.kgl ?_;refine WL.idx i (o + i * 14) rfl rfl rfl rfl rfl rfl rfl rfl hlt rfl ?_;refine K.kgl ?_;refine WQ.again (i + 1) ⟨rfl,rfl,?_,rfl,trivial⟩ ⟨rfl,hlt⟩ (by omega);rw [hct];rfl
        · rw [if_neg (fun q => e2 q.2)] at hct
          refine K.kgl ?_;refine WL.idx i (o + i * 14) rfl rfl rfl rfl rfl rfl rfl rfl hlt rfl ?_;refine K.kgl ?_;refine WL.idx i (o + i * 14) rfl rfl rfl rfl rfl rfl rfl rfl hlt rfl ?_;refine K.kgl ?_;refine WQ.again (i + 1) ⟨rfl,rfl,?_,rfl,trivial⟩ ⟨rfl,hlt⟩ (by omega);rw [hct];rfl
      · rw [if_neg (fun q => e1 q.1)] at hct
        refine K.kgl ?_;refine WL.idx i (o + i * 14) rfl rfl rfl rfl rfl rfl rfl rfl hlt rfl ?_;refine K.kgl ?_;refine WQ.again (i + 1) ⟨rfl,rfl,?_,rfl,trivial⟩ ⟨rfl,hlt⟩ (by omega);rw [hct];rfl
    · obtain rfl : i = L.length:=by omega
      rw [List.take_length];refine K.kgl ?_;exact WQ.ret1 rfl rfl ⟨rfl,b2⟩
  · rw [if_neg hcd]
    refine K.kgo ?_;exact WQ.ret1 rfl rfl ⟨rfl,b2⟩
end Vw
namespace Vw
open K
set_option maxRecDepth 100000
theorem mid_put {A B C m : List Value} {x off k : Nat} (hA : A.length = x) (hk : m.length = k) (hB : off + k ≤ B.length) :
    (A ++ (B ++ C)).take (x + off) ++ m ++ (A ++ (B ++ C)).drop (x + off + k) = A ++ ((B.take off ++ m ++ B.drop (off + k)) ++ C):=by
  subst hA hk;rw [List.take_append,List.drop_append,List.take_of_length_le (by omega : A.length ≤ A.length + off),List.drop_of_length_le (by omega : A.length ≤ A.length + off + m.length),List.nil_append,
    show A.length + off - A.length = off by omega,show A.length + off + m.length - A.length = off + m.length by omega,List.take_append_of_le_length (by omega),List.drop_append_of_le_length (by omega)]
  simp only [List.append_assoc]
theorem one_put {A B C : List Value} {x off : Nat} (v : Value) (hA : A.length = x) (hB : off < B.length) : (A ++ (B ++ C)).set (x + off) v = A ++ (B.set off v ++ C):=by
  subst hA;rw [List.set_append_right _ _ (by omega),show A.length + off - A.length = off by omega,List.set_append_left _ _ hB]
theorem flat_len' {k : List (List Value)} {m : Nat} (h : ∀ x ∈ k,x.length = m) : k.flatten.length = k.length * m:=by
  induction k with
  | nil => simp
  | cons a k ih =>
    rw [List.flatten_cons,List.length_append,ih fun x hx => h x (List.mem_cons_of_mem _ hx),h a (by simp),List.length_cons,Nat.succ_mul];omega
theorem flat_split {k : List (List Value)} {j : Nat} (hj : j < k.length) : k.flatten = (k.take j).flatten ++ (k.getD j [] ++ (k.drop (j + 1)).flatten):=by
  have e : k = k.take j ++ (k.getD j [] :: k.drop (j + 1)):=by
    rw [List.getD_eq_getElem?_getD,List.getElem?_eq_getElem hj,Option.getD_some,← List.drop_eq_getElem_cons hj,List.take_append_drop]
  rw [e];simp only [List.flatten_append,List.flatten_cons];rw [← e]
theorem flat_set {k : List (List Value)} {j : Nat} (hj : j < k.length) (x : List Value) : (k.set j x).flatten = (k.take j).flatten ++ (x ++ (k.drop (j + 1)).flatten):=by
  rw [List.set_eq_take_append_cons_drop,if_pos hj];simp
theorem own_row {α : Type} {e m : Nat} {z : α} {P : α → List Value → Prop} {O : Nat → Prop} {w : World} {v : Value} {L : List α} (h : OwnE e m z P O w v L) {j : Nat} (hj : j < L.length) :
    ∃ g cap,v = .slice (some ⟨g,0,none⟩) L.length cap ∧ O g ∧ g < w.heap.size ∧ ∃ A B C,VBlk e w g (A ++ (B ++ C)) ∧ A.length = j * m ∧ B.length = m ∧ P (L.getD j z) B ∧
      ∀ {w' : World} {P' : α → List Value → Prop} (B' : List Value) (y : α),VBlk e w' g (A ++ (B' ++ C)) → B'.length = m → Ones B' → P' y B' → (∀ x cs,P x cs → P' x cs) → OwnE e m z P' O w' v (L.set j y):=by
  obtain ⟨kcs,hk,hat,hown⟩:=h;have hall:=all_of_getD (k:=kcs) (m:=m) fun i hi => (hat i (by omega)).1;rcases hown.form with ⟨-,h0,-⟩ | ⟨g,cap,cur,rfl,hO,hlt,hg,h1,h2,h3,h4⟩
  · omega
  have hjk : j < kcs.length:=by omega
  have hfl:=flat_len' hall;have hcur : cur.toList = kcs.flatten ++ cur.toList.drop (L.length * m):=by rw [← h4,List.take_append_drop]
  have hA : (kcs.take j).flatten.length = j * m:=by
    rw [flat_len' fun x hx => hall x (List.mem_of_mem_take hx),List.length_take,Nat.min_eq_left (by omega)]
  refine ⟨g,cap,rfl,hO,hlt,(kcs.take j).flatten,kcs.getD j [],(kcs.drop (j + 1)).flatten ++ cur.toList.drop (L.length * m),?_,hA,(hat j hj).1,(hat j hj).2,?_⟩
  · have e : (kcs.take j).flatten ++ (kcs.getD j [] ++ ((kcs.drop (j + 1)).flatten ++ cur.toList.drop (L.length * m))) = cur.toList:=by
      conv => rhs;rw [hcur,flat_split hjk]
      simp only [List.append_assoc]
    rw [e];exact hg
  · intro w' P' B' y hb hl h1' hp hP
    have hall' : ∀ x ∈ kcs.set j B',x.length = m:=fun x hx => by
      rcases List.mem_or_eq_of_mem_set hx with hx | rfl
      · exact hall x hx
      · exact hl
    refine ⟨kcs.set j B',by rw [List.length_set,List.length_set];exact hk,fun i hi => ?_,⟨?_,.inr ⟨g,cap,((kcs.take j).flatten ++ (B' ++ ((kcs.drop (j + 1)).flatten ++ cur.toList.drop (L.length * m)))).toArray,?_,Nat.zero_le _,hb,by rw [List.length_set];exact h1,h2,?_,?_⟩⟩,?_,fun b hb => by cases hb;exact hO⟩
    · rw [List.length_set] at hi
      by_cases e : i = j
      · subst e
        rw [Cat.getD_set_eq _ _ _ _ hjk,Cat.getD_set_eq _ _ _ _ hj];exact ⟨hl,hp⟩
      · rw [Cat.getD_set_ne _ _ _ _ _ (fun q => e q.symm),Cat.getD_set_ne _ _ _ _ _ (fun q => e q.symm)]
        exact ⟨(hat i hi).1,hP _ _ (hat i hi).2⟩
    · rw [flat_len' hall',List.length_set,List.length_set,hk]
    · rw [List.length_set]
    · have q1 : (cur.toList).length = cap * m:=by rw [Array.length_toList];exact h3
      have q2:=congrArg List.length hcur;have q3:=congrArg List.length (flat_split hjk);simp only [List.length_append] at q2 q3;have hBl : (kcs.getD j []).length = m:=(hat j hj).1;simp only [List.size_toArray,List.length_append];omega
    · have e : (kcs.take j).flatten ++ (B' ++ ((kcs.drop (j + 1)).flatten ++ cur.toList.drop (L.length * m))) = (kcs.set j B').flatten ++ cur.toList.drop (L.length * m):=by
        rw [flat_set hjk];simp only [List.append_assoc]
      show ((kcs.take j).flatten ++ (B' ++ ((kcs.drop (j + 1)).flatten ++ cur.toList.drop (L.length * m)))).take ((L.set j y).length * m) = _
      rw [e,List.take_append_of_le_length (by rw [flat_len' hall',List.length_set,List.length_set,hk];exact Nat.le_refl _),List.take_of_length_le (by rw [flat_len' hall',List.length_set,List.length_set,hk];exact Nat.le_refl _)]
    · intro u hu
      rw [flat_set hjk] at hu;have ho:=hown.2.1;rw [flat_split hjk] at ho;rcases List.mem_append.1 hu with hu | hu
      · exact ho u (List.mem_append_left _ hu)
      · rcases List.mem_append.1 hu with hu | hu
        · exact h1' u hu
        · exact ho u (List.mem_append_right _ (List.mem_append_right _ hu))
section
variable {w w' : World} {rb : Nat} {M M' D D' : Nat → Prop} {f : Nat} {s : St} {cp : Nat} {Oc : Nat → Prop} {rv rv' : Value} {mb k N : Nat}
theorem RV.ne (h : RV w rb M D f s cp Oc rv mb k N) : rv.ownBlock ≠ some rb ∧ rv.ownBlock ≠ some mb:=by
  obtain ⟨_,_,_,hown⟩:=h.rows;refine ⟨fun e => ?_,fun e => ?_⟩
  · obtain ⟨cur,hc⟩:=hown.tag e;exact Cr.vb_ne h.vb hc (by decide) rfl
  · obtain ⟨cur,hc⟩:=hown.tag e;exact Cat.MF.tag_ne h.red hc rfl
theorem RV.push (h : RV w rb M D f s cp Oc rv mb k N) (hN : N + 1 ≤ 1000000) {r : Rw} (hk : Keep (fun b => b < w.heap.size ∧ rv.ownBlock ≠ some b) w w') (hown : OwnE rrT 14 noR (RowP D' f w') M' w' rv' (s.rows ++ [r])) (hM : ∀ b,M b → M' b) (_hD : ∀ b,D b → D' b)
    (lt' : ∀ b,M' b ∨ D' b → b < w'.heap.size) (sep' : ∀ b,M' b → ¬ D' b) (ho : ∀ g,rv'.ownBlock = some g → ¬ Oc g) (hvr : r.ver ≤ s.rows.length + 1) :
    RV (w'.setCell ⟨rb,1,none⟩ rv') rb M' D' f { s with rows:=s.rows ++ [r] } cp Oc rv' mb k (N + 1):=by
  obtain ⟨n1,n2⟩:=h.ne;have l:=h.lt;have vb' : VBlk rvT w' rb _:=h.vb.keep hk ⟨l _ (.inl h.mrb),n1⟩;have v2:=vb'.set 1 rv';have hsz : (w'.setCell ⟨rb,1,none⟩ rv').heap.size = w'.heap.size:=by simp
  have k2 : Keep (fun b => b ≠ rb) w' (w'.setCell ⟨rb,1,none⟩ rv'):=(Keep.refl _ _).setCell (by simp) _;have hd : ∀ b,D' b → b ≠ rb:=fun b hb e => sep' b (e ▸ hM _ h.mrb) hb;refine ⟨v2,(h.cat.keep hk fun b hb => ⟨l b (.inl (h.moc b hb)),fun e => h.orow b e hb⟩).keep k2 fun b hb e => h.orb (e ▸ hb),OwnE.keepR hown k2 (fun g hg => ?_) (fun b hb _ => hd b hb),(h.red.keep hk ⟨l _ (.inl h.mmb),n2⟩).keep k2 fun e => ?_,
    hM _ h.mrb,hM _ h.mmb,fun b hb => hM _ (h.moc b hb),h.orb,h.omb,ho,fun b hb => by rw [hsz];exact lt' b hb,sep',fun x hx => by
      rw [show (s.rows ++ [r]).length = s.rows.length + 1 by simp];rcases List.mem_append.1 hx with hx | hx
      · have:=h.vers x hx;omega
      · obtain rfl : x = r:=by simpa using hx
        omega,by have:=h.ok;simp;omega⟩
  · obtain ⟨_,_,_,hw⟩:=hown
    obtain ⟨cur,hc⟩:=hw.tag hg;exact Cr.vb_ne vb' hc (by decide)
  · exact Cat.MF.tag_ne h.red (show w.heap[rb]? = _ from h.vb) e
theorem RV.shutR (h : RV w rb M D f s cp Oc rv mb k N) (hN : N + 1 ≤ 1000000) {i : Nat} {a : Int × Int} (hk : Keep (fun b => b ≠ mb ∧ rv.ownBlock ≠ some b) w w') (hred : MF Tryz.prog adT mk2 w' mb (k + 1) (redF (redP s.red a))) (hown : OwnE rrT 14 noR (RowP D f w') M w' rv (s.rows.set i (shut (s.rows.getD i noR)))) :
    RV w' rb M D f { s with rows:=s.rows.set i (shut (s.rows.getD i noR)),red:=redP s.red a } cp Oc rv mb (k + 1) (N + 1):=by
  obtain ⟨n1,n2⟩:=h.ne;have n3 : rb ≠ mb:=fun e => Cat.MF.tag_ne h.red (show w.heap[rb]? = _ from h.vb) e.symm;refine ⟨h.vb.keep hk ⟨n3,n1⟩,h.cat.keep hk fun b hb => ⟨fun e => h.omb (e ▸ hb),fun e => h.orow b e hb⟩,hown,hred,h.mrb,h.mmb,h.moc,h.orb,h.omb,h.orow,fun b hb => Nat.lt_of_lt_of_le (h.lt b hb) hk.size,h.sep,fun x hx => by
    rw [List.length_set];rcases List.mem_or_eq_of_mem_set hx with hx | rfl
    · exact h.vers x hx
    · show (s.rows.getD i noR).ver ≤ _
      by_cases hi : i < s.rows.length
      · exact h.vers _ (by rw [getD_lt hi];exact List.getElem_mem hi)
      · rw [Cat.getD_over _ _ _ (by omega)];exact Int.natCast_nonneg _,by have:=h.ok;simp;omega⟩
end
theorem red_put (f : Int × Int → Bool) (a : Int × Int) : mfPut (redF f) a (.int .i64 1) = redF (redP f a):=by
  funext x
  unfold mfPut redF redP
  by_cases e : x = a
  · rw [if_pos e,if_pos e,if_pos rfl]
  · rw [if_neg e,if_neg e]
theorem find_at {L : List Rw} {p : Rw → Bool} {i : Nat} (hi : i < L.length) (hno : ∀ j,j < i → p (L.getD j noR) = false) (hp : p (L.getD i noR) = true) : L.findIdx? p = some i:=by
  rw [List.findIdx?_eq_some_iff_getElem];refine ⟨hi,by rw [← getD_lt (d:=noR) hi];exact hp,fun j hj => ?_⟩;have:=hno j hj;rw [getD_lt (by omega)] at this
  simpa using this
theorem find_no {L : List Rw} {p : Rw → Bool} (hno : ∀ j,j < L.length → p (L.getD j noR) = false) : L.findIdx? p = none:=by
  rw [List.findIdx?_eq_none_iff];intro r hr;obtain ⟨j,hj,rfl⟩:=List.mem_iff_getElem.1 hr;have:=hno j hj
  rwa [getD_lt hj] at this
theorem shut_set {r : Rw} {v1 v2 v3 : Int} {t : ByteArray} {sn sk : Value} : ((rwC r [.int .i64 v1,.int .i64 v2,.int .i64 v3,.string t,sn,sk]).set 9 (.bool true)).take 3 ++ zCells ++ ((rwC r [.int .i64 v1,.int .i64 v2,.int .i64 v3,.string t,sn,sk]).set 9 (.bool true)).drop (3 + 6) = rwC (shut r) zCells:=rfl
end Vw
namespace K
section
variable {n : NN} {Q : Exit → Act → World → Prop} {l : Env} {w w' : World} {ops : Array Oper} {o : Oper} {rest : List Oper} {d : Nat}
end
section
variable {B rb : Nat} {w : World} {l : List Int} {e : Int}
end
end K
namespace K
section
variable {T b : Nat} {w w' : World} {e : En} {dc : List Value}
theorem EnAt.setText (h : EnAt T b w e dc) (s : ByteArray) : EnAt T b (w.setCell ⟨b,1,none⟩ (.string s)) { e with text:=s } dc:=⟨h.blk.set 1 (.string s),h.dl,h.hl⟩
theorem EnAt.setTable (h : EnAt T b w e dc) (x : Int) : EnAt T b (w.setCell ⟨b,2,none⟩ (.int .i64 x)) { e with table:=x } dc:=⟨h.blk.set 2 (.int .i64 x),h.dl,h.hl⟩
theorem EnAt.setDoc (h : EnAt T b w e dc) (x : Int) : EnAt T b (w.setCell ⟨b,3,none⟩ (.int .i64 x)) { e with doc:=x } dc:=⟨h.blk.set 3 (.int .i64 x),h.dl,h.hl⟩
theorem EnAt.setVer (h : EnAt T b w e dc) (x : Int) : EnAt T b (w.setCell ⟨b,4,none⟩ (.int .i64 x)) { e with ver:=x } dc:=⟨h.blk.set 4 (.int .i64 x),h.dl,h.hl⟩
theorem EnAt.setGone (h : EnAt T b w e dc) (g : Bool) : EnAt T b (w.setCell ⟨b,43,none⟩ (.bool g)) { e with gone:=g } dc:=by
  refine ⟨?_,h.dl,h.hl⟩;have:=h.blk.set 43 (.bool g);have e1 : (enC e dc).set 43 (.bool g) = enC { e with gone:=g } dc:=by
    have h1 : enC e dc = (.int .i64 e.kind :: .string e.text :: .int .i64 e.table :: .int .i64 e.doc :: .int .i64 e.ver :: (dc ++ hashC e.hash)) ++ [.bool e.gone,.int .i64 e.ab,.int .i64 e.ae]:=by simp [enC]
    have h2 : (Value.int IntKind.i64 e.kind :: .string e.text :: .int .i64 e.table :: .int .i64 e.doc :: .int .i64 e.ver :: (dc ++ hashC e.hash)).length = 43:=by simp [h.dl,h.hl]
    rw [h1,List.set_append_right _ _ (by omega),h2];simp [enC]
  rwa [e1] at this
theorem EnAt.setData (h : EnAt T b w e dc) {m : List Value} {off : Nat} (v : V) (hm : m.length = 6) (ho : off = 5) : EnAt T b (w.setRow b ((enC e dc).take off ++ m ++ (enC e dc).drop (off + 6)).toArray) { e with data:=v } m:=by
  subst ho;refine ⟨?_,hm,h.hl⟩;have:=h.blk.setRow ((enC e dc).take 5 ++ m ++ (enC e dc).drop (5 + 6));have e1 : (enC e dc).take 5 ++ m ++ (enC e dc).drop (5 + 6) = enC { e with data:=v } m:=by
    have : (enC e dc).drop 11 = hashC e.hash ++ [.bool e.gone,.int .i64 e.ab,.int .i64 e.ae]:=by
      unfold enC;simp only [List.drop_succ_cons];rw [List.drop_append,List.drop_eq_nil_of_le (by rw [h.dl];omega),h.dl];simp
    rw [this];simp [enC]
  rw [e1] at this ⊢;exact this
theorem EnAt.setHash (h : EnAt T b w e dc) {hh : List Int} {off : Nat} (hl : hh.length = 32) (ho : off = 11) : EnAt T b (w.setRow b ((enC e dc).take off ++ hashC hh ++ (enC e dc).drop (off + 32)).toArray) { e with hash:=hh } dc:=by
  subst ho;refine ⟨?_,h.dl,hl⟩;have:=h.blk.setRow ((enC e dc).take 11 ++ hashC hh ++ (enC e dc).drop (11 + 32));have e1 : (enC e dc).take 11 ++ hashC hh ++ (enC e dc).drop (11 + 32) = enC { e with hash:=hh } dc:=by
    have h1 : enC e dc = (.int .i64 e.kind :: .string e.text :: .int .i64 e.table :: .int .i64 e.doc :: .int .i64 e.ver :: dc) ++ (hashC e.hash ++ [.bool e.gone,.int .i64 e.ab,.int .i64 e.ae]):=by simp [enC]
    have h2 : (Value.int IntKind.i64 e.kind :: .string e.text :: .int .i64 e.table :: .int .i64 e.doc :: .int .i64 e.ver :: dc).length = 11:=by simp [h.dl]
    have h3 : (hashC e.hash).length = 32:=by simp [h.hl]
    rw [h1,List.take_append_of_le_length (by omega),← h2,List.take_length,List.drop_append,List.drop_eq_nil_of_le (by omega)];rw [Nat.add_sub_cancel_left,← h3,List.drop_left']
    · simp [enC]
    · rfl
  rw [e1] at this ⊢;exact this
theorem EnAt.setAt (h : EnAt T b w e dc) {off : Nat} (x y : Int) (ho : off = 44) : EnAt T b (w.setRow b ((enC e dc).take off ++ [Value.int .i64 x,.int .i64 y] ++ (enC e dc).drop (off + 2)).toArray) { e with ab:=x,ae:=y } dc:=by
  subst ho;refine ⟨?_,h.dl,h.hl⟩;have:=h.blk.setRow ((enC e dc).take 44 ++ [Value.int .i64 x,.int .i64 y] ++ (enC e dc).drop (44 + 2));have e1 : (enC e dc).take 44 ++ [Value.int .i64 x,.int .i64 y] ++ (enC e dc).drop (44 + 2) = enC { e with ab:=x,ae:=y } dc:=by
    have h1 : enC e dc = (.int .i64 e.kind :: .string e.text :: .int .i64 e.table :: .int .i64 e.doc :: .int .i64 e.ver :: (dc ++ (hashC e.hash ++ [.bool e.gone]))) ++ [.int .i64 e.ab,.int .i64 e.ae]:=by simp [enC]
    have h2 : (Value.int IntKind.i64 e.kind :: .string e.text :: .int .i64 e.table :: .int .i64 e.doc :: .int .i64 e.ver :: (dc ++ (hashC e.hash ++ [.bool e.gone]))).length = 44:=by simp [h.dl,h.hl]
    rw [h1,List.take_append_of_le_length (by omega),← h2,List.take_length,List.drop_eq_nil_of_le (by simp;omega)];simp [enC]
  rw [e1] at this ⊢;exact this
end
theorem within_any (n lo hi : Int) (w : World) : Calls Tryz.prog 53 #[.int .i64 n,.int .i64 lo,.int .i64 hi] w fun e w' => e = .returned (.bool (decide (lo ≤ n ∧ n ≤ hi))) ∧ w' = w:=by
  refine enter (args:=[.int .i64 n,.int .i64 lo,.int .i64 hi]) Tryz.func53 rfl Tryz.ntmps53 rfl ?_
  by_cases h1 : lo ≤ n
  · by_cases h2 : n ≤ hi
    · refine K.kgo ?_
      exact WQ.ret1 rfl rfl ⟨by rw [decide_eq_true ⟨h1,h2⟩],rfl⟩
    · refine K.kgo ?_
      exact WQ.ret1 rfl rfl ⟨by rw [decide_eq_false fun h => h2 h.2],rfl⟩
  · refine K.kgo ?_
    exact WQ.ret1 rfl rfl ⟨by rw [decide_eq_false fun h => h1 h.1],rfl⟩
theorem zV_ext {v : V} (h1 : v.k = 0) (h2 : v.n = 0) (h3 : v.s = 0) (h4 : v.t.size = 0) (h5 : v.names.length = 0) (h6 : v.kids.length = 0) : v = zV :=
  V.ext' h1 h2 h3 (noT_of h4) (List.eq_nil_of_length_eq_zero h5) (List.eq_nil_of_length_eq_zero h6)
theorem txt_empty (s : ByteArray) : (s.toList == (ByteArray.mk #[]).toList) = decide (s.size = 0):=by
  have h0 : (ByteArray.mk #[]).toList = []:=by decide +kernel
  have hl : s.toList.length = s.size:=by rw [ByteArray.toList_eq];rfl
  rw [h0];cases h : s.toList with
  | nil => rw [h] at hl;simp at hl;simp [← hl]
  | cons a r => rw [h] at hl;simp at hl;simp [← hl]
theorem blank_any {f : Nat} {w : World} {v : V} {cs : List Value} (h : IsV f w v cs) :
    Calls Tryz.prog 96 #[.agg cs.toArray] w fun e w' => (∃ b,e = .returned (.bool b) ∧ (b = true ↔ v = zV)) ∧ Below w.heap.size w w':=by
  cases f with
  | zero => exact h.elim
  | succ f =>
  obtain ⟨sn,sk,rfl,-,-,-,-,⟨np,nc,rfl,-⟩,⟨kp,kc,rfl,-⟩⟩:=h;refine enter (args:=[.agg (six v (.slice np v.names.length nc) (.slice kp v.kids.length kc)).toArray]) Tryz.func96 rfl Tryz.ntmps96 rfl ?_;refine K.kgo ?_;refine WL.box rfl rfl rfl rfl rfl fun g w1 hf => ?_;have hf' : Fresh w g w1 48 (six v (.slice np v.names.length nc) (.slice kp v.kids.length kc)):=hf;clear hf;have B:=hf'.blk;have no : ¬ v = zV → (∃ b,Ending.returned (Value.bool false) = .returned (.bool b) ∧ (b = true ↔ v = zV)) ∧ Below w.heap.size w w1:=fun h => ⟨⟨false,rfl,by simp [h]⟩,hf'.below⟩;refine K.kgo ?_;refine WL.load rfl rfl rfl rfl rfl rfl (B.cell 0 (by simp)) ?_
  by_cases e1 : v.k = 0
  rotate_left
  · refine K.kgo ?_
    exact WQ.ret1 rfl rfl (no fun e => e1 (by rw [e];rfl))
  refine K.kgo ?_;refine WL.load rfl rfl rfl rfl rfl rfl (B.cell 1 (by simp)) ?_
  by_cases e2 : v.n = 0
  rotate_left
  · refine K.kgo ?_
    exact WQ.ret1 rfl rfl (no fun e => e2 (by rw [e];rfl))
  refine K.kgo ?_;refine WL.load rfl rfl rfl rfl rfl rfl (B.cell 2 (by simp)) ?_
  by_cases e3 : v.s = 0
  rotate_left
  · refine K.kgo ?_
    exact WQ.ret1 rfl rfl (no fun e => e3 (by rw [e];rfl))
  refine K.kgo ?_;refine WL.load rfl rfl rfl rfl rfl rfl (B.cell 3 (by simp)) ?_;refine WL.on rfl rfl ?_;refine WL.pureAs (.bool (decide (v.t.size = 0))) rfl rfl rfl rfl (congrArg Value.bool (txt_empty v.t)) ?_
  by_cases e4 : v.t.size = 0
  rotate_left
  · refine K.kgo ?_
    exact WQ.ret1 rfl rfl (no fun e => e4 (by rw [e];rfl))
  refine K.kgo ?_;refine WL.load rfl rfl rfl rfl rfl rfl (B.cell 4 (by simp)) ?_
  by_cases e5 : v.names.length = 0
  rotate_left
  · refine K.kgo ?_
    exact WQ.ret1 rfl rfl (no fun e => e5 (by rw [e];rfl))
  refine K.kgo ?_;refine WL.load rfl rfl rfl rfl rfl rfl (B.cell 5 (by simp)) ?_
  by_cases e6 : v.kids.length = 0
  rotate_left
  · refine K.kgo ?_
    exact WQ.ret1 rfl rfl (no fun e => e6 (by rw [e];rfl))
  refine K.kgo ?_;exact WQ.ret1 rfl rfl ⟨⟨true,rfl,⟨fun _ => zV_ext e1 e2 e3 e4 e5 e6,fun _ => rfl⟩⟩,hf'.below⟩
theorem or_zero {a b : Int} (ha : R64 a) (hb : R64 b) : bits .or .i64 a b = 0 ↔ a = 0 ∧ b = 0:=by
  have key : bits .or .i64 a b = IntKind.i64.wrap ((BitVec.ofInt 64 a ||| BitVec.ofInt 64 b).toNat : Int):=rfl;have wz : ∀ n : Nat,n < 18446744073709551616 → (IntKind.i64.wrap (n : Int) = 0 ↔ n = 0):=fun n hn => by rw [IntKind.wrap_i64];omega
  have z : ∀ x : Int,R64 x → (BitVec.ofInt 64 x = 0#64 ↔ x = 0):=fun x hx => by
    constructor
    · intro h
      have:=congrArg BitVec.toNat h;rw [BitVec.toNat_ofInt] at this;simp at this
      omega
    · rintro rfl;rfl
  rw [key,wz _ (BitVec.isLt _),← z a ha,← z b hb,← BitVec.or_eq_zero_iff]
  constructor
  · intro h;exact BitVec.eq_of_toNat_eq (by rw [h];rfl)
  · intro h;rw [h];rfl
theorem or_r64 (a b : Int) : R64 (bits .or .i64 a b):=by
  have key : bits .or .i64 a b = IntKind.i64.wrap ((BitVec.ofInt 64 a ||| BitVec.ofInt 64 b).toNat : Int):=rfl;rw [key,IntKind.wrap_i64];omega
end K
namespace K
variable {n : NN} {Q : Exit → Act → World → Prop} {l : Env} {w w' : World} {ops : Array Oper} {o : Oper} {rest : List Oper} {d : Nat}
end K
namespace K
section
variable {T b : Nat} {w w' : World} {e : En} {dc : List Value}
end
end K
namespace K
theorem addr_eql (a b c d : Int) (W : World) : (binOp .eql 50 (.agg #[.int .i64 a,.int .i64 b]) (.agg #[.int .i64 c,.int .i64 d])).run Tryz.prog W = .ok (.bool (decide (a = c ∧ b = d))) W:=by
  have hq : (Tryz.prog.info? 3).map (·.size) = some 1:=by kernel_rfl
  obtain ⟨ie, hie, hsz⟩ := Option.map_eq_some_iff.1 hq; rw [run_eql_struct, show (10000 : Nat) = (9998 + 1) + 1 from rfl, run_equalIn_agg W (9998 + 1) _ _ _ (by kernel_rfl) (by kernel_rfl)]; generalize hN : 9998 + 1 = N; have hf : ∃ f1 f2, (Tryz.prog.fieldsOf 50).toList = [f1, f2] ∧ (f1.name == "_") = false ∧ f1.type = 3 ∧ f1.offset = 0 ∧ (f2.name == "_") = false ∧ f2.type = 3 ∧ f2.offset = 1 :=
    ⟨(Tryz.prog.fieldsOf 50).toList[0]!,(Tryz.prog.fieldsOf 50).toList[1]!,by kernel_rfl,by kernel_rfl,by kernel_rfl,by kernel_rfl,by kernel_rfl,by kernel_rfl,by kernel_rfl⟩
  obtain ⟨f1, f2, hl, n1, t1, o1, n2, t2, o2⟩ := hf; have hu := Tryz.underlying3; rw [hl]; have n1' : f1.name ≠ "_" := by simpa using n1
  have n2' : f2.name ≠ "_" := by simpa using n2
  have hp : ∀ (xs : Array Value) (off : Nat) (v : Value),xs[off]? = some v → (part 3 xs off).run Tryz.prog W = .ok v W:=fun xs off v h => by
    unfold part isAgg;simp [run_underlying hu,h]
  have e1 : (Op.equalIn N 3 (.int .i64 a) (.int .i64 c)).run Tryz.prog W = .ok (a == c) W:=by rw [← hN];exact run_equalIn_int (P:=Tryz.prog) W 9998 3 .i64 .i64 a c hu
  have e2 : (Op.equalIn N 3 (.int .i64 b) (.int .i64 d)).run Tryz.prog W = .ok (b == d) W:=by rw [← hN];exact run_equalIn_int (P:=Tryz.prog) W 9998 3 .i64 .i64 b d hu
  have p1:=hp #[Value.int .i64 a,.int .i64 b] 0 _ rfl;have p2:=hp #[Value.int .i64 c,.int .i64 d] 0 _ rfl;have p3:=hp #[Value.int .i64 a,.int .i64 b] 1 _ rfl;have p4:=hp #[Value.int .i64 c,.int .i64 d] 1 _ rfl;simp only [Op.eqFields,if_pos n1',if_pos n2',t1,t2,o1,o2,Sem.run_bind,Sem.run_ite,p1,p2,Result.andThen_ok]
  erw [e1]
  by_cases h1 : a = c
  · subst h1
    simp only [Result.andThen_ok,beq_self_eq_true,Bool.not_true,Bool.false_eq_true,if_false]
    erw [p3]
    simp only [Result.andThen_ok]
    erw [p4]
    simp only [Result.andThen_ok]
    erw [e2]
    by_cases h2 : b = d
    · simp [h2]
    · simp [h2]
  · simp [h1]
theorem addr_guard (x y : Operand) (a b : Array Value) (W : World) : (eqGuard .eql 50 x y (.agg a) (.agg b)).run Tryz.prog W = .ok () W:=by
  have h : Tryz.prog.eqGuardType Tryz.prog.depth 50 = false:=by kernel_rfl
  simp [eqGuard,h]
section
variable {n : NN} {Q : Exit → Act → World → Prop} {l : Env} {w w' : World} {ops : Array Oper} {o : Oper} {rest : List Oper} {d : Nat}
theorem WL.eqlA {x y : Operand} {t2 : Nat} {a b a2 b2 : Int} (hg : o.guard = none) (hd : o.dst = some d) (hn : Nat.blt d n.n = true) (ho : o.op = .binOp .eql 50 x y t2) (hx : evl l x = some (.agg #[.int .i64 a,.int .i64 b])) (hy : evl l y = some (.agg #[.int .i64 a2,.int .i64 b2]))
    (h : WL n ops Q rest ((d,.bool (decide (a = a2 ∧ b = b2))) :: l) w) : WL n ops Q (o :: rest) l w :=
  WL.step hg hd hn (fun c hc => by
    unfold execOp;rw [ho];simp only [hc.eval hx,hc.eval hy,Sem.run_bind,addr_guard,Result.andThen_ok,addr_eql a b a2 b2 w]
    rfl) h
end
theorem nothing_any {f : Nat} {w : World} {e : En} {dc : List Value} (hv : IsV f w e.data dc) (hh : e.hash.length = 32) (hr : R64 e.table ∧ R64 e.doc ∧ R64 e.ver) :
    Calls Tryz.prog 95 #[.agg (enC e dc).toArray] w fun r w' => (∃ b,r = .returned (.bool b) ∧ (b = true ↔ nilE e)) ∧ Below w.heap.size w w':=by
  have hdl:=hv.len;refine enter (args:=[.agg (enC e dc).toArray]) Tryz.func95 rfl Tryz.ntmps95 rfl ?_;refine K.kgo ?_;refine WL.box rfl rfl rfl rfl rfl fun g w1 hf => ?_;have hf' : Fresh w g w1 52 (enC e dc):=hf;clear hf;have B : EnAt _ g w1 e dc:=⟨hf'.blk,hdl,hh⟩;have hw1:=hf'.below;clear hf';have no : ∀ {wx : World},Below w.heap.size w wx → ¬ nilE e → (∃ b,Ending.returned (Value.bool false) = .returned (.bool b) ∧ (b = true ↔ nilE e)) ∧ Below w.heap.size w wx:=fun h1 h => ⟨⟨false,rfl,by simp [h]⟩,h1⟩;refine K.kgo ?_;refine WL.load rfl rfl rfl rfl rfl rfl B.text ?_;refine WL.pureAs (.bool (decide (e.text.size = 0))) rfl rfl rfl rfl (congrArg Value.bool (txt_empty e.text)) ?_
  by_cases e1 : e.text.size = 0
  rotate_left
  · refine K.kgo ?_
    exact WQ.ret1 rfl rfl (no hw1 fun h => e1 h.1)
  refine K.kgo ?_;refine WL.load rfl rfl rfl rfl rfl rfl B.table ?_;refine K.kgo ?_;refine WL.load rfl rfl rfl rfl rfl rfl B.doc ?_;refine K.kgo ?_;refine WL.load rfl rfl rfl rfl rfl rfl B.ver ?_;have hor : bits .or .i64 (bits .or .i64 e.table e.doc) e.ver = 0 ↔ (e.table = 0 ∧ e.doc = 0) ∧ e.ver = 0:=by rw [or_zero (or_r64 _ _) hr.2.2,or_zero hr.1 hr.2.1]
  by_cases e2 : bits .or .i64 (bits .or .i64 e.table e.doc) e.ver = 0
  rotate_left
  · refine K.kgo ?_
    exact WQ.ret1 rfl rfl (no hw1 fun h => e2 (hor.2 ⟨⟨h.2.1,h.2.2.1⟩,h.2.2.2.1⟩))
  obtain ⟨⟨e3,e4⟩,e5⟩:=hor.1 e2;refine K.kgo ?_;refine WL.loadMid rfl rfl rfl rfl rfl rfl B.data hdl ?_;refine WL.on rfl rfl ?_;refine WL.call rfl rfl rfl rfl rfl Tryz.func96 rfl (by kernel_rfl) (blank_any (hv.below hw1)) ?_;rintro _ w2 ⟨⟨b,rfl,hb⟩,hk2⟩;refine ⟨_,rfl,?_⟩;have hw2 : Below w.heap.size w w2:=hw1.trans (hk2.mono hw1.size);have B2:=B.below hk2;cases b with
  | false =>
    refine K.kgo ?_;exact WQ.ret1 rfl rfl (no hw2 fun h => by have:=hb.2 h.2.2.2.2.1;cases this)
  | true =>
    have e6:=hb.1 rfl;refine K.kgo ?_;refine WL.loadMid rfl rfl rfl rfl rfl rfl B2.hash (by rw [List.length_map];exact hh) ?_;refine WL.on rfl rfl ?_;refine WL.build (hashC Dig.Z32) rfl rfl rfl rfl rfl (by kernel_rfl) ?_;refine WL.on rfl rfl ?_;refine WL.eqlH rfl rfl rfl rfl rfl rfl hh rfl ?_
    by_cases e7 : e.hash = Dig.Z32
    rotate_left
    · refine WL.as 26 (.bool false) rfl (congrArg Value.bool (decide_eq_false e7)) ?_
      refine K.kgo ?_;exact WQ.ret1 rfl rfl (no hw2 fun h => e7 h.2.2.2.2.2.1)
    refine WL.as 26 (.bool true) rfl (congrArg Value.bool (decide_eq_true e7)) ?_;refine K.kgo ?_;refine WL.load rfl rfl rfl rfl rfl rfl B2.gone ?_;cases e8 : e.gone with
    | true =>
      refine K.kgo ?_;exact WQ.ret1 rfl rfl (no hw2 fun h => by have:=h.2.2.2.2.2.2.1;rw [e8] at this;cases this)
    | false =>
      refine K.kgo ?_;refine WL.loadMid rfl rfl rfl rfl rfl rfl B2.at' rfl ?_;refine WL.on rfl rfl ?_;refine WL.build [.int .i64 0,.int .i64 0] rfl rfl rfl rfl rfl (by kernel_rfl) ?_;refine WL.on rfl rfl ?_;refine WL.eqlA rfl rfl rfl rfl rfl rfl ?_
      by_cases e9 : e.ab = 0 ∧ e.ae = 0
      · refine WL.as 37 (.bool true) rfl (congrArg Value.bool (decide_eq_true e9)) ?_
        refine K.kgo ?_;exact WQ.ret1 rfl rfl ⟨⟨true,rfl,⟨fun _ => ⟨e1,e3,e4,e5,e6,e7,e8,e9.1,e9.2⟩,fun _ => rfl⟩⟩,hw2⟩
      · refine WL.as 37 (.bool false) rfl (congrArg Value.bool (decide_eq_false e9)) ?_
        refine K.kgo ?_;exact WQ.ret1 rfl rfl (no hw2 fun h => e9 ⟨h.2.2.2.2.2.2.2.1,h.2.2.2.2.2.2.2.2⟩)
end K
end Go.Proofs.YtchgjaaadfjiiaaGreat
