/- Texts for LawVwRp, part 8 of 9. -/
import Derived.Test.YtchgjaaadfjiiaaGreatZLawVwRp7
import Derived.SizedLaws
import Derived.DataOpen
import Derived.ChangeMaps5
namespace Go.Proofs.YtchgjaaadfjiiaaGreat
open Go.RowKit Go.Maps
namespace Vw
open K
set_option maxRecDepth 100000
def PPost (w : World) (vb : Nat) (M D : Nat → Prop) (f : Nat) (c : Int) (s' : St) (N : Nat) (e : Ending) (w' : World) : Prop :=
  e = .returned (.int .i64 c) ∧ Keep (fun b => b < w.heap.size ∧ ¬ M b) w w' ∧ (c = 0 → ∃ M' D',PVs w' vb M' D' f s' N ∧ (∀ b,M' b → M b ∨ w.heap.size ≤ b) ∧ ∀ b,D' b → D b ∨ w.heap.size ≤ b)
theorem three_ne : (3 : Int) ≠ 0:=by decide
theorem ones_of {a b : Int} : Ones [Value.int .i64 a,.int .i64 b]:=ones2
theorem builtPRow (a b c g h i : Int) (d e : Bool) (v1 v2 v3 : Int) (t : ByteArray) (sp sq : Option Addr) (n1 n2 c1 c2 : Nat) :
    Tryz.prog.built prT [(0,.int .i64 a),(1,.int .i64 b),(2,.int .i64 c),(3,.agg #[.int .i64 v1,.int .i64 v2,.int .i64 v3,.string t,.slice sp n1 c1,.slice sq n2 c2]),(4,.bool d),(5,.bool e),(6,.int .i64 g),(7,.int .i64 h),(8,.int .i64 i)] =
      some [Value.int .i64 a,.int .i64 b,.int .i64 c,.int .i64 v1,.int .i64 v2,.int .i64 v3,.string t,.slice sp n1 c1,.slice sq n2 c2,.bool d,.bool e,.int .i64 g,.int .i64 h,.int .i64 i].toArray:=by kernel_rfl
theorem docF_snoc (L : List Rw) (r : Rw) : docF (L ++ [r]) = if r.ver = 0 then mfPut (docF L) r.tab (.int .i64 ((cnt r.tab L : Int) + 1)) else docF L:=by
  funext t
  by_cases h0 : r.ver = 0
  · rw [if_pos h0]
    unfold mfPut
    by_cases ht : t = r.tab
    · subst ht
      rw [if_pos rfl];unfold docF;have e1 : cnt r.tab (L ++ [r]) = cnt r.tab L + 1:=by rw [cnt_snoc,if_pos ⟨rfl,h0⟩]
      rw [e1,if_neg (by omega)]
      rfl
    · rw [if_neg ht]
      unfold docF;have e1 : cnt t (L ++ [r]) = cnt t L:=by rw [cnt_snoc,if_neg (fun q => ht q.1.symm),Nat.add_zero]
      rw [e1]
  · rw [if_neg h0]
    unfold docF;have e1 : cnt t (L ++ [r]) = cnt t L:=by rw [cnt_snoc,if_neg (fun q => h0 q.2),Nat.add_zero]
    rw [e1]
theorem plcF_snoc (L : List Rw) (r : Rw) (hnew : ∀ x ∈ L,x.adr ≠ r.adr) : plcF (L ++ [r]) = if r.del = true then plcF L else mfPut (plcF L) r.adr (mk2 r.key):=by
  funext a
  unfold plcF;rw [List.find?_append]
  by_cases ha : a = r.adr
  · subst ha
    have hn : L.find? (fun x => decide (x.adr = r.adr) && !x.del) = none:=by
      rw [List.find?_eq_none];intro x hx;simp [hnew x hx]
    rw [hn];cases hd : r.del with
    | true =>
      rw [if_pos rfl]
      show _ = Option.map _ (L.find? (fun x => decide (x.adr = r.adr) && !x.del))
      rw [hn];simp [hd]
    | false => rw [if_neg (by decide)];simp [hd,mfPut]
  · have hr : [r].find? (fun x => decide (x.adr = a) && !x.del) = none:=by
      rw [List.find?_eq_none];intro x hx;rw [List.mem_singleton.1 hx];simp [show ¬ r.adr = a from fun q => ha q.symm]
    rw [hr,Option.or_none];cases hd : r.del with
    | true => rw [if_pos rfl]
    | false => rw [if_neg (by decide)];unfold mfPut;rw [if_neg ha]
theorem PG.congrD {w : World} {vb : Nat} {M D : Nat → Prop} {f n : Nat} {cat : List Cat.Tb} {A : Int × Int → List Rw} {dF dF' : Int → Option Value} {pF nF : Int × Int → Option Value} {cp : Nat} {Oc : Nat → Prop} {mr md mp mn k : Nat} {F : Int × Int → Option Value}
    (h : PG w vb M D f n cat A dF pF nF cp Oc mr md mp mn k F) (e : dF' = dF) : PG w vb M D f n cat A dF' pF nF cp Oc mr md mp mn k F:=e ▸ h
theorem sl_one {w : World} {g : Nat} {T m : Nat} {cs : List Value} (hf : VBlk T w g cs) (h1 : Ones cs) (hc : cs.length = m) : SlV w (fun b => b = g) m (.slice (some ⟨g,0,none⟩) 1 1) 1 cs :=
  ⟨by rw [hc,Nat.one_mul],h1,_,1,rfl,Nat.le_refl _,by omega,(fun h => by cases h),fun _ => ⟨g,0,rfl,hf.lt,rfl,RowV.of_vblk hf⟩⟩
set_option maxHeartbeats 32000000 in
theorem pentry_any {w : World} {vb : Nat} {M D : Nat → Prop} {f : Nat} {s : St} {N : Nat} (h0 : PVs w vb M D f s N) (hN : N + 4 ≤ 1000000) (hI : Inv s) {E : Nat → Prop} {b : Bk} {bc : List Value} (hb : IsBo E f w b bc) (k : Nat) (hk6 : k ≤ 1000000) (hU : Und s b.index k)
    {e : En} {ec : List Value} (hEM : ∀ x, E x → ¬ M x) (hep : EnP (IsVo E f w) e ec) (hform : formE e) (hsm : Sm 3000 f e.data) :
    Calls Tryz.prog 32 #[.pointer (some ⟨vb, 0, none⟩), .agg ec.toArray, .agg bc.toArray, .int .i64 k] w (PPost w vb M D f (entR s e b.index k b.time).1 (entR s e b.index k b.time).2 (N + 4)) := by
  obtain ⟨cp, Oc, mr, md, mp, mn, kc, F, h⟩ := id h0; obtain ⟨se, rfl, hents, hpl, hpb, rbi, rti, -⟩ := hb; have hE := ent_of hep; obtain ⟨dc, rfl, hdv, hdl, hd1, hhl, hhb, htx, hr6⟩ := hep; have hel : (enC e dc).length = 46 := by simp [enC, hdl, hhl]
  have hlt := h.lt; have hok := h.ok; have rk : R64 (k : Int) := ⟨by omega, by omega⟩; refine enter (args := [.pointer (some ⟨vb, 0, none⟩), .agg (enC e dc).toArray, .agg (bkC b se).toArray, .int .i64 k]) Tryz.func32 rfl Tryz.ntmps32 rfl ?_; refine K.kgn ?_; refine WL.box rfl rfl rfl rfl rfl fun g5 w1 f1 => ?_; refine WL.box rfl rfl rfl rfl rfl fun g6 w2 f2 => ?_; have E5 : EnAt enT g5 w2 e dc := ⟨VBlk.below f1.blk f2.below f1.blk.lt, hdl, hhl⟩; have B6 : BkAt bkT g6 w2 b se := ⟨f2.blk, hpl⟩; have b2 := f1.below.trans (f2.below.mono f1.below.size); have q5 : w.heap.size ≤ g5 ∧ w.heap.size ≤ g6 := ⟨by have := f1.eq; omega, by have := f2.eq; have := f1.below.size; omega⟩; clear f1 f2; have ci := B6.index; refine K.kgl ?_; refine WL.build [Value.int .i64 b.index, .int .i64 k] rfl rfl rfl rfl rfl (builtAd _ _) ?_; refine WL.alloc (z := .agg [Value.int .i64 0, .int .i64 0].toArray) rfl rfl rfl rfl (fun _ => by kernel_rfl) fun g9 w3 f3 => ?_; refine WL.storeRow rfl rfl rfl rfl rfl rfl f3.blk rfl rfl ones_of ?_; obtain ⟨v9, b3, e9, -⟩ := rowed [Value.int .i64 b.index, .int .i64 k] (Below.refl w2.heap.size w2) f3; have q9 : w.heap.size ≤ g9 := by have := f3.eq; have := b2.size; omega
  generalize w3.setRow g9 _ = w4 at v9 b3 ⊢; clear f3 e9 ci; have l5 := VBlk.lt E5.blk; have l6 := VBlk.lt B6.blk; replace E5 := E5.keep (Keep.of_below b3) l5; replace B6 : BkAt bkT g6 w4 b se := ⟨VBlk.below B6.blk b3 l6, hpl⟩; replace b2 := b2.trans (b3.mono b2.size); clear l5 l6 b3 w3 w2 w1; have ct := E5.table; have cd := E5.doc; refine K.kgl ?_; refine WL.build [Value.int .i64 e.table, .int .i64 e.doc] rfl rfl rfl rfl rfl (builtKe _ _) ?_; refine WL.alloc (z := .agg [Value.int .i64 0, .int .i64 0].toArray) rfl rfl rfl rfl (fun _ => by kernel_rfl) fun g10 w5 f5 => ?_; refine WL.storeRow rfl rfl rfl rfl rfl rfl f5.blk rfl rfl ones_of ?_; obtain ⟨v10, b3, e9, -⟩ := rowed [Value.int .i64 e.table, .int .i64 e.doc] (Below.refl w4.heap.size w4) f5; have q10 : w.heap.size ≤ g10 := by have := f5.eq; have := b2.size; omega
  generalize w5.setRow g10 _ = w1 at v10 b3 ⊢; clear f5 e9 ct cd; have l5 := VBlk.lt E5.blk; have l6 := VBlk.lt B6.blk; have l9 := VBlk.lt v9; replace E5 := E5.keep (Keep.of_below b3) l5; replace B6 : BkAt bkT g6 w1 b se := ⟨VBlk.below B6.blk b3 l6, hpl⟩; replace v9 := VBlk.below v9 b3 l9; have b1 := b2.trans (b3.mono b2.size); clear l5 l6 l9 b3 b2 w5 w4; have l5 := VBlk.lt E5.blk; have l6 := VBlk.lt B6.blk; have l9 := VBlk.lt v9; have l10 := VBlk.lt v10; have h1 := h.below b1; have z1 := b1.size; have hdv1 := hdv.keep (O' := E) (Keep.of_below b1) (fun x _ h => h) (fun x h => h); have c0 := h1.vbk.cell 0 (by simp); have c1 := h1.vbk.cell 1 (by simp); have c2 := h1.vbk.cell 2 (by simp); have c3 := h1.vbk.cell 3 (by simp); have c4 := h1.vbk.cell 4 (by simp); simp only [List.getD_cons_succ, List.getD_cons_zero] at c0 c1 c2 c3 c4; have lvb := h1.lt vb (.inl h1.mvb); have ck := E5.kind; have bad : ∀ {c : Int} {s' : St} {wx : World}, c ≠ 0 → Keep (fun x => x < w.heap.size ∧ ¬ M x) w wx → PPost w vb M D f c s' (N + 4) (.returned (.int .i64 c)) wx := fun hc hk => ⟨rfl, hk, fun q => absurd q hc⟩; have kb : ∀ {wx : World}, Below w1.heap.size w1 wx → Keep (fun x => x < w.heap.size ∧ ¬ M x) w wx := fun hx => (Keep.of_below (b1.trans (hx.mono z1))).mono fun x hx => hx.1; refine K.kgl ?_
  by_cases h23 : e.kind = 2 ∨ e.kind = 3
  case pos =>
    obtain ⟨ht1, hd1', hv1, h3v⟩ := form_ver hform h23; have rt : R64 e.table := ⟨by omega, by omega⟩; have rd : R64 e.doc := ⟨by omega, by omega⟩; obtain ⟨ha0, -⟩ := app_none (L := s.cat) (kind := e.kind) (txt := e.text) (tbl := e.table) (by omega) (by omega) (by omega); have hR : entR s e b.index k b.time = if (Cat.tabR s.cat e.table).2.2 ≠ 0 ∨ (Cat.tabR s.cat e.table).2.1.dropped = true ∨ fits s e = false then (3, s) else (0, { s with rows := s.rows ++ [rowOf e b.index k b.time] }) := by
      unfold entR; rw [if_neg (by simpa using ha0), if_pos h23]
    rw [hR, hI.fit hform h23]; refine WC.mid (fun _ : Unit => [(0, .pointer (some ⟨vb, 0, none⟩)), (3, .int .i64 k), (5, .pointer (some ⟨g5, 0, none⟩)), (6, .pointer (some ⟨g6, 0, none⟩)), (9, .pointer (some ⟨g9, 0, none⟩)), (10, .pointer (some ⟨g10, 0, none⟩)), (37, .bool true)]) (fun _ w' => w' = w1) rfl ?_ ?_
    · rcases h23 with e2 | e3
      · refine WC.condT rfl e2 ?_
        refine K.kgo ?_; exact WQ.meet () ⟨rfl, rfl, rfl, rfl, rfl, rfl, congrArg (fun z => some (Value.bool z)) (decide_eq_true e2), trivial⟩ rfl
      · refine WC.condF rfl (by omega) ?_
        refine K.kgo ?_; exact WQ.meet () ⟨rfl, rfl, rfl, rfl, rfl, rfl, rfl, trivial⟩ rfl
    rintro ⟨⟩ w1 rfl; refine K.kgo ?_; refine WC.mid (fun g : Nat => [(0, .pointer (some ⟨vb, 0, none⟩)), (3, .int .i64 k), (5, .pointer (some ⟨g5, 0, none⟩)), (6, .pointer (some ⟨g6, 0, none⟩)), (9, .pointer (some ⟨g9, 0, none⟩)), (10, .pointer (some ⟨g10, 0, none⟩)), (11, .pointer (some ⟨g, 0, none⟩)), (12, .int .i64 (Cat.tabR s.cat e.table).2.2)])
      (fun g w' => Below w1.heap.size w1 w' ∧ g < w'.heap.size ∧ w'.cell? ⟨g, 2, none⟩ = some (.bool (Cat.tabR s.cat e.table).2.1.dropped)) rfl ?_ ?_
    · refine WC.drawn 6 (fun wx => Below w1.heap.size w1 wx) fun wa hdr => ?_
      have hS : Below w1.heap.size w1 wa := hdr.below _; refine K.fr [0, 1, 2, 4] hS ?_; refine K.wl 3 [6, 7, 8, 9, 11, 12] rfl rfl rfl rfl rfl rfl rfl (fun wx hx => (hx.cell (p := ⟨vb, 0, none⟩) lvb).trans c0) hS ?_; refine K.wl 5 [6, 7, 8, 9, 11, 12] rfl rfl rfl rfl rfl rfl rfl (fun wx hx => (hx.cell (p := ⟨g5, 2, none⟩) l5).trans E5.table) hS ?_; refine WD.two 6 10 (by kernel_rfl) rfl rfl ?_ ?_
      · skip
        refine WL.call rfl rfl rfl rfl rfl Tryz.func50 rfl (by kernel_rfl) (Cat.table_any (h1.below hS).cat e.table) ?_; rintro _ wb ⟨sp, c, rfl, ho, bb1⟩; refine ⟨_, rfl, ?_⟩; refine K.dl ?_
        (refine K.fzl 7 rfl (q := ?_); refine K.fzl 8 rfl (q := ?_); refine K.fzl 9 rfl (q := ?_))
        refine K.wo 10 ?_; refine WL.alloc (z := .agg Cr.zTab.toArray) rfl rfl rfl rfl zeroCb fun gt wc f9 => ?_; refine K.dl ?_; refine K.wo 11 ?_; refine WL.storeRow rfl rfl rfl rfl rfl rfl f9.blk rfl rfl (Cr.ones4 rfl) ?_; obtain ⟨vf, bf, -, -⟩ := rowed [Value.int .i64 (Cat.tabR s.cat e.table).1, .string (Cat.tabR s.cat e.table).2.1.name, .bool (Cat.tabR s.cat e.table).2.1.dropped, .slice sp (Cat.tabR s.cat e.table).2.1.fs.length c] bb1 f9; replace bf := hS.trans (bf.mono hS.size); refine K.dl ?_
        (refine K.fzl 12 rfl (q := ?_))
        refine WD.done (by kernel_rfl) ?_; refine K.kgo ?_; exact WQ.meet gt ⟨rfl, rfl, rfl, rfl, rfl, rfl, rfl, rfl, trivial⟩ ⟨bf, vf.lt, vf.cell 2 (by simp)⟩
      · skip
        refine WL.alloc (z := .agg Cr.zTab.toArray) rfl rfl rfl rfl zeroCb fun gt wc f9 => ?_; have hSc := hS.trans (f9.below.mono hS.size); refine K.di hSc ?_; refine K.wo 6 ?_; refine WL.call rfl rfl rfl rfl rfl Tryz.func50 rfl (by kernel_rfl) (Cat.table_any (h1.below hSc).cat e.table) ?_; rintro _ wb ⟨sp, c, rfl, ho, bb1⟩; refine ⟨_, rfl, ?_⟩; refine K.dl ?_
        (refine K.fzl 7 rfl (q := ?_); refine K.fzl 8 rfl (q := ?_); refine K.fzl 9 rfl (q := ?_))
        refine K.wo 11 ?_; have vt9 := VBlk.below f9.blk bb1 f9.blk.lt; refine WL.storeRow rfl rfl rfl rfl rfl rfl vt9 rfl rfl (Cr.ones4 rfl) ?_; have vf := vt9.setRow [Value.int .i64 (Cat.tabR s.cat e.table).1, .string (Cat.tabR s.cat e.table).2.1.name, .bool (Cat.tabR s.cat e.table).2.1.dropped, .slice sp (Cat.tabR s.cat e.table).2.1.fs.length c]; have hge := f9.eq; have hgz := hS.size; have bf := (Cr.keepRow (K := fun x => x < w1.heap.size) (g := gt) (Keep.of_below (hSc.trans (bb1.mono hSc.size))) (fun hh => by omega) [Value.int .i64 (Cat.tabR s.cat e.table).1, .string (Cat.tabR s.cat e.table).2.1.name, .bool (Cat.tabR s.cat e.table).2.1.dropped, .slice sp (Cat.tabR s.cat e.table).2.1.fs.length c].toArray).below; refine K.dl ?_
        (refine K.fzl 12 rfl (q := ?_))
        refine WD.done (by kernel_rfl) ?_; refine K.kgo ?_; exact WQ.meet gt ⟨rfl, rfl, rfl, rfl, rfl, rfl, rfl, rfl, trivial⟩ ⟨bf, vf.lt, vf.cell 2 (by simp)⟩
    rintro g11 w3 ⟨b3, lg11, cdr⟩; have h3 := h1.below b3; replace E5 := E5.keep (Keep.of_below b3) l5; replace B6 : BkAt bkT g6 w3 b se := ⟨VBlk.below B6.blk b3 l6, hpl⟩; replace v9 := VBlk.below v9 b3 l9; replace v10 := VBlk.below v10 b3 l10; replace hdv1 := hdv1.keep (O' := E) (Keep.of_below b3) (fun x _ h => h) (fun x h => h); replace c1 := (b3.cell (p := ⟨vb, 1, none⟩) lvb).trans c1; replace c2 := (b3.cell (p := ⟨vb, 2, none⟩) lvb).trans c2; replace c3 := (b3.cell (p := ⟨vb, 3, none⟩) lvb).trans c3; have z3 := b3.size; replace kb : ∀ {wx : World}, Below w3.heap.size w3 wx → Keep (fun x => x < w.heap.size ∧ ¬ M x) w wx := fun hx => kb (b3.trans (hx.mono z3)); have bw3 := b1.trans (b3.mono z1); replace l5 := VBlk.lt E5.blk; replace l6 := VBlk.lt B6.blk; replace l9 := VBlk.lt v9; replace l10 := VBlk.lt v10; replace lvb := h3.lt vb (.inl h3.mvb); have c3ge : w.heap.size ≤ w3.heap.size := by omega
    clear h1 b1 b3 z1 z3 c0 c4 ck hR; have hcode : ∀ q, q = (Cat.tabR s.cat e.table).2.2 → q = 0 → (Cat.tabR s.cat e.table).2.2 = 0 := fun q h1 h2 => h1.symm.trans h2; generalize hcd : (Cat.tabR s.cat e.table).2.2 = code; generalize (Cat.tabR s.cat e.table).2.1.dropped = dr at cdr ⊢
    by_cases c9 : code = 0
    case neg =>
      rw [if_pos (.inl c9)]; refine K.kgo ?_; exact WQ.ret1 rfl rfl (bad three_ne (kb (Below.refl _ _)))
    case pos =>
    cases dr with
    | true =>
      rw [if_pos (.inr (.inl rfl))]; refine K.kgl ?_; exact WQ.ret1 rfl rfl (bad three_ne (kb (Below.refl _ _)))
    | false =>
    have hlk : ∀ {wx : World}, Below w3.heap.size w3 wx → (Instr.lookup 80 (.map (some mr)) (mk2 (e.table, e.doc)) false).run Tryz.prog wx = .ok ((F (e.table, e.doc)).getD (.slice none 0 0)) wx := fun hx => (h3.below hx).lookR rt rd; have hel3 := h3.els (e.table, e.doc); have hLl := of_len s.rows (e.table, e.doc); generalize hFe : (F (e.table, e.doc)).getD (.slice none 0 0) = sv at hlk hel3; have hfit : fitP s e = if e.kind = 2 ∧ e.ver = 0 then decide (e.doc = next s e.table) else match (Vw.of s.rows (e.table, e.doc)).getLast? with | some r => !r.del && decide (e.ver = (Vw.of s.rows (e.table, e.doc)).length) | none => false := rfl
    generalize hLe : Vw.of s.rows (e.table, e.doc) = L at hel3 hLl hfit; obtain ⟨sp, cap, rfl, hsl1, hsl2, hsl3, -⟩ := id hel3; refine K.kgl ?_; refine WC.drawn 6 (fun wx => Below w3.heap.size w3 wx) fun wa hdr => ?_; have hS : Below w3.heap.size w3 wa := hdr.below _; clear hdr; refine K.fr [0, 1, 2] hS ?_; refine K.wl 3 [5, 6] rfl rfl rfl rfl rfl rfl rfl (fun wx hx => (hx.cell (p := ⟨vb, 1, none⟩) lvb).trans c1) hS ?_; refine K.wm 4 [5, 6] rfl rfl rfl rfl rfl rfl rfl (fun wx hx => VBlk.rangeAt (VBlk.below v10 hx l10)) rfl hS ?_; refine WD.look 5 [6] rfl (by kernel_rfl) rfl rfl (fun _ _ _ _ _ h => h) rfl rfl rfl rfl (fun wx hx => hlk hx) hS ?_; refine K.wo 6 ?_; refine WL.pure rfl rfl rfl rfl ?_; refine K.dl ?_; refine WD.done (by kernel_rfl) ?_
    repeat (first | refine WC.seq ?_ | refine WQ.then rfl ?_)
    have hSz := hS.size; refine WC.mid (fun _ : Unit => [(0, .pointer (some ⟨vb, 0, none⟩)), (3, .int .i64 k), (5, .pointer (some ⟨g5, 0, none⟩)), (6, .pointer (some ⟨g6, 0, none⟩)), (9, .pointer (some ⟨g9, 0, none⟩)), (10, .pointer (some ⟨g10, 0, none⟩)), (13, .slice sp L.length cap), (14, .bool (decide (e.kind = 2 ∧ e.ver = 0)))]) (fun _ w' => w' = wa) rfl ?_ ?_
    · have ck := (hS.cell (p := ⟨g5, 0, none⟩) l5).trans E5.kind
      have cv := (hS.cell (p := ⟨g5, 4, none⟩) l5).trans E5.ver
      by_cases k2 : e.kind = 2
      · refine K.kgl ?_
        exact WQ.meet () ⟨rfl, rfl, rfl, rfl, rfl, rfl, rfl, congrArg (fun z => some (Value.bool z)) (decide_eq_decide.2 ⟨fun q => ⟨k2, q⟩, fun q => q.2⟩), trivial⟩ rfl
      · refine K.kgl ?_
        exact WQ.meet () ⟨rfl, rfl, rfl, rfl, rfl, rfl, rfl, congrArg (fun z => some (Value.bool z)) (decide_eq_false fun q => k2 q.1).symm, trivial⟩ rfl
    rintro ⟨⟩ wa rfl; refine K.kgo ?_; refine WC.mid (fun _ : Unit => [(0, .pointer (some ⟨vb, 0, none⟩)), (3, .int .i64 k), (5, .pointer (some ⟨g5, 0, none⟩)), (6, .pointer (some ⟨g6, 0, none⟩)), (9, .pointer (some ⟨g9, 0, none⟩)), (10, .pointer (some ⟨g10, 0, none⟩)), (13, .slice sp L.length cap), (14, .bool (decide (e.kind = 2 ∧ e.ver = 0))), (104, .bool (!fitP s e))]) (fun _ w' => Below w3.heap.size w3 w') rfl ?_ ?_
    · by_cases hfr : e.kind = 2 ∧ e.ver = 0
      case pos =>
        rw [if_pos hfr] at hfit; have hfd := decide_eq_true hfr; rw [hfd]
        by_cases hdn : e.doc = next s e.table
        · refine WC.drawn 34 (fun wx => Below w3.heap.size w3 wx) fun wb hdr2 => ?_
          have hS0 : Below w3.heap.size w3 wb := hS.trans (hdr2.below _); clear hS; have hS := hS0; refine K.fr [0, 1, 2] hS ?_; refine K.wl 3 [8, 9, 10, 11, 12, 13, 14, 15, 16, 17, 18, 19, 20, 21, 22, 23, 24, 25, 26, 27, 28, 29, 30, 31, 32, 33, 34] rfl rfl rfl rfl rfl rfl rfl (fun wx hx => (hx.cell (p := ⟨g5, 3, none⟩) l5).trans E5.doc) hS ?_; refine K.fr [4, 5] hS ?_; refine K.wl 6 [7, 8, 9, 10, 11, 12, 13, 14, 15, 16, 17, 18, 19, 20, 21, 22, 23, 24, 25, 26, 27, 28, 29, 30, 31, 32, 33, 34] rfl rfl rfl rfl rfl rfl rfl (fun wx hx => (hx.cell (p := ⟨g5, 2, none⟩) l5).trans E5.table) hS ?_; refine K.wo 7 ?_; refine WL.on rfl rfl ?_; refine WL.call rfl rfl rfl rfl rfl Tryz.func23 rfl (by kernel_rfl) (pnext_any (PVs.below ⟨_, _, _, _, _, _, _, _, h3⟩ hS) rt) ?_; rintro _ wc ⟨rfl, bc⟩; refine ⟨_, rfl, ?_⟩; replace hS := hS.trans (bc.mono hS.size); refine K.di hS ?_; refine K.fr [8, 9, 10, 11, 12, 13, 14, 15, 16, 17, 18, 19, 20, 21] hS ?_; refine K.fr [22] hS ?_; refine K.fr [23] hS ?_; refine K.fr [24] hS ?_; refine K.fr [25, 26, 27] hS ?_; refine K.fr [28] hS ?_; refine K.fr [29, 30, 31, 32, 33] hS ?_; refine K.wo 34 ?_; refine WL.pure rfl rfl rfl rfl ?_; refine K.dl ?_; refine WD.done (by kernel_rfl) ?_; refine K.kgo ?_; exact WQ.meet () ⟨rfl, rfl, rfl, rfl, rfl, rfl, rfl, rfl, congrArg (fun z => some (Value.bool z)) (by rw [hfit, decide_eq_true hdn]; rfl), trivial⟩ hS
        · refine WC.drawn 34 (fun wx => Below w3.heap.size w3 wx) fun wb hdr2 => ?_
          have hS0 : Below w3.heap.size w3 wb := hS.trans (hdr2.below _); clear hS; have hS := hS0; refine K.fr [0, 1, 2] hS ?_; refine K.wl 3 [8, 9, 10, 11, 12, 13, 14, 15, 16, 17, 18, 19, 20, 21, 22, 23, 24, 25, 26, 27, 28, 29, 30, 31, 32, 33, 34] rfl rfl rfl rfl rfl rfl rfl (fun wx hx => (hx.cell (p := ⟨g5, 3, none⟩) l5).trans E5.doc) hS ?_; refine K.fr [4, 5] hS ?_; refine K.wl 6 [7, 8, 9, 10, 11, 12, 13, 14, 15, 16, 17, 18, 19, 20, 21, 22, 23, 24, 25, 26, 27, 28, 29, 30, 31, 32, 33, 34] rfl rfl rfl rfl rfl rfl rfl (fun wx hx => (hx.cell (p := ⟨g5, 2, none⟩) l5).trans E5.table) hS ?_; refine K.wo 7 ?_; refine WL.on rfl rfl ?_; refine WL.call rfl rfl rfl rfl rfl Tryz.func23 rfl (by kernel_rfl) (pnext_any (PVs.below ⟨_, _, _, _, _, _, _, _, h3⟩ hS) rt) ?_; rintro _ wc ⟨rfl, bc⟩; refine ⟨_, rfl, ?_⟩; replace hS := hS.trans (bc.mono hS.size); refine K.di hS ?_; refine K.fr [8, 9, 10, 11, 12, 13, 14, 15, 16, 17, 18, 19, 20, 21] hS ?_; refine K.fr [22] hS ?_; refine K.fr [23] hS ?_; refine K.fr [24] hS ?_; refine K.fr [25, 26, 27] hS ?_; refine K.fr [28] hS ?_; refine K.fr [29, 30, 31, 32, 33] hS ?_; refine K.wo 34 ?_; refine WL.pure rfl rfl rfl rfl ?_; refine K.dl ?_; refine WD.done (by kernel_rfl) ?_; refine K.kgo ?_; exact WQ.meet () ⟨rfl, rfl, rfl, rfl, rfl, rfl, rfl, rfl, congrArg (fun z => some (Value.bool z)) (by rw [hfit, decide_eq_false hdn]; rfl), trivial⟩ hS
      case neg =>
        rw [if_neg hfr] at hfit; have hfd := decide_eq_false hfr; rw [hfd]
        by_cases hn0 : L.length = 0
        case pos =>
          obtain rfl : L = [] := List.eq_nil_of_length_eq_zero hn0; refine WC.drawn 34 (fun wx => Below w3.heap.size w3 wx) fun wb hdr2 => ?_; have hS0 : Below w3.heap.size w3 wb := hS.trans (hdr2.below _); clear hS; have hS := hS0; refine K.fr [0, 1, 2] hS ?_; refine K.fr [3] hS ?_; refine K.fr [4, 5] hS ?_; refine K.fr [6] hS ?_; refine K.fr [7] hS ?_; refine K.fr [8, 9, 10, 11, 12, 13, 14, 15, 16, 17, 18, 19, 20, 21] hS ?_; refine K.fr [22] hS ?_; refine K.fr [23] hS ?_; refine K.fr [24] hS ?_; refine K.fr [25, 26, 27] hS ?_; refine K.fr [28] hS ?_; refine K.fr [29, 30, 31, 32, 33] hS ?_; refine K.wo 34 ?_; refine WL.pure rfl rfl rfl rfl ?_; refine K.dl ?_; refine WD.done (by kernel_rfl) ?_; refine K.kgo ?_; exact WQ.meet () ⟨rfl, rfl, rfl, rfl, rfl, rfl, rfl, rfl, congrArg (fun z => some (Value.bool z)) (by rw [hfit]; rfl), trivial⟩ hS
        case neg =>
        have hi : L.length - 1 < L.length := by omega
        have hla : L.getLast? = some (L.getD (L.length - 1) noR) := by rw [List.getLast?_eq_getElem?, List.getD_eq_getElem?_getD, List.getElem?_eq_getElem hi]; rfl
        rw [hla] at hfit; obtain ⟨b9, o9, cap9, dc9, es, lb9, -, R9, -, -, -⟩ := els_at hel3 hi; obtain ⟨rfl, rfl⟩ : sp = some ⟨b9, o9, none⟩ ∧ cap = cap9 := by simpa using es
        clear es; have R9d := R9.del; have eNi : ((L.length : Int) - 1) = ((L.length - 1 : Nat) : Int) := by omega
        cases hrd : (L.getD (L.length - 1) noR).del with
        | true =>
          rw [hrd] at R9d; have hff : fitP s e = false := by rw [hfit]; simp only; rw [hrd]; rfl
          rw [hff]; refine WC.drawn 34 (fun wx => Below w3.heap.size w3 wx) fun wb hdr2 => ?_; have hS0 : Below w3.heap.size w3 wb := hS.trans (hdr2.below _); clear hS; have hS := hS0; refine K.fr [0, 1, 2] hS ?_; refine K.fr [3] hS ?_; refine K.fr [4, 5] hS ?_; refine K.fr [6] hS ?_; refine K.fr [7] hS ?_; refine K.fr [8, 9, 10, 11, 12, 13, 14, 15, 16, 17, 18, 19, 20, 21] hS ?_; refine K.wi 22 (L.length - 1) (o9 + (L.length - 1) * 14) rfl rfl rfl rfl rfl rfl rfl rfl (by omega) hi rfl (.inr hS) ?_; refine K.fr [23] hS ?_; refine K.wl 24 [25, 26, 27, 28, 29, 30, 31, 32, 33, 34] rfl rfl rfl rfl rfl rfl rfl (fun wx hx => (hx.cell (p := ⟨b9, o9 + (L.length - 1) * 14 + 10, none⟩) lb9).trans R9d) hS ?_; refine K.fr [25, 26, 27] hS ?_; refine K.fr [28] hS ?_; refine K.fr [29, 30, 31, 32, 33] hS ?_; refine K.wo 34 ?_; refine WL.pure rfl rfl rfl rfl ?_; refine K.dl ?_; refine WD.done (by kernel_rfl) ?_; refine K.kgo ?_; exact WQ.meet () ⟨rfl, rfl, rfl, rfl, rfl, rfl, rfl, rfl, rfl, trivial⟩ hS
        | false =>
          rw [hrd] at R9d; have hff : fitP s e = decide (e.ver = L.length) := by rw [hfit]; simp only; rw [hrd]; rfl
          rw [hff]
          by_cases hvl : e.ver = L.length
          · rw [decide_eq_true hvl]
            refine WC.drawn 34 (fun wx => Below w3.heap.size w3 wx) fun wb hdr2 => ?_; have hS0 : Below w3.heap.size w3 wb := hS.trans (hdr2.below _); clear hS; have hS := hS0; refine K.fr [0, 1, 2] hS ?_; refine K.fr [3] hS ?_; refine K.fr [4, 5] hS ?_; refine K.fr [6] hS ?_; refine K.fr [7] hS ?_; refine K.fr [8, 9, 10, 11, 12, 13, 14, 15, 16, 17, 18, 19, 20, 21] hS ?_; refine K.wi 22 (L.length - 1) (o9 + (L.length - 1) * 14) rfl rfl rfl rfl rfl rfl rfl rfl (by omega) hi rfl (.inr hS) ?_; refine K.fr [23] hS ?_; refine K.wl 24 [25, 26, 27, 28, 29, 30, 31, 32, 33, 34] rfl rfl rfl rfl rfl rfl rfl (fun wx hx => (hx.cell (p := ⟨b9, o9 + (L.length - 1) * 14 + 10, none⟩) lb9).trans R9d) hS ?_; refine K.fr [25, 26, 27] hS ?_; refine K.wl 28 [31, 32, 33, 34] rfl rfl rfl rfl rfl rfl rfl (fun wx hx => (hx.cell (p := ⟨g5, 4, none⟩) l5).trans E5.ver) hS ?_; refine K.fr [29, 30, 31, 32, 33] hS ?_; refine K.wo 34 ?_; refine WL.pure rfl rfl rfl rfl ?_; refine K.dl ?_; refine WD.done (by kernel_rfl) ?_; refine K.kgo ?_; exact WQ.meet () ⟨rfl, rfl, rfl, rfl, rfl, rfl, rfl, rfl, rfl, trivial⟩ hS
          · rw [decide_eq_false hvl]
            refine WC.drawn 34 (fun wx => Below w3.heap.size w3 wx) fun wb hdr2 => ?_; have hS0 : Below w3.heap.size w3 wb := hS.trans (hdr2.below _); clear hS; have hS := hS0; refine K.fr [0, 1, 2] hS ?_; refine K.fr [3] hS ?_; refine K.fr [4, 5] hS ?_; refine K.fr [6] hS ?_; refine K.fr [7] hS ?_; refine K.fr [8, 9, 10, 11, 12, 13, 14, 15, 16, 17, 18, 19, 20, 21] hS ?_; refine K.wi 22 (L.length - 1) (o9 + (L.length - 1) * 14) rfl rfl rfl rfl rfl rfl rfl rfl (by omega) hi rfl (.inr hS) ?_; refine K.fr [23] hS ?_; refine K.wl 24 [25, 26, 27, 28, 29, 30, 31, 32, 33, 34] rfl rfl rfl rfl rfl rfl rfl (fun wx hx => (hx.cell (p := ⟨b9, o9 + (L.length - 1) * 14 + 10, none⟩) lb9).trans R9d) hS ?_; refine K.fr [25, 26, 27] hS ?_; refine K.wl 28 [31, 32, 33, 34] rfl rfl rfl rfl rfl rfl rfl (fun wx hx => (hx.cell (p := ⟨g5, 4, none⟩) l5).trans E5.ver) hS ?_; refine K.fr [29, 30, 31, 32, 33] hS ?_; refine K.wo 34 ?_; refine WL.pure rfl rfl rfl rfl ?_; refine K.dl ?_; refine WD.done (by kernel_rfl) ?_; refine K.kgo ?_; exact WQ.meet () ⟨rfl, rfl, rfl, rfl, rfl, rfl, rfl, rfl, rfl, trivial⟩ hS
    rintro ⟨⟩ w4 b4; cases hfb : fitP s e with
    | false =>
      rw [if_pos (.inr (.inr rfl))]; refine K.kgo ?_; exact WQ.ret1 rfl rfl (bad three_ne (kb b4))
    | true =>
    rw [if_neg (fun q => by rcases q with q | q | q; · exact q c9
                            · cases q
                            · cases q)]
    have hv0 : e.ver = 0 → e.kind = 2 := fun q => h23.elim id fun x => by have := h3v x; omega
    have hnew : ∀ x ∈ s.rows, x.adr ≠ (b.index, (k : Int)) := fun x hx q => by
      have q1 : x.blk = b.index := congrArg Prod.fst q; have q2 : x.ent = (k : Int) := congrArg Prod.snd q; have := hU x hx; omega
    have hdoc := docF_snoc s.rows (rowOf e b.index k b.time); have hplc := plcF_snoc s.rows (rowOf e b.index k b.time) hnew; have h4 := h3.below b4; have z4 := b4.size; replace E5 := E5.keep (Keep.of_below b4) l5; replace B6 : BkAt bkT g6 w4 b se := ⟨VBlk.below B6.blk b4 l6, hpl⟩; replace v9 := VBlk.below v9 b4 l9; replace v10 := VBlk.below v10 b4 l10; replace hdv1 := hdv1.keep (O' := E) (Keep.of_below b4) (fun x _ h => h) (fun x h => h); replace c1 := (b4.cell (p := ⟨vb, 1, none⟩) lvb).trans c1; replace c2 := (b4.cell (p := ⟨vb, 2, none⟩) lvb).trans c2; replace c3 := (b4.cell (p := ⟨vb, 3, none⟩) lvb).trans c3; replace l5 := VBlk.lt E5.blk; replace l6 := VBlk.lt B6.blk; replace l9 := VBlk.lt v9; replace l10 := VBlk.lt v10; have k4 := kb b4; have lmd := hlt md (.inl h.mmd); have lmr := hlt mr (.inl h.mmr); have lmp := hlt mp (.inl h.mmp); have lvb0 := hlt vb (.inl h.mvb); have zz4 : w.heap.size ≤ w4.heap.size := by omega
    have hlD := h4.lookD (t := e.table) rt; have hvbn := h4.pg.vb_ne; have hG4 : PG w4 vb M D f s.n s.cat (Vw.of s.rows) (docF s.rows) (plcF s.rows) (namF s.red) cp Oc mr md mp mn kc F := h4.pg; have hok4 := h4.ok; have hlD4 : ∀ {wx : World}, Below w4.heap.size w4 wx → (Instr.lookup 81 (.map (some md)) (.int .i64 e.table) false).run Tryz.prog wx = .ok (.int .i64 (cnt e.table s.rows : Nat)) wx := fun hx => (h4.below hx).lookD rt; have hcl := cnt_le e.table s.rows; clear h3 b4 kb hlk cdr hlD bw3 lg11 h4 hS hSz z4; refine K.kgo ?_; refine WC.mid (fun _ : Unit => [(0, .pointer (some ⟨vb, 0, none⟩)), (3, .int .i64 k), (5, .pointer (some ⟨g5, 0, none⟩)), (6, .pointer (some ⟨g6, 0, none⟩)), (9, .pointer (some ⟨g9, 0, none⟩)), (10, .pointer (some ⟨g10, 0, none⟩)), (13, .slice sp L.length cap)]) (fun _ w' => Keep (fun x => x < w4.heap.size ∧ x ≠ md) w4 w' ∧ PG w' vb M D f s.n s.cat (Vw.of s.rows) (docF (s.rows ++ [rowOf e b.index k b.time])) (plcF s.rows) (namF s.red) cp Oc mr md mp mn (kc + 1) F) rfl ?_ ?_
    · by_cases hfr : e.kind = 2 ∧ e.ver = 0
      · refine WC.condT rfl hfr ?_
        rw [if_pos (show (rowOf e b.index k b.time).ver = 0 from hfr.2)] at hdoc; refine K.kgn ?_; refine WC.drawn 8 (fun wx => Below w4.heap.size w4 wx) fun wb hdr => ?_; have hS : Below w4.heap.size w4 wb := hdr.below _; clear hdr; refine K.fr [0, 1, 2] hS ?_; refine K.wl 3 [6, 7, 8] rfl rfl rfl rfl rfl rfl rfl (fun wx hx => (hx.cell (p := ⟨vb, 2, none⟩) (show vb < w4.heap.size by omega)).trans c2) hS ?_; refine K.fr [4] hS ?_; refine K.wl 5 [6, 7, 8] rfl rfl rfl rfl rfl rfl rfl (fun wx hx => (hx.cell (p := ⟨g5, 2, none⟩) l5).trans E5.table) hS ?_; refine WD.look 6 [7, 8] rfl (by kernel_rfl) rfl rfl (fun _ _ _ _ _ h => h) rfl rfl rfl rfl (fun wx hx => hlD4 hx) hS ?_; refine K.fr [7] hS ?_; refine K.wo 8 ?_; obtain ⟨w', hr', hk', hg'⟩ := (hG4.below hS).putD (by omega) rt (.int .i64 ((cnt e.table s.rows : Int) + 1)); refine WL.upd rfl rfl rfl rfl rfl rfl hr' ?_; refine K.dl ?_; refine WD.done (by kernel_rfl) ?_; refine K.kgo ?_; exact WQ.meet () ⟨rfl, rfl, rfl, rfl, rfl, rfl, rfl, trivial⟩ ⟨((Keep.of_below hS).mono fun x hx => hx.1).trans (hk'.mono fun x hx => hx.2), hg'.congrD hdoc⟩
      · refine WC.condF rfl hfr ?_
        rw [if_neg (show ¬ (rowOf e b.index k b.time).ver = 0 from fun q => hfr ⟨hv0 q, q⟩)] at hdoc; refine K.kgo ?_; exact WQ.meet () ⟨rfl, rfl, rfl, rfl, rfl, rfl, rfl, trivial⟩ ⟨Keep.refl _ _, (hG4.kmono (Nat.le_succ kc)).congrD hdoc⟩
    rintro ⟨⟩ w5 ⟨k5, hG5⟩; clear hdoc hlD4 hG4; have z5 := k5.size; replace E5 := E5.keep k5 ⟨l5, by omega⟩; replace B6 : BkAt bkT g6 w5 b se := ⟨B6.blk.keep k5 ⟨l6, by omega⟩, hpl⟩; replace v9 := v9.keep k5 ⟨l9, by omega⟩; replace v10 := v10.keep k5 ⟨l10, by omega⟩; replace hdv1 := hdv1.keep (O' := E) k5 (fun x hx hl => ⟨hl, fun q => hEM x hx (q ▸ h.mmd)⟩) (fun x h => h); replace c1 := (k5.cell (p := ⟨vb, 1, none⟩) ⟨by show vb < w4.heap.size; omega, hvbn.2.1.symm⟩).trans c1; replace c3 := (k5.cell (p := ⟨vb, 3, none⟩) ⟨by show vb < w4.heap.size; omega, hvbn.2.1.symm⟩).trans c3; replace l5 := VBlk.lt E5.blk; replace l6 := VBlk.lt B6.blk; replace l9 := VBlk.lt v9; replace l10 := VBlk.lt v10; replace k4 : Keep (fun x => x < w.heap.size ∧ ¬ M x) w w5 := k4.trans (k5.mono fun x hx => ⟨by omega, fun q => hx.2 (q ▸ h.mmd)⟩); clear k5 c2; have hPrP : ∀ {wx : World} {cs' : List Value} {P : Nat → Prop}, IsVo P f wx e.data cs' → RowP P f wx (rowOf e b.index k b.time) (rwC (rowOf e b.index k b.time) cs') := fun hvo => ⟨_, rfl, hvo, ⟨hr6.2.1, hr6.2.2.1, hr6.2.2.2.1, rbi, rk, rti⟩, hsm⟩; refine K.kgo ?_; refine WC.mid (fun x : Nat × List Value => [(0, .pointer (some ⟨vb, 0, none⟩)), (3, .int .i64 k), (5, .pointer (some ⟨g5, 0, none⟩)), (6, .pointer (some ⟨g6, 0, none⟩)), (9, .pointer (some ⟨g9, 0, none⟩)), (10, .pointer (some ⟨g10, 0, none⟩)), (13, .slice sp L.length cap), (15, .pointer (some ⟨x.1, 0, none⟩))])
      (fun x w' => Below w5.heap.size w5 w' ∧ VBlk prT w' x.1 (rwC (rowOf e b.index k b.time) x.2) ∧ IsVo (fun y => w5.heap.size ≤ y ∧ y < w'.heap.size) f w' e.data x.2) rfl ?_ ?_
    · refine WC.drawn 21 (fun wx => Below w5.heap.size w5 wx) fun wa2 hdr => ?_
      have hS : Below w5.heap.size w5 wa2 := hdr.below _; clear hdr; refine K.fr [0] hS ?_; refine K.wl 1 [19, 21] rfl rfl rfl rfl rfl rfl rfl (fun wx hx => (hx.cell (p := ⟨g5, 2, none⟩) l5).trans E5.table) hS ?_; refine K.fr [2] hS ?_; refine K.wl 3 [19, 21] rfl rfl rfl rfl rfl rfl rfl (fun wx hx => (hx.cell (p := ⟨g5, 3, none⟩) l5).trans E5.doc) hS ?_; refine K.fr [4] hS ?_; refine K.wl 5 [19, 21] rfl rfl rfl rfl rfl rfl rfl (fun wx hx => (hx.cell (p := ⟨g5, 4, none⟩) l5).trans E5.ver) hS ?_; refine K.fr [6] hS ?_; refine K.wm 7 [8, 19, 21] rfl rfl rfl rfl rfl rfl rfl (fun wx hx => (E5.keep (Keep.of_below hx) l5).data) hdl hS ?_; refine K.fr [9] hS ?_; refine K.wl 10 [19, 21] rfl rfl rfl rfl rfl rfl rfl (fun wx hx => (hx.cell (p := ⟨g5, 43, none⟩) l5).trans E5.gone) hS ?_; refine K.fr [11] hS ?_; refine K.wl 12 [13, 19, 21] rfl rfl rfl rfl rfl rfl rfl (fun wx hx => (hx.cell (p := ⟨g5, 0, none⟩) l5).trans E5.kind) hS ?_; refine K.fr [13, 14] hS ?_; refine K.wl 15 [19, 21] rfl rfl rfl rfl rfl rfl rfl (fun wx hx => (hx.cell (p := ⟨g6, 0, none⟩) l6).trans B6.index) hS ?_; refine K.fr [16, 17] hS ?_; refine K.wl 18 [19, 21] rfl rfl rfl rfl rfl rfl rfl (fun wx hx => (hx.cell (p := ⟨g6, 1, none⟩) l6).trans B6.time) hS ?_; have zS := hS.size; refine WD.two 8 20 (by kernel_rfl) rfl rfl ?_ ?_
      · skip
        refine WL.call rfl rfl rfl rfl rfl Tryz.func56 rfl (by kernel_rfl) (vown_any (B := 3000) (by omega) f (hdv1.keep (O' := E) (Keep.of_below hS) (fun x _ h => h) (fun x h => h)).isV hsm) ?_; rintro _ wb ⟨bb1, cs', rfl, hvo⟩; refine ⟨_, rfl, ?_⟩; obtain ⟨sp', sq', n1', n2', c1', c2', rfl⟩ := vo_six hvo; have zb := bb1.size; have hS0 := hS; replace hS := hS.trans (bb1.mono zS); refine K.di hS ?_; refine Cr.WDbuild (rwC (rowOf e b.index k b.time) [.int .i64 e.data.k, .int .i64 e.data.n, .int .i64 e.data.s, .string e.data.t, .slice sp' n1' c1', .slice sq' n2' c2']) 19 rfl (by kernel_rfl) rfl rfl (fun _ _ _ _ _ h => h) rfl rfl rfl (builtPRow _ _ _ _ _ _ _ _ _ _ _ _ _ _ _ _ _ _) (.inr hS) ?_; refine K.wo 20 ?_; refine WL.alloc (z := .agg (rwC noR zCells).toArray) rfl rfl rfl rfl (fun _ => by kernel_rfl) fun g15 wc f9 => ?_; have bc := f9.below; have eg := f9.eq; have hS2 := hS.trans (bc.mono hS.size); refine K.di hS2 ?_; refine K.wo 21 ?_; refine WL.storeRow rfl rfl rfl rfl rfl rfl f9.blk rfl rfl (rwC_one hvo.one) ?_; have v15 := VBlk.setRow f9.blk (rwC (rowOf e b.index k b.time) [.int .i64 e.data.k, .int .i64 e.data.n, .int .i64 e.data.s, .string e.data.t, .slice sp' n1' c1', .slice sq' n2' c2']); have k15 : Keep (fun x => x < wb.heap.size) wb (wc.setRow g15 (rwC (rowOf e b.index k b.time) [.int .i64 e.data.k, .int .i64 e.data.n, .int .i64 e.data.s, .string e.data.t, .slice sp' n1' c1', .slice sq' n2' c2']).toArray) := Cr.keepRow (Keep.of_below bc) (fun hh => by omega) _; have zz := k15.size; have hvo2 := hvo.there.keep (O' := fun y => w5.heap.size ≤ y ∧ y < (wc.setRow g15 (rwC (rowOf e b.index k b.time) [.int .i64 e.data.k, .int .i64 e.data.n, .int .i64 e.data.s, .string e.data.t, .slice sp' n1' c1', .slice sq' n2' c2']).toArray).heap.size) k15 (fun x hx _ => hx.2) (fun x hx => ⟨by omega, by omega⟩); refine K.dl ?_; refine WD.done (by kernel_rfl) ?_; refine K.kgo ?_; exact WQ.meet (g15, _) ⟨rfl, rfl, rfl, rfl, rfl, rfl, rfl, rfl, trivial⟩ ⟨hS.trans ((k15.below).mono hS.size), v15, hvo2⟩
      · skip
        refine WL.alloc (z := .agg (rwC noR zCells).toArray) rfl rfl rfl rfl (fun _ => by kernel_rfl) fun g15 wc f9 => ?_; have bc := f9.below; have eg := f9.eq; have hS2 := hS.trans (bc.mono zS); have zc := bc.size; have sc := f9.size; refine K.di hS2 ?_; refine K.wo 8 ?_; refine WL.call rfl rfl rfl rfl rfl Tryz.func56 rfl (by kernel_rfl) (vown_any (B := 3000) (by omega) f (hdv1.keep (O' := E) (Keep.of_below hS2) (fun x _ h => h) (fun x h => h)).isV hsm) ?_; rintro _ wb ⟨bb1, cs', rfl, hvo⟩; refine ⟨_, rfl, ?_⟩; obtain ⟨sp', sq', n1', n2', c1', c2', rfl⟩ := vo_six hvo; have zb := bb1.size; have hS0 := hS; replace hS := hS2.trans (bb1.mono hS2.size); refine K.di hS ?_; refine Cr.WDbuild (rwC (rowOf e b.index k b.time) [.int .i64 e.data.k, .int .i64 e.data.n, .int .i64 e.data.s, .string e.data.t, .slice sp' n1' c1', .slice sq' n2' c2']) 19 rfl (by kernel_rfl) rfl rfl (fun _ _ _ _ _ h => h) rfl rfl rfl (builtPRow _ _ _ _ _ _ _ _ _ _ _ _ _ _ _ _ _ _) (.inr hS) ?_; refine K.wo 21 ?_; have v15 := VBlk.below f9.blk bb1 f9.blk.lt; refine WL.storeRow rfl rfl rfl rfl rfl rfl v15 rfl rfl (rwC_one hvo.one) ?_; replace v15 := VBlk.setRow v15 (rwC (rowOf e b.index k b.time) [.int .i64 e.data.k, .int .i64 e.data.n, .int .i64 e.data.s, .string e.data.t, .slice sp' n1' c1', .slice sq' n2' c2']); have k15 : Keep (fun x => x ≠ g15) wb (wb.setRow g15 (rwC (rowOf e b.index k b.time) [.int .i64 e.data.k, .int .i64 e.data.n, .int .i64 e.data.s, .string e.data.t, .slice sp' n1' c1', .slice sq' n2' c2']).toArray) := Cr.keepRow (Keep.refl _ _) (by simp) _; have zz := k15.size; have hvo2 := hvo.there.keep (O' := fun y => w5.heap.size ≤ y ∧ y < (wb.setRow g15 (rwC (rowOf e b.index k b.time) [.int .i64 e.data.k, .int .i64 e.data.n, .int .i64 e.data.s, .string e.data.t, .slice sp' n1' c1', .slice sq' n2' c2']).toArray).heap.size) k15 (fun x hx _ => by have := hx.1; omega) (fun x hx => ⟨by omega, by omega⟩); refine K.dl ?_; refine WD.done (by kernel_rfl) ?_; refine K.kgo ?_; exact WQ.meet (g15, _) ⟨rfl, rfl, rfl, rfl, rfl, rfl, rfl, rfl, trivial⟩ ⟨((Keep.of_below hS).trans (k15.mono fun x (hx : x < w5.heap.size) => by omega)).below, v15, hvo2⟩
    rintro ⟨g15, dc'⟩ w6 ⟨b6, v15, hvo⟩; simp only at v15 hvo; have z6 := b6.size; have hG6 := hG5.below b6; replace c1 := (b6.cell (p := ⟨vb, 1, none⟩) (show vb < w5.heap.size by omega)).trans c1; replace c3 := (b6.cell (p := ⟨vb, 3, none⟩) (show vb < w5.heap.size by omega)).trans c3; replace E5 := E5.keep (Keep.of_below b6) l5; replace v9 := VBlk.below v9 b6 l9; replace v10 := VBlk.below v10 b6 l10; replace l5 := VBlk.lt E5.blk; replace l9 := VBlk.lt v9; replace l10 := VBlk.lt v10; have l15 := VBlk.lt v15; have hdl' := hvo.len; have zw6 : w.heap.size ≤ w6.heap.size := by omega
    replace k4 : Keep (fun x => x < w.heap.size ∧ ¬ M x) w w6 := k4.trans ((Keep.of_below b6).mono fun x hx => by show x < w5.heap.size; omega); have hr6P := hPrP hvo; have hel6 : Els 14 noR (RowP D f w6) D w6 (.slice sp L.length cap) L := by
      have := hG6.els (e.table, e.doc); rw [hLe] at this
      rwa [hFe] at this
    have hspn : 0 < L.length → ∃ b o, sp = some ⟨b, o, none⟩ := fun q => by
      obtain ⟨b9, o9, cap9, dc9, es, -⟩ := els_at hel6 q; exact ⟨b9, o9, (by simpa using es : sp = some ⟨b9, o9, none⟩ ∧ cap = cap9).1⟩
    refine K.kgo ?_; refine WC.mid (fun _ : Unit => [(0, .pointer (some ⟨vb, 0, none⟩)), (3, .int .i64 k), (5, .pointer (some ⟨g5, 0, none⟩)), (6, .pointer (some ⟨g6, 0, none⟩)), (9, .pointer (some ⟨g9, 0, none⟩)), (10, .pointer (some ⟨g10, 0, none⟩))]) (fun _ w' => ∃ D' F', Keep (fun x => x < w6.heap.size ∧ x ≠ mr) w6 w' ∧ (∀ x, D' x → D x ∨ w.heap.size ≤ x) ∧ PG w' vb M D' f s.n s.cat (fun y => if y = (e.table, e.doc) then L ++ [rowOf e b.index k b.time] else Vw.of s.rows y) (docF (s.rows ++ [rowOf e b.index k b.time])) (plcF s.rows) (namF s.red) cp Oc mr md mp mn (kc + 2) F') rfl ?_ ?_
    · refine WC.drawn 14 (fun wx => Below w6.heap.size w6 wx) fun wa2 hdr => ?_
      have hS : Below w6.heap.size w6 wa2 := hdr.below _; clear hdr; refine K.fr [0, 1, 2] hS ?_; refine K.wl 3 [14] rfl rfl rfl rfl rfl rfl rfl (fun wx hx => (hx.cell (p := ⟨vb, 1, none⟩) (show vb < w6.heap.size by omega)).trans c1) hS ?_; refine K.wm 4 [14] rfl rfl rfl rfl rfl rfl rfl (fun wx hx => VBlk.rangeAt (VBlk.below v10 hx l10)) rfl hS ?_; refine K.fr [5, 6, 7, 8, 9] hS ?_; refine K.wm 11 [12, 13, 14] rfl rfl rfl rfl rfl rfl rfl (fun wx hx => VBlk.rangeAt (VBlk.below v15 hx l15)) (rwC_len hdl') hS ?_; refine WD.two 10 12 (by kernel_rfl) rfl rfl ?_ ?_
      · skip
        refine WL.clip rfl rfl rfl rfl rfl rfl rfl rfl hsl1 hspn ?_; refine K.di hS ?_; refine K.wo 12 ?_; refine WL.lit1 rfl rfl rfl rfl rfl rfl (cs := rwC (rowOf e b.index k b.time) dc') rfl (rwC_len hdl') (by omega) (by kernel_rfl) fun gl w7 f7 => ?_; have b7 := f7.below; have hS7 := hS.trans (b7.mono hS.size); have z7 := hS7.size; refine K.di hS7 ?_; refine K.wo 13 ?_; obtain ⟨kcs, kl, kat, ksl⟩ := rows_slV (hel6.keep (P' := RowP D f w7) (Keep.of_below hS7) (fun x _ hl => hl) (fun _ hx => hx) fun _ _ hp => hp.keep (Keep.of_below hS7) (fun x hx _ => hG6.lt x (.inr hx)) (fun _ hx => hx)) (fun _ _ hp => hp.one); refine WL.growV rfl rfl rfl rfl elemPR rfl ksl rfl (sl_one f7.blk hr6P.one hr6P.len) (by omega) (by omega) (by omega) fun v8 w8 ho8 b8 => ?_; have hS8 := hS7.trans (b8.mono z7); have z8 := b8.size; refine K.di hS8 ?_; refine K.wo 14 ?_; have hG8 := hG6.below hS8; have hl8 := hG8.lt; have hMlt : ∀ x, M x → x < w.heap.size := fun x hx => hlt x (.inl hx); have hG8' := hG8.more (D' := fun x => D x ∨ (w5.heap.size ≤ x ∧ x < w8.heap.size)) (fun x hx => .inl hx) (fun x hx => hx.elim (fun q => hl8 x (.inr q)) fun q => q.2) (fun x hx q => q.elim (h.sep x hx) fun q => by have := hMlt x hx; omega); have hsn : OwnE prT 14 noR (RowP (fun x => D x ∨ (w5.heap.size ≤ x ∧ x < w8.heap.size)) f w8) (fun x => w7.heap.size ≤ x) w8 v8 (L ++ [rowOf e b.index k b.time]) :=
          snoc_rows kl (fun j hj => ⟨(kat j hj).1, (kat j hj).2.keep (Keep.of_below b8) (fun x hx hl => hl) fun x hx => .inl hx⟩) hr6P.len (hr6P.keep (Keep.of_below hS8) (fun x hx _ => hx.2) fun x hx => .inr ⟨hx.1, by omega⟩) ho8
        have hels : Els 14 noR (RowP (fun x => D x ∨ (w5.heap.size ≤ x ∧ x < w8.heap.size)) f w8) (fun x => D x ∨ (w5.heap.size ≤ x ∧ x < w8.heap.size)) w8 v8 (L ++ [rowOf e b.index k b.time]) := by
          obtain ⟨a1, a2, a3, a4, a5, a6, a7⟩ := own_els hsn; refine ⟨a1, a2, a3, a4, a5, a6, fun q => ?_⟩; obtain ⟨y1, y2, y3, y4, y5, y6⟩ := a7 q; exact ⟨y1, y2, y3, y4, .inr ⟨by omega, y4⟩, y6⟩
        obtain ⟨w9, hr9, hk9, hg9⟩ := hG8'.putR (by omega) (x := (e.table, e.doc)) rt rd hels; refine WL.upd rfl rfl rfl rfl rfl rfl hr9 ?_; refine K.dl ?_; refine WD.done (by kernel_rfl) ?_; refine K.kgo ?_; exact WQ.meet () ⟨rfl, rfl, rfl, rfl, rfl, rfl, trivial⟩ ⟨_, _, ((Keep.of_below hS8).mono fun x hx => hx.1).trans (hk9.mono fun x hx => hx.2), fun x hx => hx.elim .inl fun q => .inr (by omega), hg9⟩
      · skip
        refine WL.lit1 rfl rfl rfl rfl rfl rfl (cs := rwC (rowOf e b.index k b.time) dc') rfl (rwC_len hdl') (by omega) (by kernel_rfl) fun gl w7 f7 => ?_; have hSx := hS.trans (f7.below.mono hS.size); refine K.di hSx ?_; refine K.wo 10 ?_; refine WL.clip rfl rfl rfl rfl rfl rfl rfl rfl hsl1 hspn ?_; have b7 := f7.below; have hS7 := hS.trans (b7.mono hS.size); have z7 := hS7.size; refine K.di hS7 ?_; refine K.wo 13 ?_; obtain ⟨kcs, kl, kat, ksl⟩ := rows_slV (hel6.keep (P' := RowP D f w7) (Keep.of_below hS7) (fun x _ hl => hl) (fun _ hx => hx) fun _ _ hp => hp.keep (Keep.of_below hS7) (fun x hx _ => hG6.lt x (.inr hx)) (fun _ hx => hx)) (fun _ _ hp => hp.one); refine WL.growV rfl rfl rfl rfl elemPR rfl ksl rfl (sl_one f7.blk hr6P.one hr6P.len) (by omega) (by omega) (by omega) fun v8 w8 ho8 b8 => ?_; have hS8 := hS7.trans (b8.mono z7); have z8 := b8.size; refine K.di hS8 ?_; refine K.wo 14 ?_; have hG8 := hG6.below hS8; have hl8 := hG8.lt; have hMlt : ∀ x, M x → x < w.heap.size := fun x hx => hlt x (.inl hx); have hG8' := hG8.more (D' := fun x => D x ∨ (w5.heap.size ≤ x ∧ x < w8.heap.size)) (fun x hx => .inl hx) (fun x hx => hx.elim (fun q => hl8 x (.inr q)) fun q => q.2) (fun x hx q => q.elim (h.sep x hx) fun q => by have := hMlt x hx; omega); have hsn : OwnE prT 14 noR (RowP (fun x => D x ∨ (w5.heap.size ≤ x ∧ x < w8.heap.size)) f w8) (fun x => w7.heap.size ≤ x) w8 v8 (L ++ [rowOf e b.index k b.time]) :=
          snoc_rows kl (fun j hj => ⟨(kat j hj).1, (kat j hj).2.keep (Keep.of_below b8) (fun x hx hl => hl) fun x hx => .inl hx⟩) hr6P.len (hr6P.keep (Keep.of_below hS8) (fun x hx _ => hx.2) fun x hx => .inr ⟨hx.1, by omega⟩) ho8
        have hels : Els 14 noR (RowP (fun x => D x ∨ (w5.heap.size ≤ x ∧ x < w8.heap.size)) f w8) (fun x => D x ∨ (w5.heap.size ≤ x ∧ x < w8.heap.size)) w8 v8 (L ++ [rowOf e b.index k b.time]) := by
          obtain ⟨a1, a2, a3, a4, a5, a6, a7⟩ := own_els hsn; refine ⟨a1, a2, a3, a4, a5, a6, fun q => ?_⟩; obtain ⟨y1, y2, y3, y4, y5, y6⟩ := a7 q; exact ⟨y1, y2, y3, y4, .inr ⟨by omega, y4⟩, y6⟩
        obtain ⟨w9, hr9, hk9, hg9⟩ := hG8'.putR (by omega) (x := (e.table, e.doc)) rt rd hels; refine WL.upd rfl rfl rfl rfl rfl rfl hr9 ?_; refine K.dl ?_; refine WD.done (by kernel_rfl) ?_; refine K.kgo ?_; exact WQ.meet () ⟨rfl, rfl, rfl, rfl, rfl, rfl, trivial⟩ ⟨_, _, ((Keep.of_below hS8).mono fun x hx => hx.1).trans (hk9.mono fun x hx => hx.2), fun x hx => hx.elim .inl fun q => .inr (by omega), hg9⟩
    rintro ⟨⟩ w8 ⟨D', F', k8, hD', hG8⟩; have z8 := k8.size; replace E5 := E5.keep k8 ⟨l5, by omega⟩; replace v9 := v9.keep k8 ⟨l9, by omega⟩; replace v10 := v10.keep k8 ⟨l10, by omega⟩; replace c3 := (k8.cell (p := ⟨vb, 3, none⟩) ⟨by show vb < w6.heap.size; omega, hvbn.1.symm⟩).trans c3; replace l9 := VBlk.lt v9; replace l10 := VBlk.lt v10; replace k4 : Keep (fun x => x < w.heap.size ∧ ¬ M x) w w8 := k4.trans (k8.mono fun x hx => ⟨by omega, fun q => hx.2 (q ▸ h.mmr)⟩); have ck := E5.kind; have hA : ∀ x, Vw.of (s.rows ++ [rowOf e b.index k b.time]) x = if x = (e.table, e.doc) then L ++ [rowOf e b.index k b.time] else Vw.of s.rows x := fun x => by
      rw [of_snoc]
      by_cases q : x = (e.table, e.doc)
      · subst q
        rw [if_pos rfl, hLe, if_pos (show (rowOf e b.index k b.time).key = (e.table, e.doc) from rfl)]
      · rw [if_neg q, if_neg (show ¬ (rowOf e b.index k b.time).key = x from fun y => q y.symm), List.append_nil]
    have hnok : ({ s with rows := s.rows ++ [rowOf e b.index k b.time] } : St).n ≤ N + 4 ∧ ({ s with rows := s.rows ++ [rowOf e b.index k b.time] } : St).rows.length ≤ N + 4 ∧ kc + 3 ≤ N + 4 ∧ N + 4 ≤ 1000000 := by
      refine ⟨by show s.n ≤ _; omega, ?_, by omega, hN⟩
      show (s.rows ++ [rowOf e b.index k b.time]).length ≤ _
      rw [List.length_append, List.length_singleton]; omega
    by_cases k2 : e.kind = 2
    · have hdl0 : (rowOf e b.index k b.time).del = false := decide_eq_false (by omega)
      rw [hdl0, if_neg (by decide)] at hplc; refine K.kgl ?_; refine WC.drawn 6 (fun wx => Below w8.heap.size w8 wx) fun wa2 hdr => ?_; have hS : Below w8.heap.size w8 wa2 := hdr.below _; clear hdr; refine K.fr [0, 1, 2] hS ?_; refine K.wl 3 [6] rfl rfl rfl rfl rfl rfl rfl (fun wx hx => (hx.cell (p := ⟨vb, 3, none⟩) (show vb < w8.heap.size by omega)).trans c3) hS ?_; refine K.wm 4 [6] rfl rfl rfl rfl rfl rfl rfl (fun wx hx => VBlk.rangeAt (VBlk.below v9 hx l9)) rfl hS ?_; refine K.wm 5 [6] rfl rfl rfl rfl rfl rfl rfl (fun wx hx => VBlk.rangeAt (VBlk.below v10 hx l10)) rfl hS ?_; refine K.wo 6 ?_; obtain ⟨w9, hr9, hk9, hG9⟩ := (hG8.below hS).putP (by omega) (x := (b.index, (k : Int))) rbi rk (mk2 (e.table, e.doc)); refine WL.upd rfl rfl rfl rfl rfl rfl hr9 ?_; refine K.dl ?_; refine WD.done (by kernel_rfl) ?_; refine K.kgo ?_; exact WQ.ret1 rfl rfl ⟨rfl, (k4.trans ((Keep.of_below hS).mono fun x hx => by show x < w8.heap.size; omega)).trans (hk9.mono fun x hx q => hx.2 (q ▸ h.mmp)), fun _ => ⟨M, D', ⟨cp, Oc, mr, md, mp, mn, kc + 3, F', hG9.pv rfl rfl hA (fun _ => rfl) (fun x => congrFun hplc x) (fun _ => rfl) hnok⟩, fun x hx => .inl hx, hD'⟩⟩
    · have hdl1 : (rowOf e b.index k b.time).del = true := decide_eq_true (by omega)
      rw [hdl1, if_pos rfl] at hplc; refine K.kgl ?_; exact WQ.ret1 rfl rfl ⟨rfl, k4, fun _ => ⟨M, D', ⟨cp, Oc, mr, md, mp, mn, kc + 3, F', (hG8.kmono (Nat.le_succ _)).pv rfl rfl hA (fun _ => rfl) (fun x => congrFun hplc x) (fun _ => rfl) hnok⟩, fun x hx => .inl hx, hD'⟩⟩
  case neg =>
  by_cases h4 : e.kind = 4
  case pos =>
    obtain ⟨k2, k3⟩ : ¬ e.kind = 2 ∧ ¬ e.kind = 3 := ⟨by omega, by omega⟩; obtain ⟨ha0, -⟩ := app_none (L := s.cat) (kind := e.kind) (txt := e.text) (tbl := e.table) (by omega) (by omega) (by omega); have hR : entR s e b.index k b.time = (match s.rows.findIdx? (hit s (e.ab, e.ae)) with | some i => (0, { s with rows := s.rows.set i (shut (s.rows.getD i noR)), red := redP s.red (e.ab, e.ae) }) | none => (3, s)) := by
      unfold entR; rw [if_neg (by simpa using ha0), if_neg h23, if_pos h4]; rfl
    rw [hR]; have ra : R64 (e.ab, e.ae).1 := hr6.2.2.2.2.1; have re : R64 (e.ab, e.ae).2 := hr6.2.2.2.2.2; have hlp : ∀ {wx : World}, Below w1.heap.size w1 wx → (Instr.lookup 82 (.map (some mp)) (mk2 (e.ab, e.ae)) true).run Tryz.prog wx = .ok (.tuple #[(plcF s.rows (e.ab, e.ae)).getD (mk2 (0, 0)), .bool (plcF s.rows (e.ab, e.ae)).isSome]) wx := fun hx => (h1.below hx).lookP ra re; have hln : ∀ {wx : World}, Below w1.heap.size w1 wx → (Instr.lookup 83 (.map (some mn)) (mk2 (e.ab, e.ae)) false).run Tryz.prog wx = .ok (.bool (s.red (e.ab, e.ae))) wx := fun hx => (h1.below hx).lookN ra re; obtain ⟨kk, okb, hk1, hk2⟩ : ∃ kk okb, (plcF s.rows (e.ab, e.ae)).getD (mk2 (0, 0)) = mk2 kk ∧ (plcF s.rows (e.ab, e.ae)).isSome = okb := by
      unfold plcF; cases s.rows.find? fun r => decide (r.adr = (e.ab, e.ae)) && !r.del with
      | none => exact ⟨(0, 0), false, rfl, rfl⟩
      | some r => exact ⟨r.key, true, rfl, rfl⟩
    rw [hk1, hk2] at hlp; refine WC.condF rfl k2 ?_; refine K.kgo ?_; refine WC.mid (fun g16 : Nat => [(0, .pointer (some ⟨vb, 0, none⟩)), (3, .int .i64 k), (5, .pointer (some ⟨g5, 0, none⟩)), (16, .pointer (some ⟨g16, 0, none⟩)), (17, .bool okb)]) (fun g16 w' => Below w1.heap.size w1 w' ∧ w.heap.size ≤ g16 ∧ VBlk keT w' g16 [.int .i64 kk.1, .int .i64 kk.2]) rfl ?_ ?_
    · refine WC.drawn 11 (fun wx => Below w1.heap.size w1 wx) fun wa hdr => ?_
      have hS : Below w1.heap.size w1 wa := hdr.below _; clear hdr; refine K.fr [0, 1, 2] hS ?_; refine K.wl 3 [6, 7, 8, 9, 11, 12] rfl rfl rfl rfl rfl rfl rfl (fun wx hx => (hx.cell (p := ⟨vb, 3, none⟩) lvb).trans c3) hS ?_; refine K.fr [4] hS ?_; refine K.wm 5 [6, 7, 8, 9, 11, 12] rfl rfl rfl rfl rfl rfl rfl (fun wx hx => (E5.keep (Keep.of_below hx) l5).at') rfl hS ?_; refine WD.look 6 [7, 8, 9, 11, 12] rfl (by kernel_rfl) rfl rfl (fun _ _ _ _ _ h => h) rfl rfl rfl rfl (fun wx hx => hlp hx) hS ?_; refine K.fr [7, 8, 9] hS ?_; refine K.wo 10 ?_; have hSq := hS; refine WL.alloc (z := .agg [Value.int .i64 0, .int .i64 0].toArray) rfl rfl rfl rfl (fun _ => by kernel_rfl) fun g16 wc f9 => ?_; have bf0 := hS.trans (f9.below.mono hS.size); refine K.di bf0 ?_; have hS := bf0; refine K.wo 11 ?_; refine WL.storeRow rfl rfl rfl rfl rfl rfl f9.blk rfl rfl ones_of ?_; have vf := VBlk.setRow f9.blk [Value.int .i64 kk.1, .int .i64 kk.2]; have bf : Below w1.heap.size w1 (wc.setRow g16 [Value.int .i64 kk.1, .int .i64 kk.2].toArray) := (Cr.keepRow (K := fun x => x < w1.heap.size) (g := g16) (Keep.of_below bf0) (fun hh => by have := f9.eq; have := hSq.size; omega) _).below; refine K.dl ?_
      (refine K.fzl 12 rfl (q := ?_))
      refine WD.done (by kernel_rfl) ?_; refine K.kgo ?_; exact WQ.meet g16 ⟨rfl, rfl, rfl, rfl, rfl, trivial⟩ ⟨bf, by have := f9.eq; have := hSq.size; omega, vf⟩
    rintro g16 w3 ⟨b3, q16, v16⟩; have h3 := h1.below b3; replace E5 := E5.keep (Keep.of_below b3) l5; replace c1 := (b3.cell (p := ⟨vb, 1, none⟩) lvb).trans c1; replace c4 := (b3.cell (p := ⟨vb, 4, none⟩) lvb).trans c4; have z3 := b3.size; have k3k := kb b3; replace hln : ∀ {wx : World}, Below w3.heap.size w3 wx → _ := fun {wx} hx => hln (wx := wx) (b3.trans (hx.mono z3)); replace l5 := VBlk.lt E5.blk; have l16 := VBlk.lt v16; have lvb3 : vb < w3.heap.size := by omega
    have zw3 : w.heap.size ≤ w3.heap.size := by omega
    cases okb with
    | false =>
      have hnone := place_none (s := s) (a := (e.ab, e.ae)) (.inl (by
        unfold plcF at hk2; cases hq : s.rows.find? fun r => decide (r.adr = (e.ab, e.ae)) && !r.del with
        | none => rfl
        | some r => rw [hq] at hk2; cases hk2))
      rw [hnone]; refine K.kgo ?_; refine WC.drawn 10 (fun wx => Below w3.heap.size w3 wx) fun wa hdr => ?_; have hS : Below w3.heap.size w3 wa := hdr.below _; clear hdr; refine K.fr [0, 1, 2, 3, 4, 5] hS ?_; refine K.fr [6] hS ?_; refine K.fr [7] hS ?_; refine K.fr [8] hS ?_; refine K.fr [9] hS ?_; refine K.wo 10 ?_; refine WL.pure rfl rfl rfl rfl ?_; refine K.dl ?_; refine WD.done (by kernel_rfl) ?_; refine K.kgo ?_; exact WQ.ret1 rfl rfl (bad three_ne (k3k.trans ((Keep.of_below hS).mono fun x hx => by show x < w3.heap.size; omega)))
    | true =>
    obtain ⟨r, hfind, rfl⟩ : ∃ r, s.rows.find? (fun r => decide (r.adr = (e.ab, e.ae)) && !r.del) = some r ∧ r.key = kk := by
      unfold plcF at hk1 hk2; cases hq : s.rows.find? fun r => decide (r.adr = (e.ab, e.ae)) && !r.del with
      | none => rw [hq] at hk2; cases hk2
      | some r => rw [hq] at hk1; exact ⟨r, rfl, mk2_inj _ _ hk1⟩
    cases hred : s.red (e.ab, e.ae) with
    | true =>
      rw [hred] at hln; rw [place_none (s := s) (a := (e.ab, e.ae)) (.inr hred)]; refine K.kgo ?_; refine WC.drawn 10 (fun wx => Below w3.heap.size w3 wx) fun wa hdr => ?_; have hS : Below w3.heap.size w3 wa := hdr.below _; clear hdr; refine K.fr [0, 1, 2, 3, 4, 5] hS ?_; refine K.wl 6 [9, 10] rfl rfl rfl rfl rfl rfl rfl (fun wx hx => (hx.cell (p := ⟨vb, 4, none⟩) lvb3).trans c4) hS ?_; refine K.fr [7] hS ?_; refine K.wm 8 [9, 10] rfl rfl rfl rfl rfl rfl rfl (fun wx hx => (E5.keep (Keep.of_below hx) l5).at') rfl hS ?_; refine WD.look 9 [10] rfl (by kernel_rfl) rfl rfl (fun _ _ _ _ _ h => h) rfl rfl rfl rfl (fun wx hx => hln hx) hS ?_; refine K.wo 10 ?_; refine WL.pure rfl rfl rfl rfl ?_; refine K.dl ?_; refine WD.done (by kernel_rfl) ?_; refine K.kgo ?_; exact WQ.ret1 rfl rfl (bad three_ne (k3k.trans ((Keep.of_below hS).mono fun x hx => by show x < w3.heap.size; omega)))
    | false =>
    rw [hred] at hln; obtain ⟨i, j, nm⟩ := place_some hI hfind hred; rw [nm.idx]; simp only
    rw [nm.here]; refine K.kgo ?_; refine WC.drawn 10 (fun wx => Below w3.heap.size w3 wx) fun wa hdr => ?_; have hS : Below w3.heap.size w3 wa := hdr.below _; clear hdr; refine K.fr [0, 1, 2, 3, 4, 5] hS ?_; refine K.wl 6 [9, 10] rfl rfl rfl rfl rfl rfl rfl (fun wx hx => (hx.cell (p := ⟨vb, 4, none⟩) lvb3).trans c4) hS ?_; refine K.fr [7] hS ?_; refine K.wm 8 [9, 10] rfl rfl rfl rfl rfl rfl rfl (fun wx hx => (E5.keep (Keep.of_below hx) l5).at') rfl hS ?_; refine WD.look 9 [10] rfl (by kernel_rfl) rfl rfl (fun _ _ _ _ _ h => h) rfl rfl rfl rfl (fun wx hx => hln hx) hS ?_; refine K.wo 10 ?_; refine WL.pure rfl rfl rfl rfl ?_; refine K.dl ?_; refine WD.done (by kernel_rfl) ?_; have hGa := h3.pg.below hS; have za := hS.size; replace E5 := E5.keep (Keep.of_below hS) l5; replace v16 := VBlk.below v16 hS l16; replace c1 := (hS.cell (p := ⟨vb, 1, none⟩) lvb3).trans c1; replace c4 := (hS.cell (p := ⟨vb, 4, none⟩) lvb3).trans c4; replace k3k := k3k.trans ((Keep.of_below hS).mono fun x (hx : x < w.heap.size ∧ ¬ M x) => (by omega : x < w3.heap.size)); replace l5 := VBlk.lt E5.blk; replace l16 := VBlk.lt v16; clear hS h3 hln hlp b3 z3 bad kb h1; refine K.kgo ?_; refine WC.drawn 6 (fun wx => Below wa.heap.size wa wx) fun wb hdr => ?_; have hS : Below wa.heap.size wa wb := hdr.below _; clear hdr; refine K.fr [0, 1, 2] hS ?_; refine K.wl 3 [6] rfl rfl rfl rfl rfl rfl rfl (fun wx hx => (hx.cell (p := ⟨vb, 4, none⟩) (show vb < wa.heap.size by omega)).trans c4) hS ?_; refine K.fr [4] hS ?_; refine K.wm 5 [6] rfl rfl rfl rfl rfl rfl rfl (fun wx hx => (E5.keep (Keep.of_below hx) l5).at') rfl hS ?_; refine K.wo 6 ?_; obtain ⟨w4, hr4, hk4, hG4⟩ := (hGa.below hS).putN (by omega) (x := (e.ab, e.ae)) ra re (.bool true); refine WL.upd rfl rfl rfl rfl rfl rfl hr4 ?_; refine K.dl ?_; refine WD.done (by kernel_rfl) ?_; have z4 := hk4.size; have zb := hS.size; have hMn : ∀ x, M x → x < w.heap.size := fun x hx => hlt x (.inl hx); have lmn := hMn mn h.mmn; have lmr := hMn mr h.mmr; have hvbn := h.pg.vb_ne; have k34 : Keep (fun x => x < wa.heap.size ∧ x ≠ mn) wa w4 := ((Keep.of_below hS).mono fun x hx => hx.1).trans (hk4.mono fun x hx => hx.2); replace E5 := E5.keep k34 ⟨l5, by omega⟩; replace v16 := v16.keep k34 ⟨l16, by omega⟩; replace c1 := (k34.cell (p := ⟨vb, 1, none⟩) ⟨by show vb < wa.heap.size; omega, hvbn.2.2.2.symm⟩).trans c1; replace k3k : Keep (fun x => x < w.heap.size ∧ ¬ M x) w w4 := k3k.trans (k34.mono fun x hx => ⟨by omega, fun q => hx.2 (q ▸ h.mmn)⟩); replace l5 := VBlk.lt E5.blk; replace l16 := VBlk.lt v16; have zw4 : w.heap.size ≤ w4.heap.size := by omega
    clear hS c4 hGa; have hel := hG4.els r.key; have hjlt := nm.jlt; have hLl := of_len s.rows r.key; obtain ⟨rt, rd⟩ : R64 r.key.1 ∧ R64 r.key.2 := by
      obtain ⟨-, -, -, -, -, -, -, -, -, ok9, -⟩ := els_at hel nm.jlt; rw [nm.jhere] at ok9; exact ⟨ok9.tab, ok9.doc⟩
    have hlk : ∀ {wx : World}, Below w4.heap.size w4 wx → (Instr.lookup 80 (.map (some mr)) (mk2 r.key) false).run Tryz.prog wx = .ok ((F r.key).getD (.slice none 0 0)) wx := fun hx => (hG4.below hx).rows.look keKeyed Tryz.underlying80 (by kernel_rfl) (keKey rt rd); generalize (F r.key).getD (.slice none 0 0) = sv at hel hlk; obtain ⟨spv, cpv, rfl, -⟩ := id hel; refine K.kgo ?_; refine WC.drawn 7 (fun wx => Below w4.heap.size w4 wx) fun wb hdr => ?_; have hS : Below w4.heap.size w4 wb := hdr.below _; clear hdr; refine K.fr [0, 1, 2] hS ?_; refine K.wl 3 [5, 6, 7] rfl rfl rfl rfl rfl rfl rfl (fun wx hx => (hx.cell (p := ⟨vb, 1, none⟩) (show vb < w4.heap.size by omega)).trans c1) hS ?_; refine K.wm 4 [5, 6, 7] rfl rfl rfl rfl rfl rfl rfl (fun wx hx => VBlk.rangeAt (VBlk.below v16 hx l16)) rfl hS ?_; refine WD.look 5 [6, 7] rfl (by kernel_rfl) rfl rfl (fun _ _ _ _ _ h => h) rfl rfl rfl rfl (fun wx hx => hlk hx) hS ?_; refine K.wo 6 ?_; have hel2 := hel.keep (P' := RowP D f wb) (Keep.of_below hS) (fun x _ hl => hl) (fun _ hx => hx) fun _ _ hp => hp.keep (Keep.of_below hS) (fun x hx _ => hG4.lt x (.inr hx)) (fun _ hx => hx); refine WL.call rfl rfl rfl rfl rfl Tryz.func57 rfl (by kernel_rfl) (pclone_any hel2 (fun _ _ hp => hp.one) (by omega) (by omega)) ?_; rintro _ w5 ⟨b5, v5, rfl, hown5⟩; refine ⟨_, rfl, ?_⟩; have hS5 := hS.trans (b5.mono hS.size); refine K.di hS5 ?_; refine K.wo 7 ?_; refine WL.pure rfl rfl rfl rfl ?_; refine K.dl ?_; refine WD.done (by kernel_rfl) ?_; have z5 := hS5.size; have hown : OwnE prT 14 noR (RowP D f w5) (fun x => wb.heap.size ≤ x) w5 v5 (Vw.of s.rows r.key) := K.OwnE.keep hown5 (Keep.refl (fun _ => True) w5) (fun _ _ => trivial) (fun _ hx => hx) fun _ _ hp => hp.keep (Keep.of_below b5) (fun x hx hl => hl) (fun _ hx => hx); have E55 := E5.keep (Keep.of_below hS5) l5; have l55 := VBlk.lt E55.blk; have hG5 := hG4.below hS5; have v165 := VBlk.below v16 hS5 l16; have c15 := (hS5.cell (p := ⟨vb, 1, none⟩) (show vb < w4.heap.size by omega)).trans c1; have zbb := hS.size; refine K.kgo ?_; refine WL.fn rfl rfl rfl rfl (cs := [.pointer (some ⟨g5, 0, none⟩)]) rfl ?_; refine WL.call rfl rfl rfl rfl rfl Tryz.func58 rfl (by kernel_rfl) (pindex_any (own_els hown) (by omega) E55.ab E55.ae l55) ?_; rintro _ w6 ⟨b6, rfl⟩; refine ⟨_, rfl, ?_⟩; rw [nm.jdx]; have zj : lastZ (some j) = (j : Int) := rfl; rw [zj]; have z6 := b6.size; have hown6 : OwnE prT 14 noR (RowP D f w6) (fun x => wb.heap.size ≤ x) w6 v5 (Vw.of s.rows r.key) := K.OwnE.keep hown (Keep.of_below b6) (fun x hx => K.OwnE.lt hown hx) (fun _ hx => hx) fun _ _ hp => hp.keep (Keep.of_below b6) (fun x hx _ => hG5.lt x (.inr hx)) (fun _ hx => hx); have hG6 := hG5.below b6; have v166 := VBlk.below v165 b6 (VBlk.lt v165); have c16 := (b6.cell (p := ⟨vb, 1, none⟩) (show vb < w5.heap.size by omega)).trans c15; obtain ⟨g, capg, rfl, hgO, lgg, A, B, C, hvb, hAl, hBl, hPB, hput⟩ := own_row hown6 nm.jlt; rw [nm.jhere] at hPB; obtain ⟨dB, rfl, hvB, okB, smB⟩ := hPB; obtain ⟨sp1, sq1, n1, n2, c1', c2', rfl⟩ := vo_six hvB; have hdl6 : (rwC r [.int .i64 r.data.k, .int .i64 r.data.n, .int .i64 r.data.s, .string r.data.t, .slice sp1 n1 c1', .slice sq1 n2 c2']).length = 14 := rfl; have hv2 := hvb.set (j * 14 + 9) (.bool true); rw [one_put _ hAl (by rw [hdl6]; omega)] at hv2; have cold : w6.cell? ⟨g, j * 14 + 9, none⟩ = some ((A ++ ((rwC r [.int .i64 r.data.k, .int .i64 r.data.n, .int .i64 r.data.s, .string r.data.t, .slice sp1 n1 c1', .slice sq1 n2 c2']) ++ C)).getD (j * 14 + 9) undef) := hvb.cell _ (by simp only [List.length_append]; rw [hdl6]; omega); refine K.kgo ?_; refine WL.build zCells rfl rfl rfl rfl rfl (by kernel_rfl) ?_; refine WL.idx j (j * 14) rfl rfl rfl rfl rfl rfl rfl rfl hjlt (by omega) ?_; refine K.kgo ?_; refine WL.store rfl rfl rfl rfl rfl rfl (by kernel_rfl) cold (VBlk.free hvb _) ?_; refine WL.idx j (j * 14) rfl rfl rfl rfl rfl rfl rfl rfl hjlt (by omega) ?_; refine K.kgo ?_; refine WL.storeMid rfl rfl rfl rfl rfl rfl hv2 rfl (by simp only [List.length_append, List.length_set]; rw [hdl6]; omega) (zV_is (fun _ => True) 0 w6).one ?_; have hv3 := VBlk.setRow hv2 ((A ++ ((rwC r [.int .i64 r.data.k, .int .i64 r.data.n, .int .i64 r.data.s, .string r.data.t, .slice sp1 n1 c1', .slice sq1 n2 c2']).set 9 (.bool true) ++ C)).take (j * 14 + 3) ++ zCells ++ (A ++ ((rwC r [.int .i64 r.data.k, .int .i64 r.data.n, .int .i64 r.data.s, .string r.data.t, .slice sp1 n1 c1', .slice sq1 n2 c2']).set 9 (.bool true) ++ C)).drop (j * 14 + 3 + 6)); have hmid := mid_put (A := A) (B := (rwC r [.int .i64 r.data.k, .int .i64 r.data.n, .int .i64 r.data.s, .string r.data.t, .slice sp1 n1 c1', .slice sq1 n2 c2']).set 9 (.bool true)) (C := C) (m := zCells) (x := j * 14) (off := 3) (k := 6) hAl rfl (by rw [List.length_set, hdl6]; omega); rw [shut_set] at hmid; obtain ⟨row, hrow⟩ : ∃ row, row = (A ++ ((rwC r [.int .i64 r.data.k, .int .i64 r.data.n, .int .i64 r.data.s, .string r.data.t, .slice sp1 n1 c1', .slice sq1 n2 c2']).set 9 (.bool true) ++ C)).take (j * 14 + 3) ++ zCells ++ (A ++ ((rwC r [.int .i64 r.data.k, .int .i64 r.data.n, .int .i64 r.data.s, .string r.data.t, .slice sp1 n1 c1', .slice sq1 n2 c2']).set 9 (.bool true) ++ C)).drop (j * 14 + 3 + 6) := ⟨_, rfl⟩; rw [← hrow] at hv3 hmid ⊢; have kg : Keep (fun x => x ≠ g) w6 ((w6.setCell ⟨g, j * 14 + 9, none⟩ (.bool true)).setRow g row.toArray) := Cr.keepRow ((Keep.refl _ _).setCell (by simp) _) (by simp) _; generalize (w6.setCell ⟨g, j * 14 + 9, none⟩ (.bool true)).setRow g row.toArray = we at hv3 kg ⊢; rw [hmid] at hv3; have ze := kg.size; have hgw : w4.heap.size ≤ g := by have : wb.heap.size ≤ g := hgO; omega
    have hl4 := hG4.lt; have hGe := hG6.keep kg (fun x hx => by have := hl4 x hx; show x ≠ g; omega); have l16e := VBlk.lt v16; have v16e := v166.keep kg (by omega); have c1e := (kg.cell (p := ⟨vb, 1, none⟩) (show vb ≠ g by omega)).trans c16; obtain ⟨f', rfl⟩ : ∃ f', f = f' + 1 := RVs.fpos hvB; have hrowsE := hput (w' := we) (P' := RowP D (f' + 1) we) (rwC (shut r) zCells) (shut r) hv3 rfl (RowP.one (D := D) (f := f' + 1) (w := we) ⟨zCells, rfl, zV_is D f' we, ⟨okB.tab, okB.doc, okB.ver, okB.blk, okB.ent, okB.tim⟩, zSm f'⟩) ⟨zCells, rfl, zV_is D f' we, ⟨okB.tab, okB.doc, okB.ver, okB.blk, okB.ent, okB.tim⟩, zSm f'⟩
      (fun x cs hp => hp.keep kg (fun y hy _ => by have := hl4 y (.inr hy); show y ≠ g; omega) (fun _ h => h))
    have hrowsD : Els 14 noR (RowP (fun x => D x ∨ (w4.heap.size ≤ x ∧ x < we.heap.size)) (f' + 1) we) (fun x => D x ∨ (w4.heap.size ≤ x ∧ x < we.heap.size)) we (.slice (some ⟨g, 0, none⟩) (Vw.of s.rows r.key).length capg) ((Vw.of s.rows r.key).set j (shut r)) := by
      obtain ⟨a1, a2, a3, a4, a5, a6, a7⟩ := own_els hrowsE; refine ⟨a1, a2, a3, a4, a5, a6, fun q => ?_⟩; obtain ⟨y1, y2, y3, y4, y5, y6⟩ := a7 q; refine ⟨y1, y2, y3, y4, .inr ⟨?_, y4⟩, fun jj hjj => ?_⟩
      · have : wb.heap.size ≤ y1 := y5
        omega
      · obtain ⟨x1, x2, x3, x4⟩ := y6 jj hjj
        exact ⟨x1, x2, x3.keep (Keep.refl (fun _ => True) we) (fun _ _ _ => trivial) (fun _ h => .inl h), x4⟩
    have hGm := hGe.more (D' := fun x => D x ∨ (w4.heap.size ≤ x ∧ x < we.heap.size)) (fun x hx => .inl hx) (fun x hx => hx.elim (fun q => by have := hl4 x (.inr q); omega) fun q => q.2) (fun x hx q => q.elim (h.sep x hx) fun q => by have := hMn x hx; omega); have kwe : Keep (fun x => x < w.heap.size ∧ ¬ M x) w we := k3k.trans (((Keep.of_below (hS5.trans (b6.mono z5))).mono fun x (hx : x < w.heap.size ∧ ¬ M x) => (by omega : x < w4.heap.size)).trans (kg.mono fun x hx => by omega)); refine K.kgo ?_; refine WC.drawn 6 (fun wx => Below we.heap.size we wx) fun wf hdr => ?_; have hSf : Below we.heap.size we wf := hdr.below _; clear hdr hS; have hS := hSf; refine K.fr [0, 1, 2] hS ?_; refine K.wl 3 [6] rfl rfl rfl rfl rfl rfl rfl (fun wx hx => (hx.cell (p := ⟨vb, 1, none⟩) (show vb < we.heap.size by omega)).trans c1e) hS ?_; refine K.wm 4 [6] rfl rfl rfl rfl rfl rfl rfl (fun wx hx => VBlk.rangeAt (VBlk.below v16e hx v16e.lt)) rfl hS ?_; refine K.fr [5] hS ?_; refine K.wo 6 ?_; obtain ⟨w9, hr9, hk9, hG9⟩ := (hGm.below hS).putR (by omega) (x := r.key) rt rd (hrowsD.keep (Keep.of_below hS) (fun x _ hl => hl) (fun _ hx => hx) fun _ _ hp => hp.keep (Keep.of_below hS) (fun x hx hl => hl) (fun _ hx => hx)); refine WL.upd rfl rfl rfl rfl rfl rfl hr9 ?_; refine K.dl ?_; refine WD.done (by kernel_rfl) ?_; refine K.kgo ?_; have hnam : namF (redP s.red (e.ab, e.ae)) = mfPut (namF s.red) (e.ab, e.ae) (.bool true) := by
      funext x
      unfold namF redP mfPut
      by_cases q : x = (e.ab, e.ae)
      · rw [if_pos q, if_pos q, if_pos rfl]
      · rw [if_neg q, if_neg q]
    exact WQ.ret1 rfl rfl ⟨rfl, (kwe.trans ((Keep.of_below hS).mono fun x hx => by show x < we.heap.size; omega)).trans (hk9.mono fun x hx q => hx.2 (q ▸ h.mmr)), fun _ => ⟨M, _, ⟨cp, Oc, mr, md, mp, mn, kc + 2, _, hG9.pv rfl rfl nm.ofs (fun x => by show docF (s.rows.set i (shut r)) x = docF s.rows x; unfold docF; rw [nm.cnts]) nm.plc (fun x => congrFun hnam x) (by
      refine ⟨by show s.n ≤ _; omega, ?_, by omega, hN⟩
      show (s.rows.set i (shut r)).length ≤ _
      rw [List.length_set]; omega)⟩, fun x hx => .inl hx, fun x hx => hx.elim .inl fun q => .inr (by omega)⟩⟩
  case neg =>
  obtain ⟨k2, k3⟩ : ¬ e.kind = 2 ∧ ¬ e.kind = 3 := ⟨fun q => h23 (.inl q), fun q => h23 (.inr q)⟩; have hR : entR s e b.index k b.time = (if Cat.appC s.cat e.kind e.text e.table ≠ 0 then (Cat.appC s.cat e.kind e.text e.table, s) else (0, { s with cat := Cat.appL s.cat e.kind e.text e.table })) := by
    unfold entR; rw [if_neg h23, if_neg h4]
  rw [hR]; refine WC.condF rfl k2 ?_; refine K.kgo ?_; refine WC.drawn 5 (fun wx => Below w1.heap.size w1 wx) fun wa hdr => ?_; have hS : Below w1.heap.size w1 wa := hdr.below _; clear hdr; refine K.fr [0, 1, 2] hS ?_; refine K.wl 3 [5, 6] rfl rfl rfl rfl rfl rfl rfl (fun wx hx => (hx.cell (p := ⟨vb, 0, none⟩) lvb).trans c0) hS ?_; refine K.wm 4 [5, 6] rfl rfl rfl rfl rfl rfl rfl (fun wx hx => VBlk.rangeAt (VBlk.below E5.blk hx l5)) hel hS ?_; refine K.wo 5 ?_; refine WL.call rfl rfl rfl rfl rfl Tryz.func60 rfl (by kernel_rfl) (Cat.apply_any (h1.below hS).cat hE (by omega)) ?_; rintro _ w' ⟨O', rfl, hc', hk', ho'⟩; refine ⟨_, rfl, ?_⟩; refine K.dl ?_
  (refine K.fzl 6 rfl (q := ?_))
  refine WD.done (by kernel_rfl) ?_; refine K.kgo ?_; have hfin : PG w' vb _ D f s.n (Cat.appL s.cat e.kind e.text e.table) _ _ _ _ cp O' mr md mp mn (kc + 1) F := (h1.pg.below hS).app hc' hk' ho'; have hz := hS.size; have hkk : Keep (fun x => x < w.heap.size ∧ ¬ M x) w w' := (kb hS).trans (hk'.mono fun x hx => ⟨by omega, fun q => hx.2 (h.moc x q)⟩)
  by_cases hc0 : Cat.appC s.cat e.kind e.text e.table = 0
  · rw [if_neg (by simpa using hc0), hc0]
    refine K.kgo ?_; refine WQ.ret1 rfl rfl ⟨rfl, hkk, fun _ => ⟨_, D, ⟨cp, O', mr, md, mp, mn, kc + 1, F, hfin.pv rfl rfl (fun _ => rfl) (fun _ => rfl) (fun _ => rfl) (fun _ => rfl) (by show s.n ≤ _ ∧ s.rows.length ≤ _ ∧ _; omega)⟩, fun x hx => hx.elim .inl fun q => .inr (by omega), fun x hx => .inl hx⟩⟩
  · rw [if_pos hc0]
    refine K.kgo ?_; exact WQ.ret1 rfl rfl (bad hc0 hkk)
end Vw
namespace Vw
open K
set_option maxRecDepth 100000
def PRes (w : World) (vb : Nat) (M D : Nat → Prop) (f : Nat) (c : Int) (s : St) (N : Nat) (e : Ending) (w' : World) : Prop :=
  ∃ M' D',e = .returned (.int .i64 c) ∧ PVs w' vb M' D' f s N ∧ Keep (fun b => b < w.heap.size ∧ ¬ M b) w w' ∧ (∀ b,M' b → M b ∨ w.heap.size ≤ b) ∧ ∀ b,D' b → D b ∨ w.heap.size ≤ b
theorem PV.over {wl wf : World} {xb vb : Nat} {Mi Di : Nat → Prop} {f : Nat} {si : St} {cp : Nat} {Oc : Nat → Prop} {mr md mp mn k N N' : Nat} {F : Int × Int → Option Value} (h : PV wl xb Mi Di f si cp Oc mr md mp mn k N F) (hv : VBlk pvT wf vb [.pointer (some ⟨cp,0,none⟩),.map (some mr),.map (some md),.map (some mp),.map (some mn),.int .i64 (si.n + 1 : Nat)])
    (kf : Keep (fun x => x ≠ xb ∧ x ≠ vb) wl wf) (hM : ∀ x,Mi x → x ≠ vb) (hD : ∀ x,Di x → x ≠ vb) (hlt : vb < wl.heap.size) (hN : si.n + 1 ≤ N' ∧ N ≤ N' ∧ N' ≤ 1000000) : PV wf vb (fun x => x = vb ∨ Mi x) Di f { si with n:=si.n + 1 } cp Oc mr md mp mn k N' F:=by
  obtain ⟨n1,n2,n3,n4⟩:=h.pg.vb_ne;have hl:=h.lt;have hDk : ∀ x,Di x → x ≠ xb ∧ x ≠ vb:=fun x hx => ⟨fun e => h.sep xb h.mvb (e ▸ hx),hD x hx⟩;have hok:=h.ok;exact ⟨hv,h.cat.keep kf fun x hx => ⟨fun e => h.out.1 (e ▸ hx),hM x (h.moc x hx)⟩,h.rows.keep kf ⟨n1,hM _ h.mmr⟩,fun x => (h.els x).keep kf (fun b hb _ => hDk b hb) (fun _ h => h) fun _ _ hp => hp.keep kf (fun b hb _ => hDk b hb) (fun _ h => h),
    h.docs.keep kf ⟨n2,hM _ h.mmd⟩,h.plcs.keep kf ⟨n3,hM _ h.mmp⟩,h.nams.keep kf ⟨n4,hM _ h.mmn⟩,.inl rfl,.inr h.mmr,.inr h.mmd,.inr h.mmp,.inr h.mmn,fun x hx => .inr (h.moc x hx),⟨fun q => hM vb (h.moc vb q) rfl,h.out.2⟩,h.dis,
    fun x hx => Nat.lt_of_lt_of_le (by
      rcases hx with (hx | hx) | hx
      · omega
      · exact hl x (.inl hx)
      · exact hl x (.inr hx)) kf.size,fun x hx hd => by
      rcases hx with hx | hx
      · exact hD x hd hx
      · exact h.sep x hx hd,⟨hN.1,by show si.rows.length ≤ _;omega,by omega,hN.2.2⟩⟩
set_option maxHeartbeats 8000000 in
theorem papply_any {w : World} {vb : Nat} {M D : Nat → Prop} {f : Nat} {s : St} {N : Nat} (h0 : PVs w vb M D f s N) (hI : InvN s) {E : Nat → Prop} (hE' : ∀ x,E x → x < w.heap.size) {b : Bk} {bc : List Value} (hb : IsBo E f w b bc) (hsm : BkSm f b) (hN : N + 4 * b.ents.length + 4 ≤ 1000000) :
    Calls Tryz.prog 13 #[.pointer (some ⟨vb,0,none⟩),.agg bc.toArray] w (PRes w vb M D f (appR s b).1 (appR s b).2 (N + 4 * b.ents.length + 1)):=by
  obtain ⟨cp,Oc,mr,md,mp,mn,kc,F,h⟩:=id h0;have hlt:=h.lt;have hbl:=hb.len;have bq:=hb;obtain ⟨se,rfl,hents,hpl,hpb,rbi,rti,-⟩:=bq;obtain ⟨sp,cap,rfl,hc1,hc2,hc3,hrow⟩:=hents;refine enter (args:=[.pointer (some ⟨vb,0,none⟩),.agg (bkC b (.slice sp b.ents.length cap)).toArray]) Tryz.func13 rfl Tryz.ntmps13 rfl ?_;refine K.kgn ?_;refine WL.box rfl rfl rfl rfl rfl fun g3 w1 f1 => ?_;have B1 : BkAt bkT g3 w1 b (.slice sp b.ents.length cap):=⟨f1.blk,hpl⟩;have b1:=f1.below;have e3:=f1.eq;clear f1;have lg3:=VBlk.lt B1.blk;have h1:=h.below b1;have c5:=h1.vbk.cell 5 (by simp);simp only [List.getD_cons_succ,List.getD_cons_zero] at c5;have lvb:=h1.lt vb (.inl h1.mvb);have ei:=B1.index;have ee:=B1.ents;have z1:=b1.size;have lvb0:=hlt vb (.inl h.mvb);have hok:=h.ok;have bad : ∀ {wx : World} {c : Int},Below w1.heap.size w1 wx → (appR s b) = (c,s) → PRes w vb M D f (appR s b).1 (appR s b).2 (N + 4 * b.ents.length + 1) (.returned (.int .i64 c)) wx:=fun hx hc => by
    rw [hc];exact ⟨M,D,rfl,PVs.mono ⟨_,_,_,_,_,_,_,_,h1.below hx⟩ (by omega) (by omega),(Keep.of_below (b1.trans (hx.mono z1))).mono fun x hx => hx.1,fun _ h => .inl h,fun _ h => .inl h⟩
  refine K.kgo ?_;refine WL.nilP rfl rfl rfl rfl rfl rfl (by kernel_rfl) ?_;refine K.kgo ?_;refine WC.drawn 6 (fun wx => Below w1.heap.size w1 wx) fun wa hd => ?_;have hS : Below w1.heap.size w1 wa:=hd.below _;refine K.fr [0] hS ?_;refine K.wl 1 [6] rfl rfl rfl rfl rfl rfl rfl (fun wx hx => (hx.cell (p:=⟨g3,0,none⟩) lg3).trans ei) hS ?_;refine K.fr [2,3,4] hS ?_;refine K.wl 5 [6] rfl rfl rfl rfl rfl rfl rfl (fun wx hx => (hx.cell (p:=⟨vb,5,none⟩) lvb).trans c5) hS ?_;refine K.wo 6 ?_;refine WL.pure rfl rfl rfl rfl ?_;refine K.dl ?_;refine WD.done (by kernel_rfl) ?_
  by_cases hix : b.index = s.n
  case neg =>
    refine K.kgo ?_;refine WC.condT rfl hix ?_;refine K.kgo ?_;exact WQ.ret1 rfl rfl (bad hS (by unfold appR;rw [if_pos hix]))
  case pos =>
  refine K.kgo ?_;refine WC.condF rfl (fun q => q hix) ?_;refine K.kgo ?_;refine WL.loadMid rfl rfl rfl rfl rfl rfl (VBlk.rangeAt (VBlk.below B1.blk hS lg3)) hbl ?_;have hba:=IsBo.below hb (b1.trans (hS.mono z1));refine WL.call rfl rfl rfl rfl rfl Tryz.func31 rfl (by kernel_rfl) (check11_any (IsBo.isB hba) hsm.len) ?_;rintro _ wb ⟨rfl,bb⟩;refine ⟨_,rfl,?_⟩;have hSb:=hS.trans (bb.mono hS.size)
  by_cases hch : chkB b = 0
  case neg =>
    have hr : appR s b = (chkB b,s):=by unfold appR;rw [if_neg (fun q => q hix),if_pos hch]
    generalize chkB b = cb at hch hr;refine K.kgo ?_;exact WQ.ret1 rfl rfl (bad hSb hr)
  case pos =>
  rw [hch];obtain ⟨hform,hi0,hl1,hl2⟩:=chk_form hch;obtain ⟨bb0,bo,rfl,hbl0,hbE,hrow⟩:=hrow (by omega);refine K.kgo ?_;refine WL.call rfl rfl rfl rfl rfl Tryz.func16 rfl (by kernel_rfl) (pcopy_any ⟨_,_,_,_,_,_,_,_,h1.below hSb⟩) ?_;rintro _ wc ⟨xb,Mx,rfl,hx,bc2,mx⟩;refine ⟨_,rfl,?_⟩;have hSc:=hSb.trans (bc2.mono hSb.size);have zc:=hSc.size;have zb:=hSb.size;have happ : appR s b = if (runR b b.ents 0 s).1 = 0 then (0,{ (runR b b.ents 0 s).2 with n:=s.n + 1 }) else ((runR b b.ents 0 s).1,s):=by
    unfold appR;rw [if_neg (fun q => q hix),if_neg (fun q => q hch)]
  have hu0 : Und s b.index 0:=fun r hr => .inl (by have:=hI.2 r hr;omega);have eec:=(hSc.cell (p:=⟨g3,35,none⟩) lg3).trans ee;refine K.kgl ?_;refine WC.loop (fun i : Nat => [(0,.pointer (some ⟨vb,0,none⟩)),(3,.pointer (some ⟨g3,0,none⟩)),(6,.pointer (some ⟨xb,0,none⟩)),(27,.slice (some ⟨bb0,bo,none⟩) b.ents.length cap),(28,.int .i64 (b.ents.length : Nat)),(29,.int .i64 i)])
    (fun i w' => i ≤ b.ents.length ∧ Below w1.heap.size w1 w' ∧ ∃ si Mi Di,PVs w' xb Mi Di f si (N + 4 * i) ∧ Inv si ∧ Und si b.index i ∧ runR b b.ents 0 s = runR b (b.ents.drop i) i si ∧ (∀ x,Mi x → w1.heap.size ≤ x) ∧ ∀ x,Di x → D x ∨ w1.heap.size ≤ x) (fun i => b.ents.length - i) 0 ⟨rfl,rfl,rfl,rfl,rfl,rfl,trivial⟩
    ⟨Nat.zero_le _,hSc,s,Mx,D,hx,hI.1,hu0,rfl,fun x h => by have:=mx x h;omega,fun x h => .inl h⟩ ?_
  clear hx mx bc2 hSc hSb bb hba hS zc zb eec;rintro i wl ⟨hi,bl,si,Mi,Di,hxi,hIi,hUi,hrun,mi,di⟩;have zl:=bl.size
  by_cases hil : i < b.ents.length
  case pos =>
    have bwl:=b1.trans (bl.mono z1);have hbi:=IsBo.below hb bwl;rw [runR_step hil] at hrun;obtain ⟨ec,hel,hep,her⟩:=hrow i hil;have hel2 : ec.length = 46:=hel;have her2 : wl.rangeAt bb0 (bo + i * 46) ec:=fun q u hu => (bwl.cell (p:=⟨bb0,bo + i * 46 + q,none⟩) hbl0).trans (her q u hu);have hep2 : EnP (IsVo E f wl) (b.ents.getD i noE) ec:=EnP.mono (fun v cs hv => hv.keep (Keep.of_below bwl) (fun x _ h => h) (fun x h => h)) hep;refine K.kgo ?_;refine WL.idx i (bo + i * 46) rfl rfl rfl rfl rfl rfl rfl rfl hil rfl ?_;refine WL.loadMid rfl rfl rfl rfl rfl rfl her2 hel2 ?_;refine WL.alloc (z:=.agg (enC noE zCells).toArray) rfl rfl rfl rfl (fun _ => by kernel_rfl) fun g8 w2 f2 => ?_;refine K.kgo ?_;refine WL.storeRow rfl rfl rfl rfl rfl rfl f2.blk hel2 rfl hep2.one ?_;obtain ⟨v8,b8,-,-⟩:=rowed ec (Below.refl wl.heap.size wl) f2;generalize w2.setRow g8 _ = w3 at v8 b8 ⊢;clear f2;have bl8:=bl.trans (b8.mono zl);have z8:=bl8.size;have hx8:=hxi.below b8;have hbi8:=IsBo.below hbi b8;have hep8 : EnP (IsVo E f w3) (b.ents.getD i noE) ec:=EnP.mono (fun v cs hv => hv.keep (Keep.of_below b8) (fun x _ h => h) (fun x h => h)) hep2;refine K.kgo ?_;refine WL.loadMid rfl rfl rfl rfl rfl rfl (VBlk.rangeAt v8) hel2 ?_;refine WL.loadMid rfl rfl rfl rfl rfl rfl (VBlk.rangeAt (VBlk.below B1.blk bl8 lg3)) hbl ?_;refine K.kgo ?_;refine WL.call rfl rfl rfl rfl rfl Tryz.func32 rfl (by kernel_rfl) (pentry_any hx8 (by omega) hIi hbi8 i (by omega) hUi (fun x hx hm => by have:=hE' x hx;have:=mi x hm;omega) hep8 (hform _ (by rw [getD_lt hil];exact List.getElem_mem hil)) (hsm.sm i hil)) ?_;rintro _ w4 ⟨rfl,k4,hok4⟩;refine ⟨_,rfl,?_⟩;have bl4 : Below w1.heap.size w1 w4:=((Keep.of_below bl8).trans (k4.mono fun x (hx : x < w1.heap.size) => ⟨by omega,fun hm => by have:=mi x hm;omega⟩)).below;have hinv:=entR_inv (tim:=b.time) hIi hUi (hform (b.ents.getD i noE) (by rw [getD_lt hil];exact List.getElem_mem hil));generalize entR si (b.ents.getD i noE) b.index i b.time = er at hrun hok4 hinv;obtain ⟨ec2,es⟩:=er;simp only at hrun hok4 hinv
    by_cases hec : ec2 = 0
    case pos =>
      rw [if_pos hec] at hrun;obtain ⟨M2,D2,h2,m2,d2⟩:=hok4 hec;obtain ⟨hI2,hU2⟩:=hinv hec;refine K.kgo ?_;exact WQ.again (i + 1) ⟨rfl,rfl,rfl,rfl,rfl,rfl,trivial⟩ ⟨hil,bl4,es,M2,D2,h2,hI2,hU2,hrun,fun x hx => (m2 x hx).elim (mi x) (fun h => by omega),fun x hx => (d2 x hx).elim (di x) (fun h => .inr (by omega))⟩ (by omega)
    case neg =>
      rw [if_neg hec] at hrun;refine K.kgo ?_;exact WQ.ret1 rfl rfl (bad bl4 (by rw [happ,hrun,if_neg hec]))
  case neg =>
    obtain rfl : i = b.ents.length:=by omega
    rw [List.drop_length] at hrun;have hr0 : runR b b.ents 0 s = (0,si):=hrun;rw [happ,hr0,if_pos rfl];obtain ⟨cpx,Ox,mrx,mdx,mpx,mnx,kx,Fx,hX⟩:=hxi;have cx5:=hX.vbk.cell 5 (by simp);simp only [List.getD_cons_succ,List.getD_cons_zero] at cx5;have hnN:=hX.ok;have hns : si.n = s.n:=runR_n hr0;refine K.kgl ?_;refine WL.store rfl rfl rfl rfl rfl rfl (by kernel_rfl) cx5 (VBlk.free hX.vbk 5) ?_;have vx:=hX.vbk.set 5 (.int .i64 ((si.n : Int) + 1));have kx2 : Keep (fun x => x ≠ xb) wl (wl.setCell ⟨xb,5,none⟩ (.int .i64 ((si.n : Int) + 1))):=(Keep.refl _ _).setCell (by simp) _;generalize wl.setCell ⟨xb,5,none⟩ (.int .i64 ((si.n : Int) + 1)) = wm at vx kx2 ⊢;change VBlk pvT wm xb [.pointer (some ⟨cpx,0,none⟩),.map (some mrx),.map (some mdx),.map (some mpx),.map (some mnx),.int .i64 ((si.n : Int) + 1)] at vx;refine K.kgo ?_;refine WL.loadMid rfl rfl rfl rfl rfl rfl (VBlk.rangeAt vx) rfl ?_;have hxb:=mi xb hX.mvb;have vvb:=(VBlk.below h1.vbk bl lvb).keep kx2 (show vb ≠ xb by omega);have hone : Ones [Value.pointer (some ⟨cpx,0,none⟩),.map (some mrx),.map (some mdx),.map (some mpx),.map (some mnx),.int .i64 ((si.n : Int) + 1)]:=fun u hu => by
      simp at hu
      rcases hu with rfl | rfl | rfl | rfl | rfl | rfl <;> rfl
    refine K.kgo ?_;refine WL.storeRow rfl rfl rfl rfl rfl rfl vvb rfl rfl hone ?_;have vf:=vvb.setRow [Value.pointer (some ⟨cpx,0,none⟩),.map (some mrx),.map (some mdx),.map (some mpx),.map (some mnx),.int .i64 ((si.n : Int) + 1)];have kf : Keep (fun x => x ≠ xb ∧ x ≠ vb) wl (wm.setRow vb [Value.pointer (some ⟨cpx,0,none⟩),.map (some mrx),.map (some mdx),.map (some mpx),.map (some mnx),.int .i64 ((si.n : Int) + 1)].toArray):=Cr.keepRow (kx2.mono fun x hx => hx.1) (fun hh => hh.2 rfl) _;generalize wm.setRow vb _ = wf at vf kf ⊢;refine K.kgo ?_;have hV : PV wf vb (fun x => x = vb ∨ Mi x) Di f { si with n:=si.n + 1 } cpx Ox mrx mdx mpx mnx kx (N + 4 * b.ents.length + 1) Fx :=
      hX.over (by rw [show (((si.n + 1 : Nat)) : Int) = (si.n : Int) + 1 by omega];exact vf) kf (fun x hx e => by have:=mi x hx;omega) (fun x hx e => (di x hx).elim (fun hd => h.sep vb h.mvb (e ▸ hd)) (fun hd => by omega)) (by omega) ⟨by omega,by omega,by omega⟩
    rw [← hns];exact WQ.ret1 rfl rfl ⟨_,Di,rfl,⟨_,_,_,_,_,_,_,_,hV⟩,((Keep.of_below (b1.trans (bl.mono z1))).mono fun x hx => hx.1).trans (kf.mono fun x hx => ⟨fun e => by omega,fun e => hx.2 (e ▸ h.mvb)⟩),fun x hx => hx.elim (fun e => .inl (e ▸ h.mvb)) (fun hm => .inr (by have:=mi x hm;omega)),fun x hx => (di x hx).imp id fun hh => by omega⟩
end Vw
namespace Vw
open K
set_option maxRecDepth 100000
set_option maxHeartbeats 4000000 in
theorem rowsL_any {w : World} {f : Nat} {r : Rw} {dc dd : List Value} (h1 : IsV f w r.data dc) (h2 : IsV f w r.data dd) :
    Calls Tryz.prog 21 #[.agg (rwC r dc).toArray,.agg (rwC r dd).toArray] w fun e w' => Below w.heap.size w w' ∧ e = .returned (.bool true):=by
  have l1:=h1.len;have l2:=h2.len;refine enter (args:=[.agg (rwC r dc).toArray,.agg (rwC r dd).toArray]) Tryz.func21 rfl Tryz.ntmps21 rfl ?_;refine K.kgn ?_;refine WL.box rfl rfl rfl rfl rfl fun g2 w1 f1 => ?_;refine WL.box rfl rfl rfl rfl rfl fun g3 w2 f2 => ?_;have v2 : VBlk prT w2 g2 (rwC r dc):=VBlk.below f1.blk f2.below f1.blk.lt;have v3 : VBlk rrT w2 g3 (rwC r dd):=f2.blk;have b2:=f1.below.trans (f2.below.mono f1.below.size);clear f1 f2;have R2 : RwAt w2 g2 0 r dc:=RwAt.of (VBlk.rangeAt v2) l1;have R3 : RwAt w2 g3 0 r dd:=RwAt.of (VBlk.rangeAt v3) l2;have x1:=R2.tab;have x2:=R2.doc;have x3:=R2.ver;have x4:=R2.gone;have x5:=R2.del;have x6:=R2.blk;have x7:=R2.ent;have x8:=R2.tim;have y1:=R3.tab;have y2:=R3.doc;have y3:=R3.ver;have y4:=R3.gone;have y5:=R3.del;have y6:=R3.blk;have y7:=R3.ent;have y8:=R3.tim;generalize r.gone = gn at x4 y4;generalize r.del = dl at x5 y5;cases gn <;> cases dl
  all_goals
    refine K.kgl ?_;refine WL.loadMid rfl rfl rfl rfl rfl rfl R2.data l1 ?_;refine K.kgl ?_;refine WL.loadMid rfl rfl rfl rfl rfl rfl R3.data l2 ?_;refine K.kgo ?_;refine WL.call rfl rfl rfl rfl rfl Tryz.func49 rfl (by kernel_rfl) (equal_any f (h1.below b2) (h2.below b2)) ?_;rintro _ w4 ⟨⟨q,rfl,hq⟩,b4⟩;refine ⟨_,rfl,?_⟩;obtain rfl : q = true:=hq.2 rfl;refine K.kgo ?_;exact WQ.ret1 rfl rfl ⟨b2.trans (b4.mono b2.size),rfl⟩
set_option maxHeartbeats 4000000 in
theorem allL_any {w : World} {f : Nat} {L : List Rw} {D1 D2 O1 O2 : Nat → Prop} {v1 v2 : Value} (h1 : Els 14 noR (RowP D1 f w) O1 w v1 L) (h2 : Els 14 noR (RowP D2 f w) O2 w v2 L) (hl : L.length ≤ 100000000000) :
    Calls Tryz.prog 36 #[v1,v2] w fun e w' => Below w.heap.size w w' ∧ e = .returned (.bool true):=by
  obtain ⟨sp1,cp1,rfl,-⟩:=id h1;obtain ⟨sp2,cp2,rfl,-⟩:=id h2;refine enter (args:=[.slice sp1 L.length cp1,.slice sp2 L.length cp2]) Tryz.func36 rfl Tryz.ntmps36 rfl ?_;refine K.kgo ?_;refine WC.loop (fun i : Nat => [(0,.slice sp1 L.length cp1),(1,.slice sp2 L.length cp2),(5,.int .i64 i)]) (fun i w' => i ≤ L.length ∧ Below w.heap.size w w') (fun i => L.length - i) 0 ⟨rfl,rfl,rfl,trivial⟩ ⟨Nat.zero_le _,Below.refl _ _⟩ ?_;rintro i wl ⟨hi,bl⟩
  by_cases hlt : i < L.length
  case neg =>
    obtain rfl : i = L.length:=by omega
    refine K.kgo ?_;exact WQ.ret1 rfl rfl ⟨bl,rfl⟩
  case pos =>
  obtain ⟨b1,o1,cap1,dc,es,lb1,-,R1,hv1,-,-⟩:=els_at h1 hlt;obtain ⟨rfl,rfl⟩ : sp1 = some ⟨b1,o1,none⟩ ∧ cp1 = cap1:=by simpa using es
  clear es;obtain ⟨b2,o2,cap2,dd,es,lb2,-,R2,hv2,-,-⟩:=els_at h2 hlt;obtain ⟨rfl,rfl⟩ : sp2 = some ⟨b2,o2,none⟩ ∧ cp2 = cap2:=by simpa using es
  clear es;generalize L.getD i noR = r at R1 R2 hv1 hv2;have hdl:=hv1.len;have hdl2:=hv2.len;refine K.kgo ?_;refine WC.drawn 9 (fun wx => Below w.heap.size w wx) fun wa hdr => ?_;have hS : Below w.heap.size w wa:=bl.trans (hdr.below _);refine K.fr [0,1] hS ?_;refine K.wi 2 i (o1 + i * 14) rfl rfl rfl rfl rfl rfl rfl rfl rfl hlt rfl (.inr hS) ?_;refine K.wm 3 [8,9] rfl rfl rfl rfl rfl rfl rfl (fun wx hx => fun q u hu => (hx.cell (p:=⟨b1,o1 + i * 14 + q,none⟩) lb1).trans (R1.all q u hu)) (rwC_len hdl) hS ?_;refine K.fr [4,5] hS ?_;refine K.wi 6 i (o2 + i * 14) rfl rfl rfl rfl rfl rfl rfl rfl rfl hlt rfl (.inr hS) ?_;refine K.wm 7 [8,9] rfl rfl rfl rfl rfl rfl rfl (fun wx hx => fun q u hu => (hx.cell (p:=⟨b2,o2 + i * 14 + q,none⟩) lb2).trans (R2.all q u hu)) (rwC_len hdl2) hS ?_;refine K.wo 8 ?_;refine WL.call rfl rfl rfl rfl rfl Tryz.func21 rfl (by kernel_rfl) (rowsL_any (hv1.isV.below hS) (hv2.isV.below hS)) ?_;rintro _ wb ⟨bb,rfl⟩;refine ⟨_,rfl,?_⟩;have hSx:=hS.trans (bb.mono hS.size);refine K.di hSx ?_;refine K.wo 9 ?_;refine WL.pure rfl rfl rfl rfl ?_;refine K.dl ?_;refine WD.done (by kernel_rfl) ?_;refine K.kgo ?_;exact WQ.again (i + 1) ⟨rfl,rfl,rfl,trivial⟩ ⟨hlt,hSx⟩ (by omega)
end Vw
namespace Vw
open K
set_option maxRecDepth 100000
theorem docs_opn (s : St) (t : Int) : (if opn s t = true then docsR s t else []) = docsR s t:=by
  by_cases h : opn s t = true
  · rw [if_pos h]
  · rw [if_neg h]
    unfold docsR
    symm
    rw [List.filterMap_eq_nil_iff];intro i _;unfold liveR;rw [if_neg h]
theorem hist_len (s : St) (t : Int) : (histR s t).length ≤ s.rows.length * s.rows.length:=by
  have key : ∀ n : Nat,((List.range n).flatMap fun (i : Nat) => Vw.of s.rows (t,(i : Int) + 1)).length ≤ n * s.rows.length:=fun n => by
    induction n with
    | zero => simp
    | succ n ih =>
      rw [List.range_succ,List.flatMap_append,List.length_append,Nat.succ_mul];have:=of_len s.rows (t,(n : Int) + 1);simp only [List.flatMap_cons,List.flatMap_nil,List.append_nil];omega
  exact Nat.le_trans (key _) (Nat.mul_le_mul_right _ (cnt_le t s.rows))
theorem docs_len (s : St) (t : Int) : (docsR s t).length ≤ s.rows.length:=by
  have:=List.length_filterMap_le (fun (i : Nat) => liveR s (t,(i : Int) + 1)) (List.range (cnt t s.rows));rw [List.length_range] at this;exact Nat.le_trans this (cnt_le t s.rows)
theorem Inv.doc' {s : St} (h : Inv s) (t : Int) : ∀ r ∈ s.rows,r.tab = t → 1 ≤ r.doc ∧ r.doc ≤ cnt t s.rows:=fun r hr e => by have:=h.doc r hr;rwa [e] at this
theorem Inv.tab' {s : St} (h : Inv s) (t : Int) : ∀ r ∈ s.rows,r.tab = t → (Cat.tabR s.cat t).2.2 = 0:=fun r hr e => by have:=h.tab r hr;rwa [e] at this
set_option maxHeartbeats 16000000 in
theorem stood_any {w : World} {vb rb : Nat} {M D M' D' : Nat → Prop} {f : Nat} {s : St} {N N' : Nat} (h0 : PVs w vb M D (f + 1) s N) (r0 : RVs w rb M' D' (f + 1) s N') (hI : Inv s) (hN : N ≤ 100000) (hN' : N' ≤ 100000) :
    Calls Tryz.prog 15 #[.pointer (some ⟨vb,0,none⟩),.pointer (some ⟨rb,0,none⟩)] w fun e w' => Below w.heap.size w w' ∧ e = .returned (.bool true):=by
  obtain ⟨cp,Oc,mr,md,mp,mn,k,F,h⟩:=id h0;obtain ⟨rcp,rOc,rv,mb,rk,r⟩:=id r0;obtain ⟨tv,cells,hrc⟩:=id r.cat;have d0:=r.vb.cell 0 (by simp);have d2:=r.vb.cell 2 (by simp);simp only [List.getD_cons_succ,List.getD_cons_zero] at d0 d2;have lrb:=r.lt rb (.inl r.mrb);have hok:=h.ok;have hgl : s.cat.length ≤ 64:=hrc.good.len;have e0:=hrc.vb.cell 0 (by simp);simp only [List.getD_cons_zero] at e0;have htv : ∃ spt cpt,tv = .slice spt s.cat.length cpt:=by
    obtain ⟨-,-,x1,x2,x3,-⟩:=hrc.own.slV;exact ⟨x1,x2,x3⟩
  obtain ⟨spt,cpt,rfl⟩:=htv;refine enter (args:=[.pointer (some ⟨vb,0,none⟩),.pointer (some ⟨rb,0,none⟩)]) Tryz.func15 rfl Tryz.ntmps15 rfl ?_;refine K.kgl ?_;refine WC.drawn 19 (fun wx => Below w.heap.size w wx) fun wa hdr => ?_;have hS : Below w.heap.size w wa:=hdr.below _;clear hdr;refine K.fr [0,2,3,4] hS ?_;refine K.wl 5 [6,7,8,9,10,11,12,13,14,15,16,17,18,19] rfl rfl rfl rfl rfl rfl rfl (fun wx hx => (hx.cell (p:=⟨rb,2,none⟩) lrb).trans d2) hS ?_;refine K.wo 1 ?_;refine WL.call rfl rfl rfl rfl rfl Tryz.func24 rfl (by kernel_rfl) (pblocks_any (h0.below hS)) ?_;rintro _ w2 ⟨rfl,rfl⟩;refine ⟨_,rfl,?_⟩;refine K.di hS ?_;refine K.fr [6,7,8] hS ?_;refine K.wo 9 ?_;refine WL.on rfl rfl ?_;refine WL.call rfl rfl rfl rfl rfl Tryz.func20 rfl (by kernel_rfl) (pcat_any (h.below hS)) ?_;rintro _ w2 ⟨rfl,rfl⟩;refine ⟨_,rfl,?_⟩;refine K.di hS ?_;refine K.wo 10 ?_;refine WL.on rfl rfl ?_;refine WL.nilP rfl rfl rfl rfl rfl rfl (by kernel_rfl) ?_;refine K.di hS ?_;refine K.fr [11,12,13,17] hS ?_;refine K.wo 14 ?_;refine WL.on rfl rfl ?_;refine WL.call rfl rfl rfl rfl rfl Tryz.func20 rfl (by kernel_rfl) (pcat_any (h.below hS)) ?_;rintro _ w2 ⟨rfl,rfl⟩;refine ⟨_,rfl,?_⟩;refine K.di hS ?_;refine K.wo 15 ?_;refine WL.on rfl rfl ?_;refine WL.call rfl rfl rfl rfl rfl Tryz.func35 rfl (by kernel_rfl) (Cat.all_any (h.below hS).cat) ?_;rintro _ w2 ⟨spa,cpa,rfl,-,b2⟩;refine ⟨_,rfl,?_⟩;replace hS:=hS.trans (b2.mono hS.size);refine K.di hS ?_;refine K.fr [16,18] hS ?_;refine K.wo 19 ?_;refine WL.pure rfl rfl rfl rfl ?_;refine K.dl ?_;refine WD.done (by kernel_rfl) ?_;refine K.kgo ?_;have keepE : ∀ {wx wy : World} {B : Nat} {v : Value} {L : List Rw},Els 14 noR (RowP (fun x => B ≤ x) (f + 1) wx) (fun x => B ≤ x) wx v L → Below wx.heap.size wx wy → Els 14 noR (RowP (fun x => B ≤ x) (f + 1) wy) (fun x => B ≤ x) wy v L:=fun he hb => he.keep (Keep.of_below hb) (fun x _ hl => hl) (fun _ hx => hx) fun _ _ hp => hp.keep (Keep.of_below hb) (fun x _ hl => hl) (fun _ hx => hx);have hrows : s.rows.length ≤ 100000:=by omega
  refine WC.loop (fun i : Nat => [(0,.pointer (some ⟨vb,0,none⟩)),(1,.pointer (some ⟨rb,0,none⟩)),(5,.int .i64 (s.cat.length : Nat)),(6,.int .i64 i)]) (fun i w' => i ≤ s.cat.length + 2 ∧ Below w.heap.size w w') (fun i => s.cat.length + 2 - i) 0 ⟨rfl,rfl,rfl,rfl,trivial⟩ ⟨Nat.zero_le _,hS⟩ ?_;clear hS b2 d0 d2 e0;rintro i wl ⟨hi,bl⟩
  by_cases hlt : i < s.cat.length + 2
  case neg =>
    obtain rfl : i = s.cat.length + 2:=by omega
    refine K.kgo ?_;exact WQ.ret1 rfl rfl ⟨bl,rfl⟩
  case pos =>
  have rt : R64 (i : Int):=⟨by omega,by omega⟩;have zl:=bl.size;refine K.kgo ?_;refine WL.call rfl rfl rfl rfl rfl Tryz.func22 rfl (by kernel_rfl) (pdocs_any (h0.below bl) rt) ?_;rintro _ w2 ⟨b2,v2,rfl,x2⟩;refine ⟨_,rfl,?_⟩;have c2:=bl.trans (b2.mono zl);refine K.kgo ?_;refine WL.call rfl rfl rfl rfl rfl Tryz.func37 rfl (by kernel_rfl) (rdocs_any (r0.below c2) (i : Int) (hI.doc' _)) ?_;rintro _ w3 ⟨b3,v3,rfl,x3⟩;refine ⟨_,rfl,?_⟩;rw [docs_opn] at x3;have c3:=c2.trans (b3.mono c2.size);refine K.kgo ?_;refine WL.call rfl rfl rfl rfl rfl Tryz.func36 rfl (by kernel_rfl) (allL_any (keepE x2 b3) x3 (by have:=docs_len s (i : Int);omega)) ?_;rintro _ w4 ⟨b4,rfl⟩;refine ⟨_,rfl,?_⟩;have c4:=c3.trans (b4.mono c3.size);clear x2 x3 b2 b3 b4 c2 c3;refine K.kgo ?_;refine WL.call rfl rfl rfl rfl rfl Tryz.func18 rfl (by kernel_rfl) (phist_any (h0.below c4) hN rt) ?_;rintro _ w5 ⟨b5,v5,rfl,x5⟩;refine ⟨_,rfl,?_⟩;have c5:=c4.trans (b5.mono c4.size);refine K.kgo ?_;refine WL.call rfl rfl rfl rfl rfl Tryz.func38 rfl (by kernel_rfl) (rhist_any (r0.below c5) hN' (i : Int) (hI.doc' _) (hI.tab' _)) ?_;rintro _ w6 ⟨b6,v6,rfl,x6⟩;refine ⟨_,rfl,?_⟩;have c6:=c5.trans (b6.mono c5.size);have hhl : (histR s (i : Int)).length ≤ 100000000000:=by
    have h1:=hist_len s (i : Int);have h2 : s.rows.length * s.rows.length ≤ 100000 * 100000:=Nat.mul_le_mul hrows hrows;omega
  refine K.kgo ?_;refine WL.call rfl rfl rfl rfl rfl Tryz.func36 rfl (by kernel_rfl) (allL_any (keepE x5 b6) x6 hhl) ?_;rintro _ w7 ⟨b7,rfl⟩;refine ⟨_,rfl,?_⟩;have c7:=c6.trans (b7.mono c6.size);clear x5 x6 b5 b6 b7 c4 c5 c6 hhl;refine K.kgo ?_;refine WL.call rfl rfl rfl rfl rfl Tryz.func23 rfl (by kernel_rfl) (pnext_any (h0.below c7) rt) ?_;rintro _ w8 ⟨rfl,b8⟩;refine ⟨_,rfl,?_⟩;have c8:=c7.trans (b8.mono c7.size);refine K.kgo ?_;refine WL.call rfl rfl rfl rfl rfl Tryz.func39 rfl (by kernel_rfl) (next_any (r0.below c8) (i : Int)) ?_;rintro _ w9 ⟨rfl,b9⟩;refine ⟨_,rfl,?_⟩;have c9:=c8.trans (b9.mono c8.size);clear b8 b9 c7 c8;refine K.kgo ?_;refine WC.loop (fun d : Nat => [(0,.pointer (some ⟨vb,0,none⟩)),(1,.pointer (some ⟨rb,0,none⟩)),(5,.int .i64 (s.cat.length : Nat)),(6,.int .i64 i),(7,.int .i64 d)]) (fun d w' => d ≤ 20 ∧ Below w.heap.size w w') (fun d => 20 - d) 0 ⟨rfl,rfl,rfl,rfl,rfl,trivial⟩ ⟨Nat.zero_le _,c9⟩ ?_;clear c9 bl zl;rintro d wd ⟨hd,bd⟩;have zd:=bd.size;refine K.kgo ?_;refine WL.call rfl rfl rfl rfl rfl Tryz.func39 rfl (by kernel_rfl) (next_any (r0.below bd) (i : Int)) ?_;rintro _ w2 ⟨rfl,b2⟩;refine ⟨_,rfl,?_⟩;have c2:=bd.trans (b2.mono zd);have z2:=c2.size
  by_cases hdn : (d : Int) ≤ next s (i : Int)
  case neg =>
    refine K.kgo ?_;exact WQ.again (i + 1) ⟨rfl,rfl,rfl,rfl,trivial⟩ ⟨by omega,c2⟩ (by omega)
  case pos =>
  by_cases hd20 : d < 20
  case neg =>
    refine K.kgo ?_;exact WQ.again (i + 1) ⟨rfl,rfl,rfl,rfl,trivial⟩ ⟨by omega,c2⟩ (by omega)
  case pos =>
  have rd : R64 (d : Int):=⟨by omega,by omega⟩;refine K.kgo ?_;refine WL.call rfl rfl rfl rfl rfl Tryz.func19 rfl (by kernel_rfl) (pdoc_any (h0.below c2) rt rd) ?_;rintro _ w3 ⟨b3,r3,dc3,q3,rfl,hv3,hm3⟩;refine ⟨_,rfl,?_⟩;have l3:=hv3.len;have c3:=c2.trans (b3.mono z2);refine K.kgo ?_;refine WL.alloc (z:=.agg (rwC noR zCells).toArray) rfl rfl rfl rfl (fun _ => by kernel_rfl) fun g8 w4 f4 => ?_;refine WL.storeRow rfl rfl rfl rfl rfl rfl f4.blk (rwC_len l3) rfl (rwC_one hv3.one) ?_;obtain ⟨v8,b4,-,-⟩:=rowed (rwC r3 dc3) (Below.refl w3.heap.size w3) f4;generalize w4.setRow g8 _ = w5 at v8 b4 ⊢;clear f4;have c5:=c3.trans (b4.mono c3.size);refine K.kgo ?_;refine WL.call rfl rfl rfl rfl rfl Tryz.func40 rfl (by kernel_rfl) (rdoc_any (r0.below c5) (i : Int) (d : Int)) ?_;rintro _ w6 ⟨b6,r6,dc6,q6,rfl,hv6,hm6⟩;refine ⟨_,rfl,?_⟩;have l6:=hv6.len;have c6:=c5.trans (b6.mono c5.size);refine K.kgo ?_;refine WL.alloc (z:=.agg (rwC noR zCells).toArray) rfl rfl rfl rfl (fun _ => by kernel_rfl) fun g10 w7 f7 => ?_;refine WL.storeRow rfl rfl rfl rfl rfl rfl f7.blk (rwC_len l6) rfl (rwC_one hv6.one) ?_;obtain ⟨v10,b7,-,-⟩:=rowed (rwC r6 dc6) (Below.refl w6.heap.size w6) f7;generalize w7.setRow g10 _ = w8 at v10 b7 ⊢;clear f7;have c8:=c6.trans (b7.mono c6.size);have b58:=b6.trans (b7.mono b6.size);obtain ⟨rfl,rfl⟩ : r3 = r6 ∧ q3 = q6:=by
    cases hT : liveR s ((i : Int),(d : Int)) with
    | none => rw [hT] at hm3 hm6;exact ⟨hm3.1.trans hm6.1.symm,hm3.2.trans hm6.2.symm⟩
    | some r' => rw [hT] at hm3 hm6;exact ⟨hm3.1.trans hm6.1.symm,hm3.2.trans hm6.2.symm⟩
  have hq : ∀ z : Bool,(z == z) = true:=fun z => by cases z <;> rfl
  refine K.kgo ?_;refine WL.loadMid rfl rfl rfl rfl rfl rfl (VBlk.rangeAt (VBlk.below v8 b58 v8.lt)) (rwC_len l3) ?_;refine WL.loadMid rfl rfl rfl rfl rfl rfl (VBlk.rangeAt v10) (rwC_len l6) ?_;refine WL.call rfl rfl rfl rfl rfl Tryz.func21 rfl (by kernel_rfl) (rowsL_any (hv3.isV.below (b4.trans (b58.mono b4.size))) (hv6.isV.below b7)) ?_;rintro _ w9 ⟨b9,rfl⟩;refine ⟨_,rfl,?_⟩;have c9:=c8.trans (b9.mono c8.size);cases q3 with
  | false =>
    refine WL.as 11 (.bool false) rfl rfl ?_;refine WL.as 9 (.bool false) rfl rfl ?_;refine K.kgo ?_;exact WQ.again (d + 1) ⟨rfl,rfl,rfl,rfl,rfl,trivial⟩ ⟨hd20,c9⟩ (by omega)
  | true =>
    refine WL.as 11 (.bool true) rfl rfl ?_;refine WL.as 9 (.bool true) rfl rfl ?_;refine K.kgo ?_;exact WQ.again (d + 1) ⟨rfl,rfl,rfl,rfl,rfl,trivial⟩ ⟨hd20,c9⟩ (by omega)
end Vw
namespace Vw
open K
set_option maxRecDepth 100000
abbrev acT : Nat:=77
def acC (x : Ac) (dc ec : List Value) : List Value:=[Value.int .i64 x.kind,.int .i64 x.table,.int .i64 x.doc,.int .i64 x.pick] ++ (dc ++ (Value.string x.field :: ec))
structure AcOk (x : Ac) : Prop where
  kind : R64 x.kind
  table : R64 x.table
  doc : R64 x.doc
  pick : R64 x.pick
  field : x.field.size ≤ 140737488355328
def AcP (E : Nat → Prop) (f : Nat) (w : World) (x : Ac) (cs : List Value) : Prop:=∃ dc ec,cs = acC x dc ec ∧ IsVo E f w x.data dc ∧ EnP (IsVo E f w) x.e ec ∧ AcOk x
structure AcAt (w : World) (g : Nat) (x : Ac) (dc ec : List Value) : Prop where
  blk : VBlk acT w g (acC x dc ec)
  dl : dc.length = 6
  el : ec.length = 46
section
variable {w w' : World} {g : Nat} {x : Ac} {dc ec : List Value}
theorem AcAt.kind (h : AcAt w g x dc ec) : w.cell? ⟨g,0,none⟩ = some (.int .i64 x.kind):=h.blk.cell 0 (by simp [acC])
theorem AcAt.table (h : AcAt w g x dc ec) : w.cell? ⟨g,1,none⟩ = some (.int .i64 x.table):=h.blk.cell 1 (by simp [acC])
theorem AcAt.doc (h : AcAt w g x dc ec) : w.cell? ⟨g,2,none⟩ = some (.int .i64 x.doc):=h.blk.cell 2 (by simp [acC])
theorem AcAt.pick (h : AcAt w g x dc ec) : w.cell? ⟨g,3,none⟩ = some (.int .i64 x.pick):=h.blk.cell 3 (by simp [acC])
theorem AcAt.data (h : AcAt w g x dc ec) : w.rangeAt g 4 dc:=VBlk.part h.blk [Value.int .i64 x.kind,.int .i64 x.table,.int .i64 x.doc,.int .i64 x.pick] dc (Value.string x.field :: ec) rfl
theorem AcAt.field (h : AcAt w g x dc ec) : w.cell? ⟨g,10,none⟩ = some (.string x.field):=by
  have:=VBlk.part h.blk ([Value.int .i64 x.kind,.int .i64 x.table,.int .i64 x.doc,.int .i64 x.pick] ++ dc) [Value.string x.field] ec (by unfold acC;simp);rw [show (([Value.int .i64 x.kind,.int .i64 x.table,.int .i64 x.doc,.int .i64 x.pick] : List Value) ++ dc).length = 10 by simp [h.dl]] at this;exact this 0 _ rfl
theorem AcAt.e (h : AcAt w g x dc ec) : w.rangeAt g 11 ec:=by
  have:=VBlk.part h.blk ([Value.int .i64 x.kind,.int .i64 x.table,.int .i64 x.doc,.int .i64 x.pick] ++ (dc ++ [Value.string x.field])) ec [] (by unfold acC;simp)
  rwa [show (([Value.int .i64 x.kind,.int .i64 x.table,.int .i64 x.doc,.int .i64 x.pick] : List Value) ++ (dc ++ [Value.string x.field])).length = 11 by simp [h.dl]] at this
theorem AcAt.below (h : AcAt w g x dc ec) (hb : Below w.heap.size w w') : AcAt w' g x dc ec:=⟨VBlk.below h.blk hb (VBlk.lt h.blk),h.dl,h.el⟩
end
end Vw
namespace Vw
open K
set_option maxRecDepth 100000
theorem builtE6 (t : Int) : Tryz.prog.built enT [(0,.int .i64 6),(2,.int .i64 t)] = some (enC { noE with kind:=6,table:=t } zCells).toArray:=by kernel_rfl
theorem builtE7 (t : Int) (s : ByteArray) : Tryz.prog.built enT [(0,.int .i64 7),(2,.int .i64 t),(1,.string s)] = some (enC { noE with kind:=7,table:=t,text:=s } zCells).toArray:=by kernel_rfl
theorem builtE5 (t : Int) (s : ByteArray) : Tryz.prog.built enT [(0,.int .i64 5),(2,.int .i64 t),(1,.string s)] = some (enC { noE with kind:=5,table:=t,text:=s } zCells).toArray:=by kernel_rfl
theorem builtE3 (t d v : Int) : Tryz.prog.built enT [(0,.int .i64 3),(2,.int .i64 t),(3,.int .i64 d),(4,.int .i64 v)] = some (enC { noE with kind:=3,table:=t,doc:=d,ver:=v } zCells).toArray:=by kernel_rfl
theorem builtE40 : Tryz.prog.built enT [(0,.int .i64 4)] = some (enC { noE with kind:=4 } zCells).toArray:=by kernel_rfl
theorem builtE2q (k ta d v n1 n2 n3 : Int) (tx : ByteArray) (sp sq : Option Addr) (a1 a2 c1 c2 : Nat) (q : Nat → Int) : Tryz.prog.built enT [(0,.int .i64 k),(2,.int .i64 ta),(3,.int .i64 d),(4,.int .i64 v),(5,.agg #[.int .i64 n1,.int .i64 n2,.int .i64 n3,.string tx,.slice sp a1 c1,.slice sq a2 c2]),(6,.agg (hashC ((List.range 32).map q)).toArray)] =
    some (enC ⟨k,noT,ta,d,v,zV,(List.range 32).map q,false,0,0⟩ [.int .i64 n1,.int .i64 n2,.int .i64 n3,.string tx,.slice sp a1 c1,.slice sq a2 c2]).toArray:=by kernel_rfl
theorem builtE0q (k ta d n1 n2 n3 : Int) (tx : ByteArray) (sp sq : Option Addr) (a1 a2 c1 c2 : Nat) (q : Nat → Int) : Tryz.prog.built enT [(0,.int .i64 k),(2,.int .i64 ta),(3,.int .i64 d),(5,.agg #[.int .i64 n1,.int .i64 n2,.int .i64 n3,.string tx,.slice sp a1 c1,.slice sq a2 c2]),(6,.agg (hashC ((List.range 32).map q)).toArray)] =
    some (enC ⟨k,noT,ta,d,0,zV,(List.range 32).map q,false,0,0⟩ [.int .i64 n1,.int .i64 n2,.int .i64 n3,.string tx,.slice sp a1 c1,.slice sq a2 c2]).toArray:=by kernel_rfl
theorem range_q {h : List Int} (hh : h.length = 32) : ∃ q : Nat → Int,h = (List.range 32).map q:=by
  refine ⟨fun i => h.getD i 0,?_⟩
  apply List.ext_getElem
  · simp [hh]
  · intro i h1 h2
    simp [List.getD_eq_getElem?_getD,List.getElem?_eq_getElem h1]
theorem builtE0 (k ta d : Int) {h : List Int} (hh : h.length = 32) (n1 n2 n3 : Int) (tx : ByteArray) (sp sq : Option Addr) (a1 a2 c1 c2 : Nat) (dat : V) : Tryz.prog.built enT [(0,.int .i64 k),(2,.int .i64 ta),(3,.int .i64 d),(5,.agg #[.int .i64 n1,.int .i64 n2,.int .i64 n3,.string tx,.slice sp a1 c1,.slice sq a2 c2]),(6,.agg (hashC h).toArray)] =
    some (enC { noE with kind:=k,table:=ta,doc:=d,data:=dat,hash:=h } [.int .i64 n1,.int .i64 n2,.int .i64 n3,.string tx,.slice sp a1 c1,.slice sq a2 c2]).toArray:=by
  obtain ⟨q,rfl⟩:=range_q hh;exact builtE0q k ta d n1 n2 n3 tx sp sq a1 a2 c1 c2 q
theorem builtE2 (k ta d v : Int) {h : List Int} (hh : h.length = 32) (n1 n2 n3 : Int) (tx : ByteArray) (sp sq : Option Addr) (a1 a2 c1 c2 : Nat) (dat : V) : Tryz.prog.built enT [(0,.int .i64 k),(2,.int .i64 ta),(3,.int .i64 d),(4,.int .i64 v),(5,.agg #[.int .i64 n1,.int .i64 n2,.int .i64 n3,.string tx,.slice sp a1 c1,.slice sq a2 c2]),(6,.agg (hashC h).toArray)] =
    some (enC { noE with kind:=k,table:=ta,doc:=d,ver:=v,data:=dat,hash:=h } [.int .i64 n1,.int .i64 n2,.int .i64 n3,.string tx,.slice sp a1 c1,.slice sq a2 c2]).toArray:=by
  obtain ⟨q,rfl⟩:=range_q hh;exact builtE2q k ta d v n1 n2 n3 tx sp sq a1 a2 c1 c2 q
theorem builtE4 (a b : Int) : Tryz.prog.built enT [(0,.int .i64 4),(8,.agg #[.int .i64 a,.int .i64 b])] = some (enC { noE with kind:=4,ab:=a,ae:=b } zCells).toArray:=by kernel_rfl
theorem hashR_byt (v : V) : Byt (hashR v):=by
  unfold hashR
  split
  · exact z32_byt
  · intro c hc
    obtain ⟨i,hi,rfl⟩:=List.getElem_of_mem hc;have hl : (Dig.sumL (0 :: (encR v).1)).length = 32:=Dig.sumL_length _;have:=Dig.sumL_range (0 :: (encR v).1) i (by omega);unfold nth at this
    rwa [List.getD_eq_getElem?_getD,List.getElem?_eq_getElem hi] at this
theorem noTs : noT.size ≤ 140737488355328:=by decide
theorem enZ {E : Nat → Prop} {f : Nat} {w : World} {e : En} (h1 : e.data = zV) (h2 : e.hash = Dig.Z32) (h3 : e.text.size ≤ 140737488355328) (h4 : R64 e.kind ∧ R64 e.table ∧ R64 e.doc ∧ R64 e.ver ∧ R64 e.ab ∧ R64 e.ae) : EnP (IsVo E (f + 1) w) e (enC e zCells) :=
  ⟨zCells,rfl,h1 ▸ zV_is E f w,rfl,(zV_is E f w).one,by rw [h2];rfl,by rw [h2];exact z32_byt,h3,h4⟩
set_option maxHeartbeats 16000000 in
theorem entryL_any {w : World} {rb : Nat} {M D : Nat → Prop} {f : Nat} {s : St} {N : Nat} (h0 : RVs w rb M D (f + 1) s N) {E : Nat → Prop} {x : Ac} {xc : List Value} (hx : AcP E (f + 1) w x xc) (hlen : chk 16 x.data = 0 → (encV 16 x.data).length ≤ 70368744177664) :
    Calls Tryz.prog 29 #[.pointer (some ⟨rb,0,none⟩),.agg xc.toArray] w fun e w' => Below w.heap.size w w' ∧ ∃ ec,e = .returned (.agg ec.toArray) ∧ EnP (IsVo E (f + 1) w') (actE s x) ec:=by
  obtain ⟨dc,ec,rfl,hdv,hep,hok⟩:=hx;have hdl:=hdv.len;have hel:=hep.len;refine enter (args:=[.pointer (some ⟨rb,0,none⟩),.agg (acC x dc ec).toArray]) Tryz.func29 rfl Tryz.ntmps29 rfl ?_;refine K.kgn ?_;refine WL.box rfl rfl rfl rfl rfl fun g3 w1 f1 => ?_;have A1 : AcAt w1 g3 x dc ec:=⟨f1.blk,hdl,hel⟩;have b1:=f1.below;have e3:=f1.eq;clear f1;refine WL.alloc (z:=.agg (enC noE zCells).toArray) rfl rfl rfl rfl (fun _ => by kernel_rfl) fun g4 w2 f2 => ?_;have v4 : VBlk enT w2 g4 (enC noE zCells):=f2.blk;have b2:=b1.trans (f2.below.mono b1.size);have e4:=f2.eq;replace A1:=A1.below f2.below;have z1:=b1.size;clear f2;refine K.kgo ?_;refine WL.loadMid rfl rfl rfl rfl rfl rfl A1.data hdl ?_;refine WL.call rfl rfl rfl rfl rfl Tryz.func52 rfl (by kernel_rfl) (rhash_any (hdv.isV.below b2) hlen) ?_;rintro _ w3 ⟨rfl,b3⟩;refine ⟨_,rfl,?_⟩;have hhl : (hashC (hashR x.data)).length = 32:=by rw [List.length_map];exact hashR_len _
  replace A1:=A1.below b3;have l4:=VBlk.lt v4;replace v4:=VBlk.below v4 b3 l4;have c3:=b2.trans (b3.mono b2.size);refine K.kgo ?_;refine WL.alloc (z:=.agg (hashC Dig.Z32).toArray) rfl rfl rfl rfl (Dig.zero25) fun g5 w4 f4 => ?_;refine WL.storeRow rfl rfl rfl rfl rfl rfl f4.blk hhl rfl (Ones.int _ _) ?_;obtain ⟨v5,b5,-,-⟩:=rowed (hashC (hashR x.data)) (Below.refl w3.heap.size w3) f4;generalize w4.setRow g5 _ = w5 at v5 b5 ⊢;clear f4;replace A1:=A1.below b5;have l4':=VBlk.lt v4;replace v4:=VBlk.below v4 b5 l4';have c5:=c3.trans (b5.mono c3.size);have ck:=A1.kind;have cx:=A1.table;have l4s:=VBlk.lt v4;have hg4 : w.heap.size ≤ g4:=by omega
  have fin : ∀ {wx : World} {en : En} {cs : List Value},Below w5.heap.size w5 wx → EnP (IsVo E (f + 1) w) en cs → actE s x = en →
      VBlk enT (wx.setRow g4 cs.toArray) g4 cs ∧ (Below w.heap.size w (wx.setRow g4 cs.toArray) ∧ ∃ ec,Ending.returned (.agg cs.toArray) = .returned (.agg ec.toArray) ∧ EnP (IsVo E (f + 1) (wx.setRow g4 cs.toArray)) (actE s x) ec):=fun {wx en cs} hxb hp he => by
    have bb:=c5.trans (hxb.mono c5.size);have bf:=(Cr.keepRow (K:=fun y => y < w.heap.size) (g:=g4) (Keep.of_below bb) (fun hh => by omega) cs.toArray).below;have v4x:=VBlk.below v4 hxb l4s;refine ⟨v4x.setRow cs,bf,cs,rfl,?_⟩;rw [he];exact EnP.mono (fun v c hv => hv.keep (Keep.of_below bf) (fun y _ hl => hl) (fun _ h => h)) hp
  obtain ⟨rcp,rOc,rv,mb,rk,rr⟩:=id h0;have r5:=rr.below c5;obtain ⟨tv,cells,hrc⟩:=id r5.cat;have rok : ∀ r ∈ s.rows,R64 r.ver:=fun r hr => by
    obtain ⟨j,hj,rfl⟩:=List.getElem_of_mem hr;obtain ⟨-,-,-,-,-,-,-,-,-,hrok,-⟩:=els_at (own_els r5.rows) hj;rw [← getD_lt (d:=noR) hj];exact hrok.ver
  have hrl:=own_els r5.rows;obtain ⟨spr,cpr,rfl,-⟩:=id hrl;have hrk:=rr.ok;have d0:=r5.vb.cell 0 (by simp);have d1:=r5.vb.cell 1 (by simp);simp only [List.getD_cons_succ,List.getD_cons_zero] at d0 d1;have lrb:=r5.lt rb (.inl r5.mrb);have lrcp:=hrc.lt rcp hrc.rc;have hgl : s.cat.length ≤ 64:=hrc.good.len;have t0:=hrc.vb.cell 0 (by simp);simp only [List.getD_cons_zero] at t0;obtain ⟨spt,cpt,rfl⟩ : ∃ spt cpt,tv = .slice spt s.cat.length cpt:=by
    obtain ⟨-,-,x1,x2,x3,-⟩:=hrc.own.slV;exact ⟨x1,x2,x3⟩
  have r0 : ∀ n : Nat,n ≤ 10 → R64 (n : Int):=fun n hn => ⟨by omega,by omega⟩;refine K.kgl ?_
  by_cases k0 : x.kind = 0
  case pos =>
    obtain ⟨sp',sq',n1',n2',c1',c2',rfl⟩:=vo_six hdv;have hcl:=cnt_le x.table s.rows;have hrok:=rr.ok;have hnx : R64 (next s x.table):=by
      unfold next
      split
      · exact ⟨by omega,by omega⟩
      · exact r0 0 (by omega)
    have he : actE s x = { noE with kind:=2,table:=x.table,doc:=next s x.table,data:=x.data,hash:=hashR x.data }:=by unfold actE;rw [if_pos k0]
    have hp : EnP (IsVo E (f + 1) w) { noE with kind:=2,table:=x.table,doc:=next s x.table,data:=x.data,hash:=hashR x.data } (enC { noE with kind:=2,table:=x.table,doc:=next s x.table,data:=x.data,hash:=hashR x.data } [.int .i64 x.data.k,.int .i64 x.data.n,.int .i64 x.data.s,.string x.data.t,.slice sp' n1' c1',.slice sq' n2' c2']):=⟨_,rfl,hdv,rfl,hdv.one,hashR_len _,hashR_byt _,noTs,⟨r0 2 (by omega),hok.table,hnx,r0 0 (by omega),r0 0 (by omega),r0 0 (by omega)⟩⟩;have l3:=VBlk.lt A1.blk;have l5:=VBlk.lt v5;refine K.kgl ?_;refine WC.condT rfl k0 ?_;refine K.kgl ?_;refine WC.drawn 10 (fun wx => Below w5.heap.size w5 wx) fun wa hdr => ?_;have hS : Below w5.heap.size w5 wa:=hdr.below _;clear hdr;refine K.fr [0] hS ?_;refine K.wl 1 [9,10] rfl rfl rfl rfl rfl rfl rfl (fun wx hx => (hx.cell (p:=⟨g3,1,none⟩) l3).trans cx) hS ?_;refine K.fr [2,3] hS ?_;refine K.wl 4 [5,9,10] rfl rfl rfl rfl rfl rfl rfl (fun wx hx => (hx.cell (p:=⟨g3,1,none⟩) l3).trans cx) hS ?_;refine K.fr [6] hS ?_;refine K.wm 7 [9,10] rfl rfl rfl rfl rfl rfl rfl (fun wx hx => (A1.below hx).data) rfl hS ?_;refine K.wm 8 [9,10] rfl rfl rfl rfl rfl rfl rfl (fun wx hx => VBlk.rangeAt (VBlk.below v5 hx l5)) hhl hS ?_;refine K.wo 5 ?_;refine WL.call rfl rfl rfl rfl rfl Tryz.func39 rfl (by kernel_rfl) (next_any (h0.below (c5.trans (hS.mono c5.size))) x.table) ?_;rintro _ wb ⟨rfl,bb⟩;refine ⟨_,rfl,?_⟩;replace hS:=hS.trans (bb.mono hS.size);refine K.di hS ?_;refine Cr.WDbuild (enC { noE with kind:=2,table:=x.table,doc:=next s x.table,data:=x.data,hash:=hashR x.data } [.int .i64 x.data.k,.int .i64 x.data.n,.int .i64 x.data.s,.string x.data.t,.slice sp' n1' c1',.slice sq' n2' c2']) 9 rfl (by kernel_rfl) rfl rfl (fun _ _ _ _ _ h => h) rfl rfl rfl (builtE0 _ _ _ (hashR_len _) _ _ _ _ _ _ _ _ _ _ _) (.inr hS) ?_;refine K.wo 10 ?_;obtain ⟨vf,hf⟩:=fin hS hp he;refine WL.storeRow rfl rfl rfl rfl rfl rfl (VBlk.below v4 hS l4s) hp.len rfl hp.one ?_;refine K.dl ?_;refine WD.done (by kernel_rfl) ?_;refine K.kgo ?_;exact WQ.retC rfl rfl rfl hp.len vf hf
  case neg =>
  refine WC.condF rfl k0 ?_
  by_cases k12 : x.kind = 1 ∨ x.kind = 2
  case pos =>
    have cy:=A1.doc;have l3:=VBlk.lt A1.blk;have hve : verN s x.table x.doc = verL s.rows (x.table,x.doc):=rfl;have hvR : R64 (verL s.rows (x.table,x.doc)):=verL_rng fun r hr => by have h1:=rr.vers r hr;have h2:=rr.ok;exact ⟨(rok r hr).1,by omega⟩
    by_cases k2 : x.kind = 2
    case pos =>
      have k1 : ¬ x.kind = 1:=by omega
      refine K.kgl ?_;refine WC.loop (fun i : Nat => [(0,.pointer (some ⟨rb,0,none⟩)),(3,.pointer (some ⟨g3,0,none⟩)),(4,.pointer (some ⟨g4,0,none⟩)),(5,.pointer (some ⟨g5,0,none⟩)),(7,.int .i64 (verL (s.rows.take i) (x.table,x.doc))),(8,.int .i64 i)]) (fun i wx => i ≤ s.rows.length ∧ Below w5.heap.size w5 wx) (fun i => s.rows.length - i) 0 ⟨rfl,rfl,rfl,rfl,rfl,rfl,trivial⟩ ⟨Nat.zero_le _,Below.refl _ _⟩ ?_;rintro i wl ⟨hi,bl⟩;have dl:=(bl.cell (p:=⟨rb,1,none⟩) lrb).trans d1
      by_cases hlt : i < s.rows.length
      case pos =>
        obtain ⟨b,o,cap',dc',es,hb,-,hr0,-,hrok,-⟩:=els_at hrl hlt;obtain ⟨rfl,rfl⟩ : spr = some ⟨b,o,none⟩ ∧ cpr = cap':=by simpa using es
        clear es;have hv:=verL_take (k:=(x.table,x.doc)) hlt;have hvr:=rr.vers _ (show s.rows.getD i noR ∈ s.rows by rw [getD_lt hlt];exact List.getElem_mem hlt);have x0:=hr0.tab;have x1:=hr0.doc;have hr0v:=hr0.ver;have x2:=(bl.cell (p:=⟨b,o + i * 14 + 2,none⟩) hb).trans hr0.ver;have hrv:=hrok.ver;have hkey : (s.rows.getD i noR).key = (x.table,x.doc) ↔ (s.rows.getD i noR).tab = x.table ∧ (s.rows.getD i noR).doc = x.doc:=⟨fun q => ⟨congrArg Prod.fst q,congrArg Prod.snd q⟩,fun q => Prod.ext q.1 q.2⟩;generalize s.rows.getD i noR = r at x0 x1 x2 hr0v hv hvr hrv hkey
        by_cases e1 : r.tab = x.table
        case neg =>
          rw [if_neg (fun q => e1 (hkey.1 q).1)] at hv;refine K.kgl ?_;refine WC.drawn 23 (fun wx => Below w5.heap.size w5 wx) fun wa hdr => ?_;have hS : Below w5.heap.size w5 wa:=bl.trans ((hdr.below _).mono bl.size);clear hdr;refine K.fr [0,1,2] hS ?_;refine K.wl 3 [5,6,7,10,11,12,13,14,15,16,17,18,19,20,21,22,23] rfl rfl rfl rfl rfl rfl rfl (fun wx hx => (hx.cell (p:=⟨rb,1,none⟩) lrb).trans d1) hS ?_;refine K.fr [4] hS ?_;refine K.wi 5 i (o + i * 14) rfl rfl rfl rfl rfl rfl rfl rfl rfl hlt rfl (.inr hS) ?_;refine K.fr [6] hS ?_;refine K.wl 7 [10,11,12,13,14,15,16,17,18,19,20,21,22,23] rfl rfl rfl rfl rfl rfl rfl (fun wx hx => (hx.cell (p:=⟨b,o + i * 14,none⟩) hb).trans x0) hS ?_;refine K.fr [8] hS ?_;refine K.wl 9 [10,11,12,13,14,15,16,17,18,19,20,21,22,23] rfl rfl rfl rfl rfl rfl rfl (fun wx hx => (hx.cell (p:=⟨g3,1,none⟩) l3).trans cx) hS ?_;refine K.fr [10,11,12,13,14,15,16,17,18,19,20,21,22] hS ?_;refine K.wo 23 ?_;refine WL.pure rfl rfl rfl rfl ?_;refine K.dl ?_;refine WD.done (by kernel_rfl) ?_;refine K.kgo ?_;exact WQ.again (i + 1) ⟨rfl,rfl,rfl,rfl,congrArg (fun z => some (Value.int .i64 z)) hv.symm,rfl,trivial⟩ ⟨hlt,hS⟩ (by omega)
        case pos =>
        by_cases e2 : r.doc = x.doc
        case neg =>
          rw [if_neg (fun q => e2 (hkey.1 q).2)] at hv;refine K.kgl ?_;refine WC.drawn 23 (fun wx => Below w5.heap.size w5 wx) fun wa hdr => ?_;have hS : Below w5.heap.size w5 wa:=bl.trans ((hdr.below _).mono bl.size);clear hdr;refine K.fr [0,1,2] hS ?_;refine K.wl 3 [5,6,7,10,11,12,13,14,15,16,17,18,19,20,21,22,23] rfl rfl rfl rfl rfl rfl rfl (fun wx hx => (hx.cell (p:=⟨rb,1,none⟩) lrb).trans d1) hS ?_;refine K.fr [4] hS ?_;refine K.wi 5 i (o + i * 14) rfl rfl rfl rfl rfl rfl rfl rfl rfl hlt rfl (.inr hS) ?_;refine K.fr [6] hS ?_;refine K.wl 7 [10,11,12,13,14,15,16,17,18,19,20,21,22,23] rfl rfl rfl rfl rfl rfl rfl (fun wx hx => (hx.cell (p:=⟨b,o + i * 14,none⟩) hb).trans x0) hS ?_;refine K.fr [8] hS ?_;refine K.wl 9 [10,11,12,13,14,15,16,17,18,19,20,21,22,23] rfl rfl rfl rfl rfl rfl rfl (fun wx hx => (hx.cell (p:=⟨g3,1,none⟩) l3).trans cx) hS ?_;refine K.fr [10,11,12,13,14] hS ?_;refine K.wl 15 [17,18,19,22,23] rfl rfl rfl rfl rfl rfl rfl (fun wx hx => (hx.cell (p:=⟨rb,1,none⟩) lrb).trans d1) hS ?_;refine K.fr [16] hS ?_;refine K.wi 17 i (o + i * 14) rfl rfl rfl rfl rfl rfl rfl rfl rfl hlt rfl (.inr hS) ?_;refine K.fr [18] hS ?_;refine K.wl 19 [22,23] rfl rfl rfl rfl rfl rfl rfl (fun wx hx => (hx.cell (p:=⟨b,o + i * 14 + 1,none⟩) hb).trans x1) hS ?_;refine K.fr [20] hS ?_;refine K.wl 21 [22,23] rfl rfl rfl rfl rfl rfl rfl (fun wx hx => (hx.cell (p:=⟨g3,2,none⟩) l3).trans cy) hS ?_;refine K.fr [22] hS ?_;refine K.wo 23 ?_;refine WL.pure rfl rfl rfl rfl ?_;refine K.dl ?_;refine WD.done (by kernel_rfl) ?_;refine K.kgo ?_;exact WQ.again (i + 1) ⟨rfl,rfl,rfl,rfl,congrArg (fun z => some (Value.int .i64 z)) hv.symm,rfl,trivial⟩ ⟨hlt,hS⟩ (by omega)
        case pos =>
          rw [if_pos (hkey.2 ⟨e1,e2⟩)] at hv;refine K.kgl ?_;refine WC.drawn 23 (fun wx => Below w5.heap.size w5 wx) fun wa hdr => ?_;have hS : Below w5.heap.size w5 wa:=bl.trans ((hdr.below _).mono bl.size);clear hdr;refine K.fr [0,1,2] hS ?_;refine K.wl 3 [5,6,7,10,11,12,13,14,15,16,17,18,19,20,21,22,23] rfl rfl rfl rfl rfl rfl rfl (fun wx hx => (hx.cell (p:=⟨rb,1,none⟩) lrb).trans d1) hS ?_;refine K.fr [4] hS ?_;refine K.wi 5 i (o + i * 14) rfl rfl rfl rfl rfl rfl rfl rfl rfl hlt rfl (.inr hS) ?_;refine K.fr [6] hS ?_;refine K.wl 7 [10,11,12,13,14,15,16,17,18,19,20,21,22,23] rfl rfl rfl rfl rfl rfl rfl (fun wx hx => (hx.cell (p:=⟨b,o + i * 14,none⟩) hb).trans x0) hS ?_;refine K.fr [8] hS ?_;refine K.wl 9 [10,11,12,13,14,15,16,17,18,19,20,21,22,23] rfl rfl rfl rfl rfl rfl rfl (fun wx hx => (hx.cell (p:=⟨g3,1,none⟩) l3).trans cx) hS ?_;refine K.fr [10,11,12,13,14] hS ?_;refine K.wl 15 [17,18,19,22,23] rfl rfl rfl rfl rfl rfl rfl (fun wx hx => (hx.cell (p:=⟨rb,1,none⟩) lrb).trans d1) hS ?_;refine K.fr [16] hS ?_;refine K.wi 17 i (o + i * 14) rfl rfl rfl rfl rfl rfl rfl rfl rfl hlt rfl (.inr hS) ?_;refine K.fr [18] hS ?_;refine K.wl 19 [22,23] rfl rfl rfl rfl rfl rfl rfl (fun wx hx => (hx.cell (p:=⟨b,o + i * 14 + 1,none⟩) hb).trans x1) hS ?_;refine K.fr [20] hS ?_;refine K.wl 21 [22,23] rfl rfl rfl rfl rfl rfl rfl (fun wx hx => (hx.cell (p:=⟨g3,2,none⟩) l3).trans cy) hS ?_;refine K.fr [22] hS ?_;refine K.wo 23 ?_;refine WL.pure rfl rfl rfl rfl ?_;refine K.dl ?_;refine WD.done (by kernel_rfl) ?_;have dS:=(hS.cell (p:=⟨rb,1,none⟩) lrb).trans d1;have xS:=(hS.cell (p:=⟨b,o + i * 14 + 2,none⟩) hb).trans hr0v;refine K.kgl ?_;refine WL.idx i (o + i * 14) rfl rfl rfl rfl rfl rfl rfl rfl hlt rfl ?_;refine K.kgl ?_;exact WQ.again (i + 1) ⟨rfl,rfl,rfl,rfl,congrArg (fun z => some (Value.int .i64 z)) hv.symm,rfl,trivial⟩ ⟨hlt,hS⟩ (by omega)
      case neg =>
      obtain rfl : i = s.rows.length:=by omega
      rw [List.take_length];have he : actE s x = { noE with kind:=3,table:=x.table,doc:=x.doc,ver:=verL s.rows (x.table,x.doc) }:=by unfold actE;rw [if_neg k0,if_neg k1,if_pos k2,hve]
      have hp : EnP (IsVo E (f + 1) w) { noE with kind:=3,table:=x.table,doc:=x.doc,ver:=verL s.rows (x.table,x.doc) } (enC { noE with kind:=3,table:=x.table,doc:=x.doc,ver:=verL s.rows (x.table,x.doc) } zCells):=enZ rfl rfl noTs ⟨r0 3 (by omega),hok.table,hok.doc,hvR,r0 0 (by omega),r0 0 (by omega)⟩;obtain ⟨vf,hf⟩:=fin bl hp he;have ckl:=(bl.cell (p:=⟨g3,0,none⟩) l3).trans ck;have cxl:=(bl.cell (p:=⟨g3,1,none⟩) l3).trans cx;have cyl:=(bl.cell (p:=⟨g3,2,none⟩) l3).trans cy;refine K.kgl ?_;refine WL.build (enC { noE with kind:=3,table:=x.table,doc:=x.doc,ver:=verL s.rows (x.table,x.doc) } zCells) rfl rfl rfl rfl rfl (builtE3 _ _ _) ?_;refine WL.storeRow rfl rfl rfl rfl rfl rfl (VBlk.below v4 bl l4s) rfl rfl hp.one ?_;refine K.kgo ?_;exact WQ.retC rfl rfl rfl hp.len vf hf
    case neg =>
    have k1 : x.kind = 1:=by omega
    refine K.kgl ?_;refine WC.loop (fun i : Nat => [(0,.pointer (some ⟨rb,0,none⟩)),(3,.pointer (some ⟨g3,0,none⟩)),(4,.pointer (some ⟨g4,0,none⟩)),(5,.pointer (some ⟨g5,0,none⟩)),(7,.int .i64 (verL (s.rows.take i) (x.table,x.doc))),(8,.int .i64 i)]) (fun i wx => i ≤ s.rows.length ∧ Below w5.heap.size w5 wx) (fun i => s.rows.length - i) 0 ⟨rfl,rfl,rfl,rfl,rfl,rfl,trivial⟩ ⟨Nat.zero_le _,Below.refl _ _⟩ ?_;rintro i wl ⟨hi,bl⟩;have dl:=(bl.cell (p:=⟨rb,1,none⟩) lrb).trans d1
    by_cases hlt : i < s.rows.length
    case pos =>
      obtain ⟨b,o,cap',dc',es,hb,-,hr0,-,hrok,-⟩:=els_at hrl hlt;obtain ⟨rfl,rfl⟩ : spr = some ⟨b,o,none⟩ ∧ cpr = cap':=by simpa using es
      clear es;have hv:=verL_take (k:=(x.table,x.doc)) hlt;have hvr:=rr.vers _ (show s.rows.getD i noR ∈ s.rows by rw [getD_lt hlt];exact List.getElem_mem hlt);have x0:=hr0.tab;have x1:=hr0.doc;have hr0v:=hr0.ver;have x2:=(bl.cell (p:=⟨b,o + i * 14 + 2,none⟩) hb).trans hr0.ver;have hrv:=hrok.ver;have hkey : (s.rows.getD i noR).key = (x.table,x.doc) ↔ (s.rows.getD i noR).tab = x.table ∧ (s.rows.getD i noR).doc = x.doc:=⟨fun q => ⟨congrArg Prod.fst q,congrArg Prod.snd q⟩,fun q => Prod.ext q.1 q.2⟩;generalize s.rows.getD i noR = r at x0 x1 x2 hr0v hv hvr hrv hkey
      by_cases e1 : r.tab = x.table
      case neg =>
        rw [if_neg (fun q => e1 (hkey.1 q).1)] at hv;refine K.kgl ?_;refine WC.drawn 23 (fun wx => Below w5.heap.size w5 wx) fun wa hdr => ?_;have hS : Below w5.heap.size w5 wa:=bl.trans ((hdr.below _).mono bl.size);clear hdr;refine K.fr [0,1,2] hS ?_;refine K.wl 3 [5,6,7,10,11,12,13,14,15,16,17,18,19,20,21,22,23] rfl rfl rfl rfl rfl rfl rfl (fun wx hx => (hx.cell (p:=⟨rb,1,none⟩) lrb).trans d1) hS ?_;refine K.fr [4] hS ?_;refine K.wi 5 i (o + i * 14) rfl rfl rfl rfl rfl rfl rfl rfl rfl hlt rfl (.inr hS) ?_;refine K.fr [6] hS ?_;refine K.wl 7 [10,11,12,13,14,15,16,17,18,19,20,21,22,23] rfl rfl rfl rfl rfl rfl rfl (fun wx hx => (hx.cell (p:=⟨b,o + i * 14,none⟩) hb).trans x0) hS ?_;refine K.fr [8] hS ?_;refine K.wl 9 [10,11,12,13,14,15,16,17,18,19,20,21,22,23] rfl rfl rfl rfl rfl rfl rfl (fun wx hx => (hx.cell (p:=⟨g3,1,none⟩) l3).trans cx) hS ?_;refine K.fr [10,11,12,13,14,15,16,17,18,19,20,21,22] hS ?_;refine K.wo 23 ?_;refine WL.pure rfl rfl rfl rfl ?_;refine K.dl ?_;refine WD.done (by kernel_rfl) ?_;refine K.kgo ?_;exact WQ.again (i + 1) ⟨rfl,rfl,rfl,rfl,congrArg (fun z => some (Value.int .i64 z)) hv.symm,rfl,trivial⟩ ⟨hlt,hS⟩ (by omega)
      case pos =>
      by_cases e2 : r.doc = x.doc
      case neg =>
        rw [if_neg (fun q => e2 (hkey.1 q).2)] at hv;refine K.kgl ?_;refine WC.drawn 23 (fun wx => Below w5.heap.size w5 wx) fun wa hdr => ?_;have hS : Below w5.heap.size w5 wa:=bl.trans ((hdr.below _).mono bl.size);clear hdr;refine K.fr [0,1,2] hS ?_;refine K.wl 3 [5,6,7,10,11,12,13,14,15,16,17,18,19,20,21,22,23] rfl rfl rfl rfl rfl rfl rfl (fun wx hx => (hx.cell (p:=⟨rb,1,none⟩) lrb).trans d1) hS ?_;refine K.fr [4] hS ?_;refine K.wi 5 i (o + i * 14) rfl rfl rfl rfl rfl rfl rfl rfl rfl hlt rfl (.inr hS) ?_;refine K.fr [6] hS ?_;refine K.wl 7 [10,11,12,13,14,15,16,17,18,19,20,21,22,23] rfl rfl rfl rfl rfl rfl rfl (fun wx hx => (hx.cell (p:=⟨b,o + i * 14,none⟩) hb).trans x0) hS ?_;refine K.fr [8] hS ?_;refine K.wl 9 [10,11,12,13,14,15,16,17,18,19,20,21,22,23] rfl rfl rfl rfl rfl rfl rfl (fun wx hx => (hx.cell (p:=⟨g3,1,none⟩) l3).trans cx) hS ?_;refine K.fr [10,11,12,13,14] hS ?_;refine K.wl 15 [17,18,19,22,23] rfl rfl rfl rfl rfl rfl rfl (fun wx hx => (hx.cell (p:=⟨rb,1,none⟩) lrb).trans d1) hS ?_;refine K.fr [16] hS ?_;refine K.wi 17 i (o + i * 14) rfl rfl rfl rfl rfl rfl rfl rfl rfl hlt rfl (.inr hS) ?_;refine K.fr [18] hS ?_;refine K.wl 19 [22,23] rfl rfl rfl rfl rfl rfl rfl (fun wx hx => (hx.cell (p:=⟨b,o + i * 14 + 1,none⟩) hb).trans x1) hS ?_;refine K.fr [20] hS ?_;refine K.wl 21 [22,23] rfl rfl rfl rfl rfl rfl rfl (fun wx hx => (hx.cell (p:=⟨g3,2,none⟩) l3).trans cy) hS ?_;refine K.fr [22] hS ?_;refine K.wo 23 ?_;refine WL.pure rfl rfl rfl rfl ?_;refine K.dl ?_;refine WD.done (by kernel_rfl) ?_;refine K.kgo ?_;exact WQ.again (i + 1) ⟨rfl,rfl,rfl,rfl,congrArg (fun z => some (Value.int .i64 z)) hv.symm,rfl,trivial⟩ ⟨hlt,hS⟩ (by omega)
      case pos =>
        rw [if_pos (hkey.2 ⟨e1,e2⟩)] at hv;refine K.kgl ?_;refine WC.drawn 23 (fun wx => Below w5.heap.size w5 wx) fun wa hdr => ?_;have hS : Below w5.heap.size w5 wa:=bl.trans ((hdr.below _).mono bl.size);clear hdr;refine K.fr [0,1,2] hS ?_;refine K.wl 3 [5,6,7,10,11,12,13,14,15,16,17,18,19,20,21,22,23] rfl rfl rfl rfl rfl rfl rfl (fun wx hx => (hx.cell (p:=⟨rb,1,none⟩) lrb).trans d1) hS ?_;refine K.fr [4] hS ?_;refine K.wi 5 i (o + i * 14) rfl rfl rfl rfl rfl rfl rfl rfl rfl hlt rfl (.inr hS) ?_;refine K.fr [6] hS ?_;refine K.wl 7 [10,11,12,13,14,15,16,17,18,19,20,21,22,23] rfl rfl rfl rfl rfl rfl rfl (fun wx hx => (hx.cell (p:=⟨b,o + i * 14,none⟩) hb).trans x0) hS ?_;refine K.fr [8] hS ?_;refine K.wl 9 [10,11,12,13,14,15,16,17,18,19,20,21,22,23] rfl rfl rfl rfl rfl rfl rfl (fun wx hx => (hx.cell (p:=⟨g3,1,none⟩) l3).trans cx) hS ?_;refine K.fr [10,11,12,13,14] hS ?_;refine K.wl 15 [17,18,19,22,23] rfl rfl rfl rfl rfl rfl rfl (fun wx hx => (hx.cell (p:=⟨rb,1,none⟩) lrb).trans d1) hS ?_;refine K.fr [16] hS ?_;refine K.wi 17 i (o + i * 14) rfl rfl rfl rfl rfl rfl rfl rfl rfl hlt rfl (.inr hS) ?_;refine K.fr [18] hS ?_;refine K.wl 19 [22,23] rfl rfl rfl rfl rfl rfl rfl (fun wx hx => (hx.cell (p:=⟨b,o + i * 14 + 1,none⟩) hb).trans x1) hS ?_;refine K.fr [20] hS ?_;refine K.wl 21 [22,23] rfl rfl rfl rfl rfl rfl rfl (fun wx hx => (hx.cell (p:=⟨g3,2,none⟩) l3).trans cy) hS ?_;refine K.fr [22] hS ?_;refine K.wo 23 ?_;refine WL.pure rfl rfl rfl rfl ?_;refine K.dl ?_;refine WD.done (by kernel_rfl) ?_;have dS:=(hS.cell (p:=⟨rb,1,none⟩) lrb).trans d1;have xS:=(hS.cell (p:=⟨b,o + i * 14 + 2,none⟩) hb).trans hr0v;refine K.kgl ?_;refine WL.idx i (o + i * 14) rfl rfl rfl rfl rfl rfl rfl rfl hlt rfl ?_;refine K.kgl ?_;exact WQ.again (i + 1) ⟨rfl,rfl,rfl,rfl,congrArg (fun z => some (Value.int .i64 z)) hv.symm,rfl,trivial⟩ ⟨hlt,hS⟩ (by omega)
    case neg =>
    obtain rfl : i = s.rows.length:=by omega
    rw [List.take_length];obtain ⟨sp',sq',n1',n2',c1',c2',rfl⟩:=vo_six hdv;have he : actE s x = { noE with kind:=2,table:=x.table,doc:=x.doc,ver:=verL s.rows (x.table,x.doc),data:=x.data,hash:=hashR x.data }:=by unfold actE;rw [if_neg k0,if_pos k1,hve]
    have hp : EnP (IsVo E (f + 1) w) { noE with kind:=2,table:=x.table,doc:=x.doc,ver:=verL s.rows (x.table,x.doc),data:=x.data,hash:=hashR x.data } (enC { noE with kind:=2,table:=x.table,doc:=x.doc,ver:=verL s.rows (x.table,x.doc),data:=x.data,hash:=hashR x.data } [.int .i64 x.data.k,.int .i64 x.data.n,.int .i64 x.data.s,.string x.data.t,.slice sp' n1' c1',.slice sq' n2' c2']):=⟨_,rfl,hdv,rfl,hdv.one,hashR_len _,hashR_byt _,noTs,⟨r0 2 (by omega),hok.table,hok.doc,hvR,r0 0 (by omega),r0 0 (by omega)⟩⟩;obtain ⟨vf,hf⟩:=fin bl hp he;have ckl:=(bl.cell (p:=⟨g3,0,none⟩) l3).trans ck;have cxl:=(bl.cell (p:=⟨g3,1,none⟩) l3).trans cx;have cyl:=(bl.cell (p:=⟨g3,2,none⟩) l3).trans cy;refine K.kgl ?_;refine WL.loadMid rfl rfl rfl rfl rfl rfl (A1.below bl).data rfl ?_;refine K.kgl ?_;refine WL.loadMid rfl rfl rfl rfl rfl rfl (VBlk.rangeAt (VBlk.below v5 bl (VBlk.lt v5))) hhl ?_;refine WL.build (enC { noE with kind:=2,table:=x.table,doc:=x.doc,ver:=verL s.rows (x.table,x.doc),data:=x.data,hash:=hashR x.data } [.int .i64 x.data.k,.int .i64 x.data.n,.int .i64 x.data.s,.string x.data.t,.slice sp' n1' c1',.slice sq' n2' c2']) rfl rfl rfl rfl rfl (builtE2 _ _ _ _ (hashR_len _) _ _ _ _ _ _ _ _ _ _ _) ?_;refine WL.storeRow rfl rfl rfl rfl rfl rfl (VBlk.below v4 bl l4s) hp.len rfl hp.one ?_;refine K.kgo ?_;exact WQ.retC rfl rfl rfl hp.len vf hf
  case neg =>
  obtain ⟨k1,k2⟩ : ¬ x.kind = 1 ∧ ¬ x.kind = 2:=⟨fun q => k12 (.inl q),fun q => k12 (.inr q)⟩
  by_cases k3 : x.kind = 3
  case pos =>
    obtain ⟨R,hR,eR⟩ : ∃ R : Nat,R ≤ 65535 ∧ bits .and .i64 x.pick 65535 = (R : Int):=K.bits_mask x.pick 65535 (by omega);have cpk:=A1.pick;have l3:=VBlk.lt A1.blk
    by_cases hne : s.rows = []
    case pos =>
      have he : actE s x = { noE with kind:=4 }:=by unfold actE;rw [if_neg k0,if_neg k1,if_neg k2,if_pos k3,if_pos hne]
      have hp : EnP (IsVo E (f + 1) w) { noE with kind:=4 } (enC { noE with kind:=4 } zCells):=enZ rfl rfl noTs ⟨r0 4 (by omega),r0 0 (by omega),r0 0 (by omega),r0 0 (by omega),r0 0 (by omega),r0 0 (by omega)⟩;have hl0 : s.rows.length = 0:=by rw [hne];rfl
      obtain ⟨vf,hf⟩:=fin (Below.refl _ w5) hp he;refine K.kgl ?_;refine WL.build (enC { noE with kind:=4 } zCells) rfl rfl rfl rfl rfl builtE40 ?_;refine WL.storeRow rfl rfl rfl rfl rfl rfl v4 rfl rfl hp.one ?_;refine K.kgo ?_;exact WQ.retC rfl rfl rfl hp.len vf hf
    case neg =>
      obtain ⟨q,hq⟩ : ∃ q,s.rows.length = q + 1:=⟨s.rows.length - 1,by have:=List.length_pos_iff.2 hne;omega⟩;have hj : R % (q + 1) < s.rows.length:=by rw [hq];exact Nat.mod_lt _ (by omega)
      have hpick : pickR s x.pick = s.rows.getD (R % (q + 1)) noR:=by unfold pickR;rw [eR,hq];rfl
      have he : actE s x = { noE with kind:=4,ab:=(s.rows.getD (R % (q + 1)) noR).blk,ae:=(s.rows.getD (R % (q + 1)) noR).ent }:=by unfold actE;rw [if_neg k0,if_neg k1,if_neg k2,if_pos k3,if_neg hne,hpick]
      obtain ⟨b,o,cap',dc',es,hb,-,hr0,hrv,hrok,-⟩:=els_at hrl hj;obtain ⟨rfl,rfl⟩ : spr = some ⟨b,o,none⟩ ∧ cpr = cap':=by simpa using es
      clear es;generalize s.rows.getD (R % (q + 1)) noR = r at he hr0 hrv hrok;have hp : EnP (IsVo E (f + 1) w) { noE with kind:=4,ab:=r.blk,ae:=r.ent } (enC { noE with kind:=4,ab:=r.blk,ae:=r.ent } zCells):=enZ rfl rfl noTs ⟨r0 4 (by omega),r0 0 (by omega),r0 0 (by omega),r0 0 (by omega),hrok.blk,hrok.ent⟩;have hral:=hr0.all;refine K.kgl ?_;refine WC.drawn 16 (fun wx => Below w5.heap.size w5 wx) fun wa hdr => ?_;have hS : Below w5.heap.size w5 wa:=hdr.below _;clear hdr;refine K.fr [0,1,2] hS ?_;refine K.wl 3 [13,14,16] rfl rfl rfl rfl rfl rfl rfl (fun wx hx => (hx.cell (p:=⟨rb,1,none⟩) lrb).trans d1) hS ?_;refine K.fr [4] hS ?_;refine K.wl 5 [6,12,13,14,16] rfl rfl rfl rfl rfl rfl rfl (fun wx hx => (hx.cell (p:=⟨g3,3,none⟩) l3).trans cpk) hS ?_;refine WD.freeAs 6 (.int .i64 (R : Int)) rfl (by kernel_rfl) rfl rfl (fun _ _ _ _ _ h => h) rfl rfl (congrArg (Value.int .i64) eR) (.inr hS) ?_;refine K.fr [7,8,9] hS ?_;refine K.wl 10 [11,12,13,14,16] rfl rfl rfl rfl rfl rfl rfl (fun wx hx => (hx.cell (p:=⟨rb,1,none⟩) lrb).trans d1) hS ?_;refine WD.freeAs 11 (.int .i64 ((q + 1 : Nat) : Int)) rfl (by kernel_rfl) rfl rfl (fun _ _ _ _ _ h => h) rfl rfl (by rw [hq]) (.inr hS) ?_;refine WD.freeAs 12 (.int .i64 ((R % (q + 1) : Nat) : Int)) rfl (by kernel_rfl) rfl rfl (fun _ _ _ _ _ h => h) rfl rfl rfl (.inr hS) ?_;refine WD.idx 13 (R % (q + 1)) (o + R % (q + 1) * 14) rfl (by kernel_rfl) rfl rfl (fun _ _ _ _ _ h => h) rfl rfl rfl rfl rfl rfl hj rfl (.inr hS) ?_;refine K.wm 14 [16] rfl rfl rfl rfl rfl rfl rfl (fun wx hx => fun u v hv => (hx.cell (p:=⟨b,o + R % (q + 1) * 14 + u,none⟩) hb).trans (hral u v hv)) (rwC_len hrv.len) hS ?_;refine K.wo 15 ?_;refine WL.alloc (z:=.agg (rwC noR zCells).toArray) rfl rfl rfl rfl (fun _ => by kernel_rfl) fun g9 w6 f6 => ?_;have hS6:=hS.trans (f6.below.mono hS.size);refine K.di hS6 ?_;refine K.wo 16 ?_;refine WL.storeRow rfl rfl rfl rfl rfl rfl f6.blk (rwC_len hrv.len) rfl (rwC_one hrv.one) ?_;obtain ⟨v9,b9,-,-⟩:=rowed (rwC r dc') hS f6;generalize w6.setRow g9 _ = w7 at v9 b9 ⊢;clear f6;refine K.dl ?_;refine WD.done (by kernel_rfl) ?_;have R9:=RwAt.of (VBlk.rangeAt v9) hrv.len;have cb9 : w7.cell? ⟨g9,11,none⟩ = some (.int .i64 r.blk):=R9.blk;have ce9 : w7.cell? ⟨g9,12,none⟩ = some (.int .i64 r.ent):=R9.ent;obtain ⟨vf,hf⟩:=fin b9 hp he;refine K.kgl ?_;refine WL.build [.int .i64 r.blk,.int .i64 r.ent] rfl rfl rfl rfl rfl (builtAd _ _) ?_;refine WL.build (enC { noE with kind:=4,ab:=r.blk,ae:=r.ent } zCells) rfl rfl rfl rfl rfl (builtE4 _ _) ?_;refine WL.storeRow rfl rfl rfl rfl rfl rfl (VBlk.below v4 b9 l4s) rfl rfl hp.one ?_;refine K.kgo ?_;exact WQ.retC rfl rfl rfl hp.len vf hf
  case neg =>
  by_cases k4 : x.kind = 4
  case pos =>
    have he : actE s x = { noE with kind:=5,table:=(s.cat.length : Int) + 1,text:=x.field }:=by unfold actE;rw [if_neg k0,if_neg k1,if_neg k2,if_neg k3,if_pos k4]
    have hp : EnP (IsVo E (f + 1) w) { noE with kind:=5,table:=(s.cat.length : Int) + 1,text:=x.field } (enC { noE with kind:=5,table:=(s.cat.length : Int) + 1,text:=x.field } zCells):=enZ rfl rfl hok.field ⟨r0 5 (by omega),⟨by show _ ≤ (s.cat.length : Int) + 1;omega,by show (s.cat.length : Int) + 1 ≤ _;omega⟩,r0 0 (by omega),r0 0 (by omega),r0 0 (by omega),r0 0 (by omega)⟩;have cf:=A1.field;have l3:=VBlk.lt A1.blk;refine K.kgl ?_;refine WC.drawn 12 (fun wx => Below w5.heap.size w5 wx) fun wa hdr => ?_;have hS : Below w5.heap.size w5 wa:=hdr.below _;clear hdr;refine K.fr [0,1,2] hS ?_;refine K.wl 3 [4,5,6,7,8,11,12] rfl rfl rfl rfl rfl rfl rfl (fun wx hx => (hx.cell (p:=⟨rb,0,none⟩) lrb).trans d0) hS ?_;refine K.fr [4,5] hS ?_;refine K.wl 6 [7,8,11,12] rfl rfl rfl rfl rfl rfl rfl (fun wx hx => (hx.cell (p:=⟨rcp,0,none⟩) lrcp).trans t0) hS ?_;refine K.fr [7,8,9] hS ?_;refine K.wl 10 [11,12] rfl rfl rfl rfl rfl rfl rfl (fun wx hx => (hx.cell (p:=⟨g3,10,none⟩) l3).trans cf) hS ?_;refine Cr.WDbuild (enC { noE with kind:=5,table:=(s.cat.length : Int) + 1,text:=x.field } zCells) 11 rfl (by kernel_rfl) rfl rfl (fun _ _ _ _ _ h => h) rfl rfl rfl (builtE5 _ _) (.inr hS) ?_;refine K.wo 12 ?_;obtain ⟨vf,hf⟩:=fin hS hp he;refine WL.storeRow rfl rfl rfl rfl rfl rfl (VBlk.below v4 hS l4s) rfl rfl hp.one ?_;refine K.dl ?_;refine WD.done (by kernel_rfl) ?_;refine K.kgo ?_;exact WQ.retC rfl rfl rfl hp.len vf hf
  case neg =>
  by_cases k5 : x.kind = 5
  case pos =>
    have he : actE s x = { noE with kind:=6,table:=x.table }:=by unfold actE;rw [if_neg k0,if_neg k1,if_neg k2,if_neg k3,if_neg k4,if_pos k5]
    have hp : EnP (IsVo E (f + 1) w) { noE with kind:=6,table:=x.table } (enC { noE with kind:=6,table:=x.table } zCells):=enZ rfl rfl noTs ⟨r0 6 (by omega),hok.table,r0 0 (by omega),r0 0 (by omega),r0 0 (by omega),r0 0 (by omega)⟩;obtain ⟨vf,hf⟩:=fin (Below.refl _ w5) hp he;refine K.kgl ?_;refine WL.build (enC { noE with kind:=6,table:=x.table } zCells) rfl rfl rfl rfl rfl (builtE6 _) ?_;refine WL.storeRow rfl rfl rfl rfl rfl rfl v4 rfl rfl hp.one ?_;refine K.kgo ?_;exact WQ.retC rfl rfl rfl hp.len vf hf
  case neg =>
  by_cases k6 : x.kind = 6
  case pos =>
    have cf:=A1.field;have he : actE s x = { noE with kind:=7,table:=x.table,text:=x.field }:=by unfold actE;rw [if_neg k0,if_neg k1,if_neg k2,if_neg k3,if_neg k4,if_neg k5,if_pos k6]
    have hp : EnP (IsVo E (f + 1) w) { noE with kind:=7,table:=x.table,text:=x.field } (enC { noE with kind:=7,table:=x.table,text:=x.field } zCells):=enZ rfl rfl hok.field ⟨r0 7 (by omega),hok.table,r0 0 (by omega),r0 0 (by omega),r0 0 (by omega),r0 0 (by omega)⟩;obtain ⟨vf,hf⟩:=fin (Below.refl _ w5) hp he;refine K.kgl ?_;refine WL.build (enC { noE with kind:=7,table:=x.table,text:=x.field } zCells) rfl rfl rfl rfl rfl (builtE7 _ _) ?_;refine WL.storeRow rfl rfl rfl rfl rfl rfl v4 rfl rfl hp.one ?_;refine K.kgo ?_;exact WQ.retC rfl rfl rfl hp.len vf hf
  case neg =>
    have he : actE s x = x.e:=by unfold actE;rw [if_neg k0,if_neg k1,if_neg k2,if_neg k3,if_neg k4,if_neg k5,if_neg k6]
    obtain ⟨vf,hf⟩:=fin (Below.refl _ w5) hep he;refine K.kgl ?_;refine WL.loadMid rfl rfl rfl rfl rfl rfl A1.e hel ?_;refine WL.storeRow rfl rfl rfl rfl rfl rfl v4 hel rfl hep.one ?_;refine K.kgo ?_;exact WQ.retC rfl rfl rfl hel vf hf
end Vw
open Go.ChangeShapes Go.WideShapes Go.ChangeAt
namespace K
section
variable {H : Type} {P : Program}
def WOk (P : Program) (t : TypeId) (d : DataW H) : Prop:=∀ n ∈ d.weights P t,n ≤ reachBytes
theorem weightsAll_mem {e : TypeId} : ∀ {ds : List (DataW H)} {d : DataW H} {n : Nat},d ∈ ds → n ∈ d.weights P e → n ∈ DataW.weightsAll P e ds
  | d0 :: ds,d,n,hd,hn => by
    rw [DataW.weightsAll,List.mem_append];rcases List.mem_cons.1 hd with rfl | hd
    · exact .inl hn
    · exact .inr (weightsAll_mem hd hn)
theorem WOk.slice {t e : TypeId} {elems spare : List (DataW H)} (hu : P.underlying t = some (.slice e)) (h : WOk P t (.slice elems spare)) : (elems.length + spare.length) * P.bytesOf e ≤ reachBytes ∧ ∀ d ∈ elems,WOk P e d:=by
  unfold WOk at h;rw [DataW.weights,hu] at h;simp only [List.mem_cons,List.mem_append] at h;exact ⟨h _ (.inl rfl),fun d hd n hn => h n (.inr (.inl (weightsAll_mem hd hn)))⟩
theorem WOk.agg {t : TypeId} {fs : Array Field} {parts : List (DataW H)} (hu : P.underlying t = some (.struct fs)) (h : WOk P t (.agg parts)) {i : Nat} {f : Field} {d : DataW H} (hf : fs[i]? = some f) (hd : parts[i]? = some d) : WOk P f.type d:=by
  unfold WOk at h;rw [DataW.weights,hu] at h;exact fun n hn => h n (DataW.weights_mem_each (j:=i) (by simp [hf]) hd n hn)
theorem WOk.string {t : TypeId} {l : List UInt8} (h : WOk P t (.lit (.string l) : DataW H)) : l.length ≤ reachBytes:=h _ (by simp [DataW.weights])
end
section
variable {H : Type} {enc : TypeId × Value → H} {W : World} {base : Nat} {held : Bool}
theorem reach_le {n : Nat} (h : n ≤ reachBytes) : n ≤ 140737488355328:=Nat.le_trans h (by decide)
theorem open_sl2 {t e : TypeId} {fuel : Nat} {v : Value} {x : DataW H × List MemPlace} (m : Nat) (hm0 : 0 < m) (hu : Tryz.prog.underlying t = some (.slice e)) (hce : Tryz.prog.cellsOf e = m) (h : DataW.trod enc Tryz.prog W base (fun _ => true) held fuel t [v] = some x) :
    ∃ sp len cap,v = .slice sp len cap ∧ len ≤ cap ∧ cap ≤ 9223372036854775807 ∧ ∃ n elems rest,n < fuel ∧ (x.1 = .slice (elems.map (·.1)) rest ∨ (x.1 = .nil ∧ elems = [])) ∧ elems.length = len ∧
      ∀ i,i < len → ∃ (b o : Nat) (cs : List Value) (y : DataW H × List MemPlace),sp = some ⟨b,o,none⟩ ∧ b < W.heap.size ∧ cs.length = m ∧ W.rangeAt b (o + i * m) cs ∧ elems[i]? = some y ∧ DataW.trod enc Tryz.prog W base (fun _ => true) held n e cs = some y:=by
  rcases DataW.trod_slice hu h with ⟨hcs,rfl⟩ | ⟨a,len,cap,elems,rest,n,rfl,hcs,rfl,hb,hl,hcap,hlen,hel,-,-⟩
  · obtain rfl : v = .slice none 0 0:=by simpa using hcs
    cases fuel with
    | zero => simp [DataW.trod] at h
    | succ f => exact ⟨none,0,0,rfl,Nat.le_refl _,by omega,f,[],[],by omega,.inr ⟨rfl,rfl⟩,rfl,fun i hi => absurd hi (by omega)⟩
  · obtain rfl : v = .slice (some a) len cap:=by simpa using hcs
    refine ⟨some a,len,cap,rfl,hl,by unfold maxLen at hcap;exact hcap,n,elems,rest.map (·.1),by omega,.inl rfl,hlen,fun i hi => ?_⟩;have h1:=hel i hi;rw [hce] at h1;obtain ⟨y,hy⟩ : ∃ y,elems[i]? = some y:=⟨elems[i],List.getElem?_eq_getElem (by omega)⟩;rw [hy] at h1;obtain ⟨cs,hc1,hc2⟩:=Option.bind_eq_some_iff.1 h1;obtain ⟨-,hcl,hat⟩:=World.cells?_some hc1;have h00:=hel 0 (by omega);rw [hce] at h00;obtain ⟨y0,hy0⟩ : ∃ y,elems[0]? = some y:=⟨elems[0],List.getElem?_eq_getElem (by omega)⟩;rw [hy0] at h00;obtain ⟨cs0,hc01,-⟩:=Option.bind_eq_some_iff.1 h00;obtain ⟨-,hcl0,hat0⟩:=World.cells?_some hc01;have hx0:=hat0 0 hm0;have e0 : (a.add (0 * m)).add 0 = a:=by rw [Nat.zero_mul];rfl
    rw [e0,List.getElem?_eq_getElem (by omega)] at hx0;have hsp:=cell_spot hx0;obtain ⟨b,o,s⟩:=a;simp only at hsp;subst hsp;refine ⟨b,o,cs,y,rfl,block_lt_of_cell hx0,hcl,fun j u hj => ?_,hy,hc2⟩;have hjl : j < m:=by
      rcases Nat.lt_or_ge j m with h | h
      · exact h
      · rw [List.getElem?_eq_none (by omega)] at hj;cases hj
    have:=hat j hjl;rw [addr_add,addr_add] at this;rw [this];exact hj
theorem Six.mono {P P' : V → List Value → Prop} {w : World} {v : Value} {l : List V} (h : Six P w v l) (hP : ∀ x cs,P x cs → P' x cs) : Six P' w v l:=by
  obtain ⟨sp,cap,h1,h2,h3,h4⟩:=h;refine ⟨sp,cap,h1,h2,h3,fun h0 => ?_⟩;obtain ⟨b,o,e,hlt,hr⟩:=h4 h0;refine ⟨b,o,e,hlt,fun j hj => ?_⟩;obtain ⟨cs,hc,hp,hat⟩:=hr j hj;exact ⟨cs,hc,hP _ _ hp,hat⟩
theorem IsV.mono {w : World} : ∀ {f f' : Nat} {v : V} {cs : List Value},f ≤ f' → IsV f w v cs → IsV f' w v cs
  | 0,_,_,_,_,h => h.elim
  | f + 1,f',v,cs,hf,h => by
    obtain ⟨g,rfl⟩ : ∃ g,f' = g + 1:=⟨f' - 1,by omega⟩;obtain ⟨sn,sk,h1,h2,h3,h4,h5,h6,h7⟩:=h;exact ⟨sn,sk,h1,h2,h3,h4,h5,h6,Six.mono h7 fun _ _ hp => IsV.mono (by omega) hp⟩
theorem Sml.mono : ∀ {f f' : Nat} {v : V},f ≤ f' → Sml f v → Sml f' v
  | 0,_,_,_,h => h.elim
  | f + 1,f',v,hf,h => by
    obtain ⟨g,rfl⟩ : ∃ g,f' = g + 1:=⟨f' - 1,by omega⟩;exact ⟨h.1,h.2.1,fun x hx => Sml.mono (by omega) (h.2.2 x hx)⟩
theorem cellsV : Tryz.prog.cellsOf 48 = 6:=by kernel_rfl
theorem cellsI : Tryz.prog.cellsOf 3 = 1:=by kernel_rfl
theorem cellsS : Tryz.prog.cellsOf 9 = 1:=by kernel_rfl
theorem bytesS : Tryz.prog.bytesOf 9 = 16:=by kernel_rfl
theorem bytesV : Tryz.prog.bytesOf 48 = 88:=by kernel_rfl
theorem open_strs2 {fuel : Nat} {v : Value} {x : DataW H × List MemPlace} (h : DataW.trod enc Tryz.prog W base (fun _ => true) held fuel 45 [v] = some x) (hz : WOk Tryz.prog 45 x.1) :
    ∃ l,Strs W v l ∧ l.length ≤ 140737488355328:=by
  obtain ⟨sp,len,cap,rfl,hl,hc,n,elems,rest,-,hx,hlen,hel⟩:=open_sl2 1 (by omega) Tryz.underlying45 cellsS h;have key : ∀ i,i < len → ∃ (s : ByteArray),s.size ≤ 140737488355328 ∧ ∃ b o,sp = some ⟨b,o,none⟩ ∧ b < W.heap.size ∧ W.cell? ⟨b,o + i,none⟩ = some (.string s):=by
    intro i hi;obtain ⟨b,o,cs,y,hsp,hb,hcl,hat,hy,ht⟩:=hel i hi;obtain ⟨s,rfl,rfl,-⟩:=DataW.trod_string Tryz.underlying9 ht;have hw : WOk Tryz.prog 9 (.lit (.string s.data.toList) : DataW H):=by
      rcases hx with hx | ⟨-,rfl⟩
      · rw [hx] at hz
        exact (hz.slice Tryz.underlying45).2 _ (List.mem_map.2 ⟨_,List.mem_of_getElem? hy,rfl⟩)
      · cases hy
    have:=hw.string;rw [Array.length_toList] at this;refine ⟨s,reach_le this,b,o,hsp,hb,?_⟩;have:=hat 0 _ rfl;rw [Nat.mul_one] at this;exact this
  have : Inhabited ByteArray:=⟨noT⟩;obtain ⟨g,hg⟩:=Deep.choose_lt key;have hget : ∀ k,k < len → ((List.range len).map g).getD k noT = g k:=fun k hk => by simp [hk]
  have hll : ((List.range len).map g).length = len:=by simp
  refine ⟨(List.range len).map g,⟨sp,cap,by rw [hll],by rw [hll];exact hl,hc,fun j hj => ?_,fun h0 => ?_⟩,?_⟩
  · rw [hll] at hj;rw [hget j hj];exact (hg j hj).1
  · rw [hll] at h0
    obtain ⟨-,b,o,hsp,hb,-⟩:=hg 0 h0;refine ⟨b,o,hsp,hb,fun j hj => ?_⟩;rw [hll] at hj;obtain ⟨-,b2,o2,hsp2,-,hcell⟩:=hg j hj;rw [hsp] at hsp2;cases hsp2
    rw [hget j hj];exact hcell
  · rw [hll]
    rcases hx with hx | ⟨-,rfl⟩
    · rw [hx] at hz
      have:=(hz.slice Tryz.underlying45).1;rw [bytesS,List.length_map,hlen] at this;exact reach_le (by omega)
    · simp at hlen;omega
theorem open_vals2 : ∀ (fuel : Nat),(∀ n,n < fuel → ∀ {cs : List Value} {x : DataW H × List MemPlace},DataW.trod enc Tryz.prog W base (fun _ => true) held n 48 cs = some x → WOk Tryz.prog 48 x.1 → ∃ v,IsV n W v cs ∧ Sml n v) →
    ∀ {v : Value} {x : DataW H × List MemPlace},DataW.trod enc Tryz.prog W base (fun _ => true) held fuel 46 [v] = some x → WOk Tryz.prog 46 x.1 → ∃ l n,n < fuel ∧ IsVs n W v l ∧ (∀ y ∈ l,Sml n y) ∧ l.length ≤ 140737488355328:=by
  intro fuel ih v x h hz;obtain ⟨sp,len,cap,rfl,hl,hc,n,elems,rest,hn,hx,hlen,hel⟩:=open_sl2 6 (by omega) Tryz.underlying46 cellsV h;have key : ∀ i,i < len → ∃ (y : V),Sml n y ∧ ∃ b o cs,sp = some ⟨b,o,none⟩ ∧ b < W.heap.size ∧ cs.length = 6 ∧ IsV n W y cs ∧ W.rangeAt b (o + i * 6) cs:=by
    intro i hi;obtain ⟨b,o,cs,y,hsp,hb,hcl,hat,hy,ht⟩:=hel i hi;have hw : WOk Tryz.prog 48 y.1:=by
      rcases hx with hx | ⟨-,rfl⟩
      · rw [hx] at hz
        exact (hz.slice Tryz.underlying46).2 _ (List.mem_map.2 ⟨_,List.mem_of_getElem? hy,rfl⟩)
      · cases hy
    obtain ⟨v,hv,hs⟩:=ih n hn ht hw;exact ⟨v,hs,b,o,cs,hsp,hb,hcl,hv,hat⟩
  have : Inhabited V:=⟨noV⟩;obtain ⟨g,hg⟩:=Deep.choose_lt key;have hget : ∀ k,k < len → ((List.range len).map g).getD k noV = g k:=fun k hk => by simp [hk]
  have hll : ((List.range len).map g).length = len:=by simp
  refine ⟨(List.range len).map g,n,hn,⟨sp,cap,by rw [hll],by rw [hll];exact hl,hc,fun h0 => ?_⟩,fun y hy => ?_,?_⟩
  · rw [hll] at h0
    obtain ⟨-,b,o,-,hsp,hb,-⟩:=hg 0 h0;refine ⟨b,o,hsp,hb,fun j hj => ?_⟩;rw [hll] at hj;obtain ⟨-,b2,o2,cs,hsp2,-,hcl,hv,hat⟩:=hg j hj;rw [hsp] at hsp2;cases hsp2
    rw [hget j hj];exact ⟨cs,hcl,hv,hat⟩
  · obtain ⟨i,hi,rfl⟩:=List.mem_map.1 hy
    exact (hg i (List.mem_range.1 hi)).1
  · rw [hll]
    rcases hx with hx | ⟨-,rfl⟩
    · rw [hx] at hz
      have:=(hz.slice Tryz.underlying46).1;rw [bytesV,List.length_map,hlen] at this;exact reach_le (by omega)
    · simp at hlen;omega
theorem take1 {l : List Value} {o : Nat} {v : Value} (h : (l.drop o).take 1 = [v]) : l[o]? = some v:=by
  have : ((l.drop o).take 1)[0]? = some v:=by rw [h];rfl
  simpa [List.getElem?_take] using this
set_option maxRecDepth 100000 in
set_option maxHeartbeats 1000000 in
theorem open_val : ∀ (fuel : Nat) {cs : List Value} {x : DataW H × List MemPlace},DataW.trod enc Tryz.prog W base (fun _ => true) held fuel 48 cs = some x → WOk Tryz.prog 48 x.1 → ∃ v,IsV fuel W v cs ∧ Sml fuel v:=by
  intro fuel
  induction fuel using Nat.strongRecOn with
  | _ fuel ih =>
    intro cs x h hz;obtain ⟨xs,n,rfl,rfl,hl,hxl,hx⟩:=DataW.trod_struct Tryz.underlying48 h;have hxl' : xs.length = 6:=hxl;rw [cellsV] at hl;have e : ∀ i,i < 6 → ∃ y,xs[i]? = some y:=fun i hi => ⟨xs[i],List.getElem?_eq_getElem (by omega)⟩;obtain ⟨x0,e0⟩:=e 0 (by omega);obtain ⟨x1,e1⟩:=e 1 (by omega);obtain ⟨x2,e2⟩:=e 2 (by omega);obtain ⟨x3,e3⟩:=e 3 (by omega);obtain ⟨x4,e4⟩:=e 4 (by omega);obtain ⟨x5,e5⟩:=e 5 (by omega);have h0:=hx 0 _ rfl;have h1:=hx 1 _ rfl;have h2:=hx 2 _ rfl;have h3:=hx 3 _ rfl;have h4:=hx 4 _ rfl;have h5:=hx 5 _ rfl;rw [e0] at h0;rw [e1] at h1;rw [e2] at h2;rw [e3] at h3;rw [e4] at h4;rw [e5] at h5;have z : ∀ {i : Nat} {f : Field} {y : DataW H × List MemPlace},_ → xs[i]? = some y → WOk Tryz.prog f.type y.1:=fun {i f y} hf hy => WOk.agg Tryz.underlying48 hz (i:=i) (f:=f) hf (by rw [List.getElem?_map,hy];rfl);have z3 : WOk Tryz.prog 9 x3.1:=z (i:=3) rfl e3;have z4 : WOk Tryz.prog 45 x4.1:=z (i:=4) rfl e4;have z5 : WOk Tryz.prog 46 x5.1:=z (i:=5) rfl e5;obtain ⟨a,ha,-,wa⟩:=DataW.trod_int Tryz.underlying3 h0;obtain ⟨b,hb,-,wb⟩:=DataW.trod_int Tryz.underlying3 h1;obtain ⟨c,hc,-,wc⟩:=DataW.trod_int Tryz.underlying3 h2;obtain ⟨s,hs,hs2,-⟩:=DataW.trod_string Tryz.underlying9 h3;have t0 : cs[0]? = some (.int .i64 a):=take1 (by rw [← cellsI];exact ha);have t1 : cs[1]? = some (.int .i64 b):=take1 (by rw [← cellsI];exact hb);have t2 : cs[2]? = some (.int .i64 c):=take1 (by rw [← cellsI];exact hc);have t3 : cs[3]? = some (.string s):=take1 (by rw [← cellsS];exact hs)
    match cs,hl with
    | [c0,c1,c2,c3,c4,c5],_ =>
      simp at t0 t1 t2 t3
      subst t0;subst t1;subst t2;subst t3;have h4' : DataW.trod enc Tryz.prog W base (fun _ => true) held n 45 [c4] = some x4:=h4;have h5' : DataW.trod enc Tryz.prog W base (fun _ => true) held n 46 [c5] = some x5:=h5;obtain ⟨names,hnm,hnl⟩:=open_strs2 h4' z4;obtain ⟨kids,k,hk,hkd,hks,hkl⟩:=open_vals2 n (fun q hq {cs x} h1 h2 => ih q (by omega) h1 h2) h5' z5;rw [hs2] at z3;have hsz:=z3.string;rw [Array.length_toList] at hsz;refine ⟨.mk a b c s names kids,⟨c4,c5,rfl,wa,wb,wc,reach_le hsz,hnm,Six.mono hkd fun _ _ hp => IsV.mono (by omega) hp⟩,hnl,hkl,fun y hy => Sml.mono (by omega) (hks y hy)⟩
set_option maxRecDepth 100000
end
end K
namespace K
section
variable {H : Type} {enc : TypeId × Value → H} {W : World} {base : Nat} {held : Bool}
theorem open_hash {fuel : Nat} {cs : List Value} {x : DataW H × List MemPlace} (h : DataW.trod enc Tryz.prog W base (fun _ => true) held fuel 30 cs = some x) (hl : cs.length = 32) :
    ∃ l : List Int,cs = hashC l ∧ l.length = 32 ∧ Byt l:=by
  obtain ⟨xs,m,-,-,-,hxl,hx⟩:=DataW.trod_array Tryz.underlying30 h;have he : Tryz.prog.cellsOf 5 = 1:=by kernel_rfl
  have hel : ∀ i,i < 32 → ∃ q : Int,cs[i]? = some (.int .u8 q) ∧ 0 ≤ q ∧ q ≤ 255:=by
    intro i hi;have h1:=hx i hi;rw [he,Nat.mul_one,List.getElem?_eq_getElem (by omega)] at h1;obtain ⟨q,e1,-,e2⟩:=DataW.trod_int Tryz.underlying5 h1;refine ⟨q,take1 e1,?_⟩;simp [Lit.wf,IntKind.min,IntKind.max,IntKind.bits,IntKind.signed] at e2
    omega
  have : Inhabited Int:=⟨0⟩;obtain ⟨g,hg⟩:=Deep.choose_lt hel;refine ⟨(List.range 32).map g,?_,by simp,fun c hc => ?_⟩
  · refine List.ext_getElem? fun i => ?_
    by_cases hi : i < 32
    · rw [(hg i hi).1];simp [hi]
    · rw [List.getElem?_eq_none (by omega),List.getElem?_eq_none (by simp;omega)]
  · obtain ⟨i,hi,rfl⟩:=List.mem_map.1 hc
    exact (hg i (List.mem_range.1 hi)).2
theorem cut5 {α : Type} (cs : List α) : cs = cs.take 5 ++ ((cs.drop 5).take 6 ++ ((cs.drop 11).take 32 ++ cs.drop 43)):=by
  have h1 : cs.drop 43 = (cs.drop 11).drop 32:=by rw [List.drop_drop]
  have h2 : cs.drop 11 = (cs.drop 5).drop 6:=by rw [List.drop_drop]
  rw [h1,List.take_append_drop,h2,List.take_append_drop,List.take_append_drop]
theorem r64_of_wf {x : Int} (h : (Lit.int .i64 x).wf = true) : R64 x:=by
  simp [Lit.wf,IntKind.min,IntKind.max,IntKind.bits,IntKind.signed] at h;omega
set_option maxRecDepth 100000 in
set_option maxHeartbeats 2000000 in
theorem open_en {fuel : Nat} {cs : List Value} {x : DataW H × List MemPlace} (h : DataW.trod enc Tryz.prog W base (fun _ => true) held fuel 52 cs = some x) (hz : WOk Tryz.prog 52 x.1) :
    ∃ e,IsE fuel W e cs ∧ Sml fuel e.data:=by
  obtain ⟨xs,n,rfl,rfl,hl,hxl,hx⟩:=DataW.trod_struct Tryz.underlying52 h;have hxl' : xs.length = 9:=hxl;have hcl : cs.length = 46:=hl.trans (by kernel_rfl);have e : ∀ i,i < 9 → ∃ y,xs[i]? = some y:=fun i hi => ⟨xs[i],List.getElem?_eq_getElem (by omega)⟩;obtain ⟨x0,e0⟩:=e 0 (by omega);obtain ⟨x1,e1⟩:=e 1 (by omega);obtain ⟨x2,e2⟩:=e 2 (by omega);obtain ⟨x3,e3⟩:=e 3 (by omega);obtain ⟨x4,e4⟩:=e 4 (by omega);obtain ⟨x5,e5⟩:=e 5 (by omega);obtain ⟨x6,e6⟩:=e 6 (by omega);obtain ⟨x7,e7⟩:=e 7 (by omega);obtain ⟨x8,e8⟩:=e 8 (by omega);have h0:=hx 0 _ rfl;have h1:=hx 1 _ rfl;have h2:=hx 2 _ rfl;have h3:=hx 3 _ rfl;have h4:=hx 4 _ rfl;have h5:=hx 5 _ rfl;have h6:=hx 6 _ rfl;have h7:=hx 7 _ rfl;have h8:=hx 8 _ rfl;rw [e0] at h0;rw [e1] at h1;rw [e2] at h2;rw [e3] at h3;rw [e4] at h4;rw [e5] at h5;rw [e6] at h6;rw [e7] at h7;rw [e8] at h8;have z : ∀ {i : Nat} {f : Field} {y : DataW H × List MemPlace},_ → xs[i]? = some y → WOk Tryz.prog f.type y.1:=fun {i f y} hf hy => WOk.agg Tryz.underlying52 hz (i:=i) (f:=f) hf (by rw [List.getElem?_map,hy];rfl);have z1 : WOk Tryz.prog 9 x1.1:=z (i:=1) rfl e1;have z5 : WOk Tryz.prog 48 x5.1:=z (i:=5) rfl e5;obtain ⟨a,ha,-,wa⟩:=DataW.trod_int Tryz.underlying3 h0;obtain ⟨s,hs,hs2,-⟩:=DataW.trod_string Tryz.underlying9 h1;obtain ⟨b,hb,-,wb⟩:=DataW.trod_int Tryz.underlying3 h2;obtain ⟨c,hc,-,wc⟩:=DataW.trod_int Tryz.underlying3 h3;obtain ⟨d,hd,-,wd⟩:=DataW.trod_int Tryz.underlying3 h4;have h5' : DataW.trod enc Tryz.prog W base (fun _ => true) held n 48 ((cs.drop 5).take (Tryz.prog.cellsOf 48)) = some x5:=h5;rw [cellsV] at h5';obtain ⟨v,hv,hvs⟩:=open_val n h5' z5;have h6' : DataW.trod enc Tryz.prog W base (fun _ => true) held n 30 ((cs.drop 11).take (Tryz.prog.cellsOf 30)) = some x6:=h6;rw [show Tryz.prog.cellsOf 30 = 32 by kernel_rfl] at h6';obtain ⟨hh,hhe,hhl,hhb⟩:=open_hash h6' (by simp [hcl]);obtain ⟨g,hg,-⟩:=DataW.trod_bool Tryz.underlying4 h7;have h8' : DataW.trod enc Tryz.prog W base (fun _ => true) held n 50 ((cs.drop 44).take (Tryz.prog.cellsOf 50)) = some x8:=h8;rw [show Tryz.prog.cellsOf 50 = 2 by kernel_rfl] at h8';obtain ⟨ys,n8,-,-,hl8,hyl,hy⟩:=DataW.trod_struct Tryz.underlying50 h8';have hyl' : ys.length = 2:=hyl;obtain ⟨y0,f0⟩ : ∃ y,ys[0]? = some y:=⟨ys[0],List.getElem?_eq_getElem (by omega)⟩;obtain ⟨y1,f1⟩ : ∃ y,ys[1]? = some y:=⟨ys[1],List.getElem?_eq_getElem (by omega)⟩;have k0:=hy 0 _ rfl;have k1:=hy 1 _ rfl;rw [f0] at k0;rw [f1] at k1;obtain ⟨ab,hab,-,wab⟩:=DataW.trod_int Tryz.underlying3 k0;obtain ⟨ae,hae,-,wae⟩:=DataW.trod_int Tryz.underlying3 k1;have t0 : cs[0]? = some (.int .i64 a):=take1 (by rw [← cellsI];exact ha);have t1 : cs[1]? = some (.string s):=take1 (by rw [← cellsS];exact hs);have t2 : cs[2]? = some (.int .i64 b):=take1 (by rw [← cellsI];exact hb);have t3 : cs[3]? = some (.int .i64 c):=take1 (by rw [← cellsI];exact hc);have t4 : cs[4]? = some (.int .i64 d):=take1 (by rw [← cellsI];exact hd);have t43 : cs[43]? = some (.bool g):=take1 (by rw [← show Tryz.prog.cellsOf 4 = 1 by kernel_rfl];exact hg);have t44 : ((cs.drop 44).take 2)[0]? = some (.int .i64 ab):=take1 (by rw [← cellsI];exact hab);have t45 : ((cs.drop 44).take 2)[1]? = some (.int .i64 ae):=take1 (by rw [← cellsI];exact hae);have t44' : cs[44]? = some (.int .i64 ab):=by simpa using t44
  have t45' : cs[45]? = some (.int .i64 ae):=by simpa using t45
  have hsz : s.size ≤ 140737488355328:=by
    rw [hs2] at z1;have:=z1.string;rw [Array.length_toList] at this;exact reach_le this
  have hhead : cs.take 5 = [.int .i64 a,.string s,.int .i64 b,.int .i64 c,.int .i64 d]:=by
    refine List.ext_getElem? fun i => ?_
    match i with
    | 0 => simpa using t0
    | 1 => simpa using t1
    | 2 => simpa using t2
    | 3 => simpa using t3
    | 4 => simpa using t4
    | i + 5 => rw [List.getElem?_eq_none (by simp;omega),List.getElem?_eq_none (by simp)]
  have htail : cs.drop 43 = [.bool g,.int .i64 ab,.int .i64 ae]:=by
    refine List.ext_getElem? fun i => ?_
    match i with
    | 0 => simpa using t43
    | 1 => simpa using t44'
    | 2 => simpa using t45'
    | i + 3 => rw [List.getElem?_eq_none (by simp;omega),List.getElem?_eq_none (by simp)]
  refine ⟨⟨a,s,b,c,d,v,hh,g,ab,ae⟩,⟨(cs.drop 5).take 6,?_,IsV.mono (by omega) hv,by simp [hcl],IsV.one hv,hhl,hhb,hsz,r64_of_wf wa,r64_of_wf wb,r64_of_wf wc,r64_of_wf wd,r64_of_wf wab,r64_of_wf wae⟩,Sml.mono (by omega) hvs⟩;have:=cut5 cs;rw [hhead,htail,hhe] at this;exact this.trans rfl
theorem cellsE : Tryz.prog.cellsOf 52 = 46:=by kernel_rfl
set_option maxRecDepth 100000
end
end K
namespace Vw
open K
set_option maxRecDepth 100000
theorem Els.P {α : Type} {m : Nat} {z : α} {P P' : α → List Value → Prop} {O : Nat → Prop} {w : World} {v : Value} {l : List α} (h : Els m z P O w v l) (hP : ∀ x cs,P x cs → P' x cs) : Els m z P' O w v l:=Els.mono h (fun _ h => h) hP
theorem IsVo.more {O : Nat → Prop} {w : World} : ∀ {f f' : Nat} {v : V} {cs : List Value},f ≤ f' → IsVo O f w v cs → IsVo O f' w v cs
  | 0,_,_,_,_,h => h.elim
  | f + 1,f',v,cs,hf,h => by
    obtain ⟨g,rfl⟩ : ∃ g,f' = g + 1:=⟨f' - 1,by omega⟩;obtain ⟨sn,sk,h1,h2,h3,h4,h5,h6,h7⟩:=h;exact ⟨sn,sk,h1,h2,h3,h4,h5,h6,Els.P h7 fun _ _ hp => IsVo.more (by omega) hp⟩
def noAc : Ac:=⟨0,0,0,0,zV,noT,noE⟩
def AcS (E : Nat → Prop) (f : Nat) (w : World) (x : Ac) (cs : List Value) : Prop:=AcP E f w x cs ∧ Sml f x.data ∧ Sml f x.e.data
theorem AcP.more {E : Nat → Prop} {f f' : Nat} {w : World} {x : Ac} {cs : List Value} (hf : f ≤ f') (h : AcP E f w x cs) : AcP E f' w x cs:=by
  obtain ⟨dc,ec,h1,h2,h3,h4⟩:=h;exact ⟨dc,ec,h1,IsVo.more hf h2,EnP.mono (fun _ _ h => IsVo.more hf h) h3,h4⟩
theorem AcS.more {E : Nat → Prop} {f f' : Nat} {w : World} {x : Ac} {cs : List Value} (hf : f ≤ f') (h : AcS E f w x cs) : AcS E f' w x cs:=⟨h.1.more hf,Sml.mono hf h.2.1,Sml.mono hf h.2.2⟩
theorem AcP.keep {E E' : Nat → Prop} {f : Nat} {w w' : World} {x : Ac} {cs : List Value} (h : AcP E f w x cs) {K : Nat → Prop} (hk : Keep K w w') (hK : ∀ b,E b → b < w.heap.size → K b) (hE : ∀ b,E b → E' b) : AcP E' f w' x cs:=by
  obtain ⟨dc,ec,h1,h2,h3,h4⟩:=h;exact ⟨dc,ec,h1,h2.keep hk hK hE,EnP.mono (fun _ _ h => h.keep hk hK hE) h3,h4⟩
theorem AcS.keep {E E' : Nat → Prop} {f : Nat} {w w' : World} {x : Ac} {cs : List Value} (h : AcS E f w x cs) {K : Nat → Prop} (hk : Keep K w w') (hK : ∀ b,E b → b < w.heap.size → K b) (hE : ∀ b,E b → E' b) : AcS E' f w' x cs:=⟨h.1.keep hk hK hE,h.2⟩
def IsActs (E : Nat → Prop) (f : Nat) (w : World) (v : Value) (L : List Ac) : Prop:=Els 57 noAc (AcS E f w) E w v L
theorem IsActs.keep {E E' : Nat → Prop} {f : Nat} {w w' : World} {v : Value} {L : List Ac} (h : IsActs E f w v L) {K : Nat → Prop} (hk : Keep K w w') (hK : ∀ b,E b → b < w.heap.size → K b) (hE : ∀ b,E b → E' b) : IsActs E' f w' v L:=Go.Proofs.YtchgjaaadfjiiaaGreat.K.Els.keep h hk hK hE fun _ _ hp => hp.keep hk hK hE
theorem IsActs.below {E : Nat → Prop} {f : Nat} {w w' : World} {v : Value} {L : List Ac} (h : IsActs E f w v L) (hb : Below w.heap.size w w') : IsActs E f w' v L:=h.keep (Keep.of_below hb) (fun _ _ hl => hl) fun _ h => h
def RowA (E : Nat → Prop) (f : Nat) (w : World) (L : List Ac) (cs : List Value) : Prop:=∃ v,cs = [v] ∧ IsActs E f w v L
def IsActss (E : Nat → Prop) (f : Nat) (w : World) (v : Value) (LL : List (List Ac)) : Prop:=Els 1 [] (RowA E f w) E w v LL
section
variable {H : Type} {enc : TypeId × Value → H} {W : World} {base : Nat} {held : Bool}
theorem open_els {α : Type} {t e : TypeId} {fuel : Nat} {v : Value} {x : DataW H × List MemPlace} (m : Nat) (hm0 : 0 < m) (hu : Tryz.prog.underlying t = some (.slice e)) (hce : Tryz.prog.cellsOf e = m) (h : DataW.trod enc Tryz.prog W base (fun _ => true) held fuel t [v] = some x) (hz : WOk Tryz.prog t x.1) (z : α) (P : Nat → α → List Value → Prop)
    (key : ∀ n,n < fuel → ∀ {cs : List Value} {y : DataW H × List MemPlace},cs.length = m → DataW.trod enc Tryz.prog W base (fun _ => true) held n e cs = some y → WOk Tryz.prog e y.1 → ∃ a,P n a cs) :
    ∃ l n,n < fuel ∧ Els m z (P n) (fun b => b < W.heap.size) W v l ∧ l.length * Tryz.prog.bytesOf e ≤ reachBytes:=by
  obtain ⟨sp,len,cap,rfl,hl,hc,n,elems,rest,hn,hx,hlen,hel⟩:=open_sl2 m hm0 hu hce h;have key2 : ∀ i,i < len → ∃ (y : α),∃ b o cs,sp = some ⟨b,o,none⟩ ∧ b < W.heap.size ∧ cs.length = m ∧ P n y cs ∧ W.rangeAt b (o + i * m) cs:=by
    intro i hi;obtain ⟨b,o,cs,y,hsp,hb,hcl,hat,hy,ht⟩:=hel i hi;have hw : WOk Tryz.prog e y.1:=by
      rcases hx with hx | ⟨-,rfl⟩
      · rw [hx] at hz
        exact (hz.slice hu).2 _ (List.mem_map.2 ⟨_,List.mem_of_getElem? hy,rfl⟩)
      · cases hy
    obtain ⟨a,ha⟩:=key n hn hcl ht hw;exact ⟨a,b,o,cs,hsp,hb,hcl,ha,hat⟩
  have : Inhabited α:=⟨z⟩;obtain ⟨g,hg⟩:=Deep.choose_lt key2;have hget : ∀ k,k < len → ((List.range len).map g).getD k z = g k:=fun k hk => by simp [hk]
  have hll : ((List.range len).map g).length = len:=by simp
  refine ⟨(List.range len).map g,n,hn,⟨sp,cap,by rw [hll],by rw [hll];exact hl,hc,fun h0 => ?_,fun h0 => ?_⟩,?_⟩
  · subst h0
    rcases DataW.trod_slice hu h with ⟨hcs,-⟩ | ⟨a,len',cap',elems',rest',n',-,hcs,-⟩
    · injection hcs with hcs
      injection hcs
    · injection hcs with hcs
      injection hcs with h1
      cases h1
  · rw [hll] at h0
    obtain ⟨b,o,-,hsp,hb,-⟩:=hg 0 h0;refine ⟨b,o,hsp,hb,hb,fun j hj => ?_⟩;rw [hll] at hj;obtain ⟨b2,o2,cs,hsp2,-,hcl,hv,hat⟩:=hg j hj;rw [hsp] at hsp2;cases hsp2
    rw [hget j hj];exact ⟨cs,hcl,hv,hat⟩
  · rw [hll]
    rcases hx with hx | ⟨-,rfl⟩
    · rw [hx] at hz
      have:=(hz.slice hu).1;rw [List.length_map,hlen] at this;exact Nat.le_trans (Nat.mul_le_mul_right _ (Nat.le_add_right _ _)) this
    · simp at hlen;subst hlen;simp
theorem els_all {α : Type} {m : Nat} {z : α} {P : α → List Value → Prop} {O : Nat → Prop} {w : World} {v : Value} {l : List α} (h : Els m z P O w v l) : ∀ x ∈ l,∃ cs,P x cs:=by
  intro x hx;obtain ⟨sp,cap,-,-,-,-,h4⟩:=h;obtain ⟨j,hj,rfl⟩:=List.getElem_of_mem hx;obtain ⟨b,o,-,-,-,hr⟩:=h4 (by omega);obtain ⟨cs,-,hp,-⟩:=hr j hj;exact ⟨cs,by simpa [hj] using hp⟩
theorem open_strso {fuel : Nat} {v : Value} {x : DataW H × List MemPlace} (h : DataW.trod enc Tryz.prog W base (fun _ => true) held fuel 45 [v] = some x) (hz : WOk Tryz.prog 45 x.1) :
    ∃ l,Els 1 noT strP (fun b => b < W.heap.size) W v l ∧ l.length ≤ 140737488355328:=by
  obtain ⟨l,n,-,h1,h2⟩:=open_els 1 (by omega) Tryz.underlying45 cellsS h hz noT (fun _ s cs => strP s cs) fun n _ cs y hcl ht hw => by
    obtain ⟨s,rfl,hs,-⟩:=DataW.trod_string Tryz.underlying9 ht;rw [hs] at hw;have:=WOk.string hw;rw [Array.length_toList] at this;exact ⟨s,rfl,reach_le this⟩
  rw [bytesS] at h2;exact ⟨l,h1,reach_le (by omega)⟩
set_option maxHeartbeats 1000000 in
theorem open_valo : ∀ (fuel : Nat) {cs : List Value} {x : DataW H × List MemPlace},DataW.trod enc Tryz.prog W base (fun _ => true) held fuel 48 cs = some x → WOk Tryz.prog 48 x.1 → ∃ v,IsVo (fun b => b < W.heap.size) fuel W v cs ∧ Sml fuel v:=by
  intro fuel
  induction fuel using Nat.strongRecOn with
  | _ fuel ih =>
    intro cs x h hz;obtain ⟨xs,n,rfl,rfl,hl,hxl,hx⟩:=DataW.trod_struct Tryz.underlying48 h;have hxl' : xs.length = 6:=hxl;rw [cellsV] at hl;have e : ∀ i,i < 6 → ∃ y,xs[i]? = some y:=fun i hi => ⟨xs[i],List.getElem?_eq_getElem (by omega)⟩;obtain ⟨x0,e0⟩:=e 0 (by omega);obtain ⟨x1,e1⟩:=e 1 (by omega);obtain ⟨x2,e2⟩:=e 2 (by omega);obtain ⟨x3,e3⟩:=e 3 (by omega);obtain ⟨x4,e4⟩:=e 4 (by omega);obtain ⟨x5,e5⟩:=e 5 (by omega);have h0:=hx 0 _ rfl;have h1:=hx 1 _ rfl;have h2:=hx 2 _ rfl;have h3:=hx 3 _ rfl;have h4:=hx 4 _ rfl;have h5:=hx 5 _ rfl;rw [e0] at h0;rw [e1] at h1;rw [e2] at h2;rw [e3] at h3;rw [e4] at h4;rw [e5] at h5;have z : ∀ {i : Nat} {f : Field} {y : DataW H × List MemPlace},_ → xs[i]? = some y → WOk Tryz.prog f.type y.1:=fun {i f y} hf hy => WOk.agg Tryz.underlying48 hz (i:=i) (f:=f) hf (by rw [List.getElem?_map,hy];rfl);have z3 : WOk Tryz.prog 9 x3.1:=z (i:=3) rfl e3;have z4 : WOk Tryz.prog 45 x4.1:=z (i:=4) rfl e4;have z5 : WOk Tryz.prog 46 x5.1:=z (i:=5) rfl e5;obtain ⟨a,ha,-,wa⟩:=DataW.trod_int Tryz.underlying3 h0;obtain ⟨b,hb,-,wb⟩:=DataW.trod_int Tryz.underlying3 h1;obtain ⟨c,hc,-,wc⟩:=DataW.trod_int Tryz.underlying3 h2;obtain ⟨s,hs,hs2,-⟩:=DataW.trod_string Tryz.underlying9 h3;have t0 : cs[0]? = some (.int .i64 a):=take1 (by rw [← cellsI];exact ha);have t1 : cs[1]? = some (.int .i64 b):=take1 (by rw [← cellsI];exact hb);have t2 : cs[2]? = some (.int .i64 c):=take1 (by rw [← cellsI];exact hc);have t3 : cs[3]? = some (.string s):=take1 (by rw [← cellsS];exact hs)
    match cs,hl with
    | [c0,c1,c2,c3,c4,c5],_ =>
      simp at t0 t1 t2 t3
      subst t0;subst t1;subst t2;subst t3;have h4' : DataW.trod enc Tryz.prog W base (fun _ => true) held n 45 [c4] = some x4:=h4;have h5' : DataW.trod enc Tryz.prog W base (fun _ => true) held n 46 [c5] = some x5:=h5;obtain ⟨names,hnm,hnl⟩:=open_strso h4' z4;obtain ⟨kids,k,hk,hkd,hkl⟩:=open_els 6 (by omega) Tryz.underlying46 cellsV h5' z5 noV (fun n v cs => IsVo (fun b => b < W.heap.size) n W v cs ∧ Sml n v) fun q hq cs y _ h1 h2 => ih q (by omega) h1 h2;rw [hs2] at z3;have hsz:=z3.string;rw [Array.length_toList] at hsz;rw [bytesV] at hkl;refine ⟨.mk a b c s names kids,⟨c4,c5,rfl,wa,wb,wc,reach_le hsz,hnm,Els.P hkd fun _ _ hp => IsVo.more (by omega) hp.1⟩,hnl,(by show kids.length ≤ 140737488355328;exact reach_le (by omega)),fun y hy => ?_⟩;obtain ⟨cs,-,hp⟩:=els_all hkd y hy;exact Sml.mono (by omega) hp
set_option maxHeartbeats 2000000 in
theorem open_eno {fuel : Nat} {cs : List Value} {x : DataW H × List MemPlace} (h : DataW.trod enc Tryz.prog W base (fun _ => true) held fuel 52 cs = some x) (hz : WOk Tryz.prog 52 x.1) :
    ∃ e,IsEo (fun b => b < W.heap.size) fuel W e cs ∧ Sml fuel e.data:=by
  obtain ⟨e,he,hs⟩:=open_en h hz;obtain ⟨xs,n,rfl,rfl,hl,hxl,hx⟩:=DataW.trod_struct Tryz.underlying52 h;have hxl' : xs.length = 9:=hxl;obtain ⟨x5,e5⟩ : ∃ y,xs[5]? = some y:=⟨xs[5],List.getElem?_eq_getElem (by omega)⟩;have h5:=hx 5 _ rfl;rw [e5] at h5;have z5 : WOk Tryz.prog 48 x5.1:=WOk.agg Tryz.underlying52 hz (i:=5) rfl (by rw [List.getElem?_map,e5];rfl);have h5' : DataW.trod enc Tryz.prog W base (fun _ => true) held n 48 ((cs.drop 5).take (Tryz.prog.cellsOf 48)) = some x5:=h5;rw [cellsV] at h5';obtain ⟨v,hv,hvs⟩:=open_valo n h5' z5;obtain ⟨dc,rfl,-,hdl,h1,h2⟩:=he;have hd : ((enC e dc).drop 5).take 6 = dc:=by
    show (dc ++ _).take 6 = dc
    rw [List.take_append_of_le_length (by omega),List.take_of_length_le (by omega)]
  rw [hd] at hv;refine ⟨{ e with data:=v },⟨dc,rfl,IsVo.more (by omega) hv,hdl,h1,h2⟩,Sml.mono (by omega) hvs⟩
theorem cut57 {α : Type} (cs : List α) : cs = cs.take 4 ++ ((cs.drop 4).take 6 ++ ((cs.drop 10).take 1 ++ (cs.drop 11))):=by
  have h1 : cs.drop 11 = (cs.drop 10).drop 1:=by rw [List.drop_drop]
  have h2 : cs.drop 10 = (cs.drop 4).drop 6:=by rw [List.drop_drop]
  rw [h1,List.take_append_drop,h2,List.take_append_drop,List.take_append_drop]
set_option maxHeartbeats 2000000 in
theorem open_ac {fuel : Nat} {cs : List Value} {x : DataW H × List MemPlace} (h : DataW.trod enc Tryz.prog W base (fun _ => true) held fuel acT cs = some x) (hz : WOk Tryz.prog acT x.1) :
    ∃ a,AcS (fun b => b < W.heap.size) fuel W a cs:=by
  obtain ⟨xs,n,rfl,rfl,hl,hxl,hx⟩:=DataW.trod_struct Tryz.underlying77 h;have hxl' : xs.length = 7:=hxl;have hcl : cs.length = 57:=hl.trans (by kernel_rfl);have e : ∀ i,i < 7 → ∃ y,xs[i]? = some y:=fun i hi => ⟨xs[i],List.getElem?_eq_getElem (by omega)⟩;obtain ⟨x0,e0⟩:=e 0 (by omega);obtain ⟨x1,e1⟩:=e 1 (by omega);obtain ⟨x2,e2⟩:=e 2 (by omega);obtain ⟨x3,e3⟩:=e 3 (by omega);obtain ⟨x4,e4⟩:=e 4 (by omega);obtain ⟨x5,e5⟩:=e 5 (by omega);obtain ⟨x6,e6⟩:=e 6 (by omega);have h0:=hx 0 _ rfl;have h1:=hx 1 _ rfl;have h2:=hx 2 _ rfl;have h3:=hx 3 _ rfl;have h4:=hx 4 _ rfl;have h5:=hx 5 _ rfl;have h6:=hx 6 _ rfl;rw [e0] at h0;rw [e1] at h1;rw [e2] at h2;rw [e3] at h3;rw [e4] at h4;rw [e5] at h5;rw [e6] at h6;have z : ∀ {i : Nat} {f : Field} {y : DataW H × List MemPlace},_ → xs[i]? = some y → WOk Tryz.prog f.type y.1:=fun {i f y} hf hy => WOk.agg Tryz.underlying77 hz (i:=i) (f:=f) hf (by rw [List.getElem?_map,hy];rfl);have z4 : WOk Tryz.prog 48 x4.1:=z (i:=4) rfl e4;have z5 : WOk Tryz.prog 9 x5.1:=z (i:=5) rfl e5;have z6 : WOk Tryz.prog 52 x6.1:=z (i:=6) rfl e6;obtain ⟨a,ha,-,wa⟩:=DataW.trod_int Tryz.underlying3 h0;obtain ⟨b,hb,-,wb⟩:=DataW.trod_int Tryz.underlying3 h1;obtain ⟨c,hc,-,wc⟩:=DataW.trod_int Tryz.underlying3 h2;obtain ⟨d,hd,-,wd⟩:=DataW.trod_int Tryz.underlying3 h3;have h4' : DataW.trod enc Tryz.prog W base (fun _ => true) held n 48 ((cs.drop 4).take (Tryz.prog.cellsOf 48)) = some x4:=h4;rw [cellsV] at h4';obtain ⟨v,hv,hvs⟩:=open_valo n h4' z4;obtain ⟨s,hs,hs2,-⟩:=DataW.trod_string Tryz.underlying9 h5;have h6' : DataW.trod enc Tryz.prog W base (fun _ => true) held n 52 ((cs.drop 11).take (Tryz.prog.cellsOf 52)) = some x6:=h6;rw [cellsE,List.take_of_length_le (by simp [hcl])] at h6';obtain ⟨en,hen,hens⟩:=open_eno h6' z6;have t0 : cs[0]? = some (.int .i64 a):=take1 (by rw [← cellsI];exact ha);have t1 : cs[1]? = some (.int .i64 b):=take1 (by rw [← cellsI];exact hb);have t2 : cs[2]? = some (.int .i64 c):=take1 (by rw [← cellsI];exact hc);have t3 : cs[3]? = some (.int .i64 d):=take1 (by rw [← cellsI];exact hd);have t10 : (cs.drop 10).take 1 = [.string s]:=by rw [← cellsS];exact hs
  rw [hs2] at z5;have hsz:=WOk.string z5;rw [Array.length_toList] at hsz;have hhead : cs.take 4 = [.int .i64 a,.int .i64 b,.int .i64 c,.int .i64 d]:=by
    refine List.ext_getElem? fun i => ?_
    match i with
    | 0 => simpa using t0
    | 1 => simpa using t1
    | 2 => simpa using t2
    | 3 => simpa using t3
    | i + 4 => rw [List.getElem?_eq_none (by simp;omega),List.getElem?_eq_none (by simp)]
  refine ⟨⟨a,b,c,d,v,s,en⟩,⟨(cs.drop 4).take 6,cs.drop 11,?_,IsVo.more (by omega) hv,EnP.mono (fun _ _ h => IsVo.more (by omega) h) hen,⟨r64_of_wf wa,r64_of_wf wb,r64_of_wf wc,r64_of_wf wd,reach_le hsz⟩⟩,Sml.mono (by omega) hvs,Sml.mono (by omega) hens⟩;have:=cut57 cs;rw [hhead,t10] at this;exact this.trans rfl
theorem cellsAc : Tryz.prog.cellsOf acT = 57:=by kernel_rfl
theorem cellsAcs : Tryz.prog.cellsOf 35 = 1:=by kernel_rfl
theorem open_actss {b0 : Nat} {r : Reach} {v : Value} {d : DataW H} {p : List MemPlace} (hval : Value.okWide Tryz.prog W r b0 22 v) (h : DataW.Trod enc Tryz.prog W base (fun _ => true) held 22 v d p) :
    (∀ n ∈ d.weights Tryz.prog 22,n ≤ reachBytes) → ∃ f LL,IsActss (fun b => b < W.heap.size) (f + 1) W v LL ∧ LL.length ≤ 140737488355328:=by
  intro hz;obtain ⟨a,len,cap,rfl⟩:=okWide_slice Tryz.underlying22 hval;obtain ⟨fuel,hf⟩:=h;obtain ⟨LL,n,-,h1,h2⟩:=open_els (v:=.slice a len cap) 1 (by omega) Tryz.underlying22 cellsAcs hf hz [] (fun n => RowA (fun b => b < W.heap.size) (n + 1) W) fun n _ cs y hcl ht hw => by
    obtain ⟨u,rfl⟩ : ∃ u,cs = [u]:=by
      match cs,hcl with
      | [u],_ => exact ⟨u,rfl⟩
    obtain ⟨L,k,hk,hL,-⟩:=open_els 57 (by omega) Tryz.underlying35 cellsAc ht hw noAc (fun n => AcS (fun b => b < W.heap.size) n W) fun n _ cs y _ ht hw => open_ac ht hw;exact ⟨L,u,rfl,Els.P hL fun _ _ hp => hp.more (by omega)⟩
  rw [show Tryz.prog.bytesOf 35 = 24 by kernel_rfl] at h2;exact ⟨n,LL,h1,reach_le (by omega)⟩
end
end Vw
end Go.Proofs.YtchgjaaadfjiiaaGreat
