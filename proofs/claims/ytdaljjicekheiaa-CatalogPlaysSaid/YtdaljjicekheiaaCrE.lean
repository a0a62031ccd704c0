/- The document's catalog (chapter 14): Copy. -/
import Derived.Test.YtdaljjicekheiaaCrD
namespace Go.Proofs.Ytdaljjicekheiaa
open Go.RowKit
namespace Cr
open K Cat
theorem vb_ne {w : World} {a b T T' : Nat} {cs : List Value} {cs' : Array Value} (h : VBlk T w a cs) (h' : w.heap[b]? = some (.cells cs' T' (0, 0))) (hne : T' ≠ T) : b ≠ a := fun e => by
  have hv : w.heap[a]? = some (.cells cs.toArray T (0, 0)) := h
  rw [e, hv] at h'
  injection h' with h'
  injection h' with _ h' _
  exact hne h'.symm
/-- A table more, with its fields. -/
theorem RC.snoc {w w' : World} {rc : Nat} {O O' : Nat → Prop} {L : List Tb} {tv tv' fv : Value} {cells : List Value} {t : Tb} (h : RC w rc O L tv cells) (hk : Keep (fun b => b < w.heap.size ∧ tv.ownBlock ≠ some b) w w') (hO : ∀ b, O b → O' b) (hlt : ∀ b, O' b → b < w'.heap.size)
    (ho : OwnV rtT 4 w' O' tv' (L.length + 1) (cells ++ [.int .i64 ((L.length + 1 : Nat) : Int), .string t.name, .bool t.dropped, fv])) (hf : OwnV stT 1 w' O' fv t.fs.length (t.fs.map Value.string)) (hg : Cat.Good (L ++ [t])) :
    RC (w'.setCell ⟨rc, 0, none⟩ tv') rc O' (L ++ [t]) tv' (cells ++ [.int .i64 ((L.length + 1 : Nat) : Int), .string t.name, .bool t.dropped, fv]) := by
  have hl := h.own.len
  have hrc := h.lt _ h.rc
  have hrn : tv.ownBlock ≠ some rc := fun e => by obtain ⟨cur, hc⟩ := h.own.tag e; exact vb_ne h.vb hc (by decide) rfl
  have vb' : VBlk rcT w' rc [tv] := h.vb.keep hk ⟨hrc, hrn⟩
  have hown : ∀ {e : Nat} {m : Nat} {v : Value} {n : Nat} {l : List Value}, e ≠ rcT → OwnV e m w' O' v n l → OwnV e m (w'.setCell ⟨rc, 0, none⟩ tv') O' v n l := fun hne hh => hh.of_block fun b hb => Below.heap_setCell w' _ _ b (by obtain ⟨cur, hc⟩ := hh.tag hb; exact vb_ne vb' hc hne)
  refine ⟨vb'.set 0 tv', ?_, fun i hi => ?_, hO _ h.rc, fun b hb => by simp; exact hlt b hb, hg⟩
  · rw [show (L ++ [t]).length = L.length + 1 by simp]
    exact hown (by decide) ho
  · by_cases hlt : i < L.length
    · rw [Cat.getD_left _ _ _ _ hlt]
      refine (((h.tab i hlt).of_block fun b hb ⟨cur, hc⟩ => ?_).left (by omega)).mono hO
      have n1 : b ≠ rc := vb_ne h.vb hc (by decide)
      rw [Below.heap_setCell w' _ _ b n1]
      refine hk.block b ⟨h.lt b hb, fun e => ?_⟩
      obtain ⟨cur2, hc2⟩ := h.own.tag e
      rw [hc2] at hc
      injection hc with hc
      injection hc with _ hc _
      exact absurd hc (by decide)
    · obtain rfl : i = L.length := by simp at hi; omega
      have e : (L ++ [t]).getD L.length noTb = t := by simp
      rw [e]
      exact IsTab.last hl (hown (by decide) hf)
theorem take_getD {L : List Tb} {i : Nat} (hi : i < L.length) : L.take (i + 1) = L.take i ++ [L.getD i noTb] := by
  rw [List.take_add_one, List.getD_eq_getElem?_getD, List.getElem?_eq_getElem hi]; rfl
theorem good_take {L : List Tb} (h : Cat.Good L) (i : Nat) : Cat.Good (L.take i) :=
  ⟨by rw [List.length_take]; have := h.len; omega, fun j hj => by
    rw [List.length_take] at hj
    have e : (L.take i).getD j noTb = L.getD j noTb := by rw [List.getD_eq_getElem?_getD, List.getD_eq_getElem?_getD, List.getElem?_take_of_lt (by omega)]
    rw [e]; exact h.each j (by omega)⟩
theorem builtRC : Try.prog.built rcT [] = some [Value.slice none 0 0].toArray := by kernel_rfl
set_option maxHeartbeats 4000000 in
theorem rcopy_cat {w : World} {rc : Nat} {O : Nat → Prop} {L : List Tb} (h0 : RCat w rc O L) : Calls Try.prog 21 #[.pointer (some ⟨rc, 0, none⟩)] w fun e w' => ∃ rc' O', e = .returned (.pointer (some ⟨rc', 0, none⟩)) ∧ RCat w' rc' O' L ∧ Below w.heap.size w w' ∧ ∀ b, O' b → w.heap.size ≤ b := by
  obtain ⟨tv, cells, h⟩ := id h0
  have hlen := h.good.len
  obtain ⟨sp0, cap0, rfl, -, -⟩ := h.own.slice
  refine enter (args := [.pointer (some ⟨rc, 0, none⟩)]) Try.func21 rfl Try.ntmps21 rfl ?_
  repeat (first | ((with_reducible refine WL.topT ?_ ?_); omega) | ((with_reducible refine WL.topF ?_ ?_); omega) | ((with_reducible refine WL.top64 ?_ ?_); omega) | refine WC.seq ?_ | refine WC.block ?_ | refine WC.region ?_ | refine WL.nil ?_ | refine WC.skip ?_ | refine WC.exit ?_ | refine WC.ret ?_ | refine WQ.then rfl ?_ | refine WQ.thenExit ?_ | refine WQ.thenRet ?_ | refine WQ.blk ?_ | refine WQ.blkRet ?_ | refine WQ.blkHere rfl ?_ | refine WQ.blkOther rfl ?_ | refine WL.pure rfl rfl rfl rfl ?_ | refine WL.on rfl rfl ?_ | refine WL.off rfl rfl rfl ?_ | refine WC.condTrue rfl ?_ | refine WC.condFalse rfl ?_)
  refine WL.build [Value.slice none 0 0] rfl rfl rfl rfl rfl builtRC ?_
  refine WL.box rfl rfl rfl rfl rfl fun ob w1 f1 => ?_
  have b1 := f1.below
  have eo := f1.eq
  have R1 : RC w1 ob (fun b => b = ob) [] (.slice none 0 0) [] := ⟨f1.blk, OwnV.nil _ _ _ _, fun i hi => absurd hi (Nat.not_lt_zero i), rfl, fun b hb => by rw [hb]; exact f1.blk.lt, ⟨by simp, fun i hi => absurd hi (Nat.not_lt_zero i)⟩⟩
  clear f1
  repeat (first | ((with_reducible refine WL.topT ?_ ?_); omega) | ((with_reducible refine WL.topF ?_ ?_); omega) | ((with_reducible refine WL.top64 ?_ ?_); omega) | refine WC.seq ?_ | refine WC.block ?_ | refine WC.region ?_ | refine WL.nil ?_ | refine WC.skip ?_ | refine WC.exit ?_ | refine WC.ret ?_ | refine WQ.then rfl ?_ | refine WQ.thenExit ?_ | refine WQ.thenRet ?_ | refine WQ.blk ?_ | refine WQ.blkRet ?_ | refine WQ.blkHere rfl ?_ | refine WQ.blkOther rfl ?_ | refine WL.pure rfl rfl rfl rfl ?_ | refine WL.on rfl rfl ?_ | refine WL.off rfl rfl rfl ?_ | refine WC.condTrue rfl ?_ | refine WC.condFalse rfl ?_)
  refine WC.loop (fun i : Nat => [(0, .pointer (some ⟨rc, 0, none⟩)), (3, .pointer (some ⟨ob, 0, none⟩)), (4, .int .i64 i)]) (fun i w' => i ≤ L.length ∧ Below w.heap.size w w' ∧ ∃ O' tv' cells', RC w' ob O' (L.take i) tv' cells' ∧ ∀ b, O' b → w.heap.size ≤ b) (fun i => L.length - i) 0 ⟨rfl, rfl, rfl, trivial⟩
    ⟨Nat.zero_le _, b1, _, _, _, R1, fun b hb => by rw [hb]; omega⟩ ?_
  clear R1 b1 w1
  rintro i w1 ⟨hi, b1, O1, tv1, cells1, h1, ho1⟩
  have hs := h.below b1
  have cv := hs.vb.cell 0 (by simp)
  simp only [List.getD_cons_zero] at cv
  have z1 := b1.size
  by_cases hk : i < L.length
  · obtain ⟨g', cap, es, -, -, -, -, c0, c1, c2, sp, c, c3, hown⟩ := tab_cells hs.own hk (hs.tab i hk)
    obtain ⟨rfl, rfl⟩ : sp0 = some ⟨g', 0, none⟩ ∧ cap0 = cap := by simpa using es
    clear es
    have hlt : (L.take i).length = i := by rw [List.length_take]; omega
    have hgood := good_take h.good (i + 1)
    rw [take_getD hk] at hgood
    have ht := take_getD hk
    have hfs := (h.good.each i hk).2.1
    generalize L.getD i noTb = t at c0 c1 c2 c3 hown hgood ht hfs
    repeat (first | ((with_reducible refine WL.topT ?_ ?_); omega) | ((with_reducible refine WL.topF ?_ ?_); omega) | ((with_reducible refine WL.top64 ?_ ?_); omega) | refine WC.seq ?_ | refine WC.block ?_ | refine WC.region ?_ | refine WL.nil ?_ | refine WC.skip ?_ | refine WC.exit ?_ | refine WC.ret ?_ | refine WQ.then rfl ?_ | refine WQ.thenExit ?_ | refine WQ.thenRet ?_ | refine WQ.blk ?_ | refine WQ.blkRet ?_ | refine WQ.blkHere rfl ?_ | refine WQ.blkOther rfl ?_ | refine WL.pure rfl rfl rfl rfl ?_ | refine WL.on rfl rfl ?_ | refine WL.off rfl rfl rfl ?_ | refine WL.load rfl rfl rfl rfl rfl rfl (by assumption) ?_ | refine WC.condTrue rfl ?_ | refine WC.condFalse rfl ?_)
    refine WL.idx i (i * 4) rfl rfl rfl rfl rfl rfl rfl rfl hk (by omega) ?_
    refine WL.loadMid rfl rfl rfl rfl rfl rfl (range4 c0 c1 c2 c3) rfl ?_
    refine WL.alloc (z := .agg zTab.toArray) rfl rfl rfl rfl zeroRT fun g5 w2 f5 => ?_
    refine WL.storeRow rfl rfl rfl rfl rfl rfl f5.blk rfl rfl (ones4 rfl) ?_
    obtain ⟨row, hrow⟩ : ∃ row, row = [Value.int .i64 ((i + 1 : Nat) : Int), .string t.name, .bool t.dropped, .slice sp t.fs.length c] := ⟨_, rfl⟩
    rw [← hrow]
    have e5 := f5.eq
    have v3 := f5.blk.setRow row
    have k3 : Below w1.heap.size w1 (w2.setRow g5 row.toArray) := (keepRow (Keep.of_below f5.below) (fun hh => by omega) _).below
    have z3 : g5 < (w2.setRow g5 row.toArray).heap.size := VBlk.lt v3
    generalize w2.setRow g5 row.toArray = w3 at v3 k3 z3 ⊢
    clear f5
    have cf : w3.cell? ⟨g5, 3, none⟩ = some (.slice sp t.fs.length c) := by rw [v3.cell 3 (by rw [hrow]; simp), hrow]; rfl
    repeat (first | ((with_reducible refine WL.topT ?_ ?_); omega) | ((with_reducible refine WL.topF ?_ ?_); omega) | ((with_reducible refine WL.top64 ?_ ?_); omega) | refine WC.seq ?_ | refine WC.block ?_ | refine WC.region ?_ | refine WL.nil ?_ | refine WC.skip ?_ | refine WC.exit ?_ | refine WC.ret ?_ | refine WQ.then rfl ?_ | refine WQ.thenExit ?_ | refine WQ.thenRet ?_ | refine WQ.blk ?_ | refine WQ.blkRet ?_ | refine WQ.blkHere rfl ?_ | refine WQ.blkOther rfl ?_ | refine WL.pure rfl rfl rfl rfl ?_ | refine WL.on rfl rfl ?_ | refine WL.off rfl rfl rfl ?_ | refine WC.condTrue rfl ?_ | refine WC.condFalse rfl ?_)
    refine WL.empty rfl rfl rfl rfl rfl fun ga w4 fa => ?_
    have cf4 := (fa.below.cell (p := ⟨g5, 3, none⟩) z3).trans cf
    have v4 := v3.below fa.below z3
    have k4 := k3.trans (fa.below.mono k3.size)
    have owna : OwnV stT 1 w4 (fun b => w1.heap.size ≤ b ∧ b ≠ g5) (.slice (some ⟨ga, 0, none⟩) 0 0) 0 [] := OwnV.fresh fa (fun u hu => absurd hu List.not_mem_nil) (by simp) (by omega) (by have := fa.eq; have := k3.size; exact ⟨by omega, by omega⟩)
    repeat (first | ((with_reducible refine WL.topT ?_ ?_); omega) | ((with_reducible refine WL.topF ?_ ?_); omega) | ((with_reducible refine WL.top64 ?_ ?_); omega) | refine WC.seq ?_ | refine WC.block ?_ | refine WC.region ?_ | refine WL.nil ?_ | refine WC.skip ?_ | refine WC.exit ?_ | refine WC.ret ?_ | refine WQ.then rfl ?_ | refine WQ.thenExit ?_ | refine WQ.thenRet ?_ | refine WQ.blk ?_ | refine WQ.blkRet ?_ | refine WQ.blkHere rfl ?_ | refine WQ.blkOther rfl ?_ | refine WL.pure rfl rfl rfl rfl ?_ | refine WL.on rfl rfl ?_ | refine WL.off rfl rfl rfl ?_ | refine WL.load rfl rfl rfl rfl rfl rfl (by assumption) ?_ | refine WC.condTrue rfl ?_ | refine WC.condFalse rfl ?_)
    refine WL.appV rfl rfl rfl rfl elemSt rfl owna rfl (hown.slV.below k4 (Nat.le_refl _)) (by omega) (by omega) fun vb w5 ob5 gb => ?_
    have k5 := k4.trans (gb.old k4.size fun g hg => (owna.own hg).1)
    have v5 := v4.keep gb.1 ⟨v4.lt, fun e => (owna.own e).2 rfl⟩
    have own5 : OwnV stT 1 w5 (fun b => w1.heap.size ≤ b ∧ b ≠ g5) vb t.fs.length (t.fs.map Value.string) := by
      rw [Nat.zero_add, List.nil_append] at ob5
      refine ob5.mono fun b hb => hb.elim id fun e => ?_
      have := k4.size
      have := VBlk.lt v4
      exact ⟨by omega, by omega⟩
    have cf5 : w5.cell? ⟨g5, 3, none⟩ = some (.slice sp t.fs.length c) := by rw [v5.cell 3 (by rw [hrow]; simp), hrow]; rfl
    clear fa cf4 ob5 gb v3 v4 k3 cf
    repeat (first | ((with_reducible refine WL.topT ?_ ?_); omega) | ((with_reducible refine WL.topF ?_ ?_); omega) | ((with_reducible refine WL.top64 ?_ ?_); omega) | refine WC.seq ?_ | refine WC.block ?_ | refine WC.region ?_ | refine WL.nil ?_ | refine WC.skip ?_ | refine WC.exit ?_ | refine WC.ret ?_ | refine WQ.then rfl ?_ | refine WQ.thenExit ?_ | refine WQ.thenRet ?_ | refine WQ.blk ?_ | refine WQ.blkRet ?_ | refine WQ.blkHere rfl ?_ | refine WQ.blkOther rfl ?_ | refine WL.pure rfl rfl rfl rfl ?_ | refine WL.on rfl rfl ?_ | refine WL.off rfl rfl rfl ?_ | refine WC.condTrue rfl ?_ | refine WC.condFalse rfl ?_)
    refine WL.store rfl rfl rfl rfl rfl (OwnV.one own5) (by kernel_rfl) cf5 (VBlk.free v5 3) ?_
    have v6 := v5.set 3 vb
    have k6 : Below w1.heap.size w1 (w5.setCell ⟨g5, 3, none⟩ vb) := (Keep.setCell (Keep.of_below k5) (fun (hh : g5 < w1.heap.size) => by omega) _).below
    have own6 : OwnV stT 1 (w5.setCell ⟨g5, 3, none⟩ vb) (fun b => w1.heap.size ≤ b ∧ b ≠ g5) vb t.fs.length (t.fs.map Value.string) := own5.of_block fun b hb => Below.heap_setCell w5 _ _ b (own5.own hb).2
    rw [hrow] at v6
    generalize w5.setCell ⟨g5, 3, none⟩ vb = w6 at v6 k6 own6 ⊢
    clear v5 cf5 own5 k5 owna
    change VBlk rtT w6 g5 [Value.int .i64 ((i + 1 : Nat) : Int), .string t.name, .bool t.dropped, vb] at v6
    have h6 := h1.below k6
    have z6 := k6.size
    obtain ⟨sp1, cap1, rfl, -, -⟩ := h6.own.slice
    rw [hlt] at h6
    have cv6 := h6.vb.cell 0 (by simp)
    simp only [List.getD_cons_zero] at cv6
    repeat (first | ((with_reducible refine WL.topT ?_ ?_); omega) | ((with_reducible refine WL.topF ?_ ?_); omega) | ((with_reducible refine WL.top64 ?_ ?_); omega) | refine WC.seq ?_ | refine WC.block ?_ | refine WC.region ?_ | refine WL.nil ?_ | refine WC.skip ?_ | refine WC.exit ?_ | refine WC.ret ?_ | refine WQ.then rfl ?_ | refine WQ.thenExit ?_ | refine WQ.thenRet ?_ | refine WQ.blk ?_ | refine WQ.blkRet ?_ | refine WQ.blkHere rfl ?_ | refine WQ.blkOther rfl ?_ | refine WL.pure rfl rfl rfl rfl ?_ | refine WL.on rfl rfl ?_ | refine WL.off rfl rfl rfl ?_ | refine WC.condTrue rfl ?_ | refine WC.condFalse rfl ?_)
    refine WC.drawn 7 (fun wx => Below w6.heap.size w6 wx) fun w7 hd => ?_
    have hS : Below w6.heap.size w6 w7 := hd.below _
    clear hd
    have hob := h6.lt _ h6.rc
    have hg6 := VBlk.lt v6
    (((first | refine WD.free 0 rfl (by kernel_rfl) rfl rfl (fun _ _ _ _ _ h => h) rfl rfl (.inr hS) ?_ | refine WD.skip 0 rfl (by kernel_rfl) rfl rfl (fun _ _ _ _ _ h => h) rfl (.inr hS) ?_); try (first | ((with_reducible refine WD.topT ?_ ?_); omega) | ((with_reducible refine WD.topF ?_ ?_); omega) | ((with_reducible refine WD.top64 ?_ ?_); omega))); ((first | refine WD.free 1 rfl (by kernel_rfl) rfl rfl (fun _ _ _ _ _ h => h) rfl rfl (.inr hS) ?_ | refine WD.skip 1 rfl (by kernel_rfl) rfl rfl (fun _ _ _ _ _ h => h) rfl (.inr hS) ?_); try (first | ((with_reducible refine WD.topT ?_ ?_); omega) | ((with_reducible refine WD.topF ?_ ?_); omega) | ((with_reducible refine WD.top64 ?_ ?_); omega))); ((first | refine WD.free 2 rfl (by kernel_rfl) rfl rfl (fun _ _ _ _ _ h => h) rfl rfl (.inr hS) ?_ | refine WD.skip 2 rfl (by kernel_rfl) rfl rfl (fun _ _ _ _ _ h => h) rfl (.inr hS) ?_); try (first | ((with_reducible refine WD.topT ?_ ?_); omega) | ((with_reducible refine WD.topF ?_ ?_); omega) | ((with_reducible refine WD.top64 ?_ ?_); omega))); ((first | refine WD.free 3 rfl (by kernel_rfl) rfl rfl (fun _ _ _ _ _ h => h) rfl rfl (.inr hS) ?_ | refine WD.skip 3 rfl (by kernel_rfl) rfl rfl (fun _ _ _ _ _ h => h) rfl (.inr hS) ?_); try (first | ((with_reducible refine WD.topT ?_ ?_); omega) | ((with_reducible refine WD.topF ?_ ?_); omega) | ((with_reducible refine WD.top64 ?_ ?_); omega))))
    refine WD.load 4 [7] rfl (by kernel_rfl) rfl rfl (fun _ _ _ _ _ h => h) rfl rfl rfl rfl (fun wx hx => (hx.cell (p := ⟨ob, 0, none⟩) hob).trans cv6) hS ?_
    refine WD.loadMid 5 [6, 7] rfl (by kernel_rfl) rfl rfl (fun _ _ _ _ _ h => h) rfl rfl rfl rfl (fun wx hx => VBlk.rangeAt (v6.below hx hg6)) rfl hS ?_
    refine WD.one 6 (by kernel_rfl) rfl ?_
    refine WL.lit1 rfl rfl rfl rfl rfl rfl (cs := [Value.int .i64 ((i + 1 : Nat) : Int), .string t.name, .bool t.dropped, vb]) rfl rfl (by omega) (by kernel_rfl) fun gl w8 f8 => ?_
    have k8 : Below w6.heap.size w6 w8 := hS.trans (f8.below.mono hS.size)
    refine WL.nil (WQ.dk (.inr k8) ?_)
    have h8 := h6.below k8
    have sl8 := SlV.fresh1 f8 (T := rtT) (ones4 (OwnV.one own6))
    have z8 := k8.size
    refine WD.one 7 (by kernel_rfl) rfl ?_
    refine WL.appV rfl rfl rfl rfl elemRT rfl h8.own rfl sl8 (by omega) (by omega) fun v9 w9 o9 g9 => ?_
    refine WL.nil (WQ.dk (.inl rfl) ?_)
    (((first | refine WD.free 8 rfl (by kernel_rfl) rfl rfl (fun _ _ _ _ _ h => h) rfl rfl (.inl rfl) ?_ | refine WD.skip 8 rfl (by kernel_rfl) rfl rfl (fun _ _ _ _ _ h => h) rfl (.inl rfl) ?_); try (first | ((with_reducible refine WD.topT ?_ ?_); omega) | ((with_reducible refine WD.topF ?_ ?_); omega) | ((with_reducible refine WD.top64 ?_ ?_); omega))); ((first | refine WD.free 9 rfl (by kernel_rfl) rfl rfl (fun _ _ _ _ _ h => h) rfl rfl (.inl rfl) ?_ | refine WD.skip 9 rfl (by kernel_rfl) rfl rfl (fun _ _ _ _ _ h => h) rfl (.inl rfl) ?_); try (first | ((with_reducible refine WD.topT ?_ ?_); omega) | ((with_reducible refine WD.topF ?_ ?_); omega) | ((with_reducible refine WD.top64 ?_ ?_); omega))))
    refine WD.one 10 (by kernel_rfl) rfl ?_
    have hne : (Value.slice sp1 i cap1).ownBlock ≠ some ob := fun e => by obtain ⟨cur, hc⟩ := h8.own.tag e; exact vb_ne h8.vb hc (by decide) rfl
    have hlt8 := h8.lt _ h8.rc
    have cv9 : w9.cell? ⟨ob, 0, none⟩ = some (.slice sp1 i cap1) := (g9.1.cell (p := ⟨ob, 0, none⟩) ⟨hlt8, hne⟩).trans ((k8.cell (p := ⟨ob, 0, none⟩) hob).trans cv6)
    refine WL.store rfl rfl rfl rfl rfl (OwnV.one o9) (by kernel_rfl) cv9 (VBlk.free (h8.vb.keep g9.1 ⟨hlt8, hne⟩) 0) ?_
    refine WL.nil (WQ.dk (.inl rfl) ?_)
    refine WD.done (by kernel_rfl) ?_
    have own8 := own6.keep (Keep.of_below k8) (fun g hg => own6.lt hg)
    have own9 : OwnV stT 1 w9 (fun b => (O1 b ∨ w1.heap.size ≤ b) ∧ b < w9.heap.size) vb t.fs.length (t.fs.map Value.string) := by
      have := own8.keep g9.1 (fun g hg => ⟨own8.lt hg, fun e => by
        have q1 := h1.lt g (h8.own.own e)
        have q2 := (own8.own hg).1
        omega⟩)
      exact ⟨this.1, this.2.1, fun g hg => ⟨.inr (own8.own hg).1, this.lt hg⟩⟩
    have R := h8.snoc (O' := fun b => (O1 b ∨ w1.heap.size ≤ b) ∧ b < w9.heap.size) (t := t) (fv := vb) g9.1 (fun b hb => ⟨.inl hb, Nat.lt_of_lt_of_le (h8.lt b hb) g9.1.size⟩) (fun b hb => hb.2) (by
      rw [show ((L.take i).length + 1 : Nat) = i + 1 by omega]
      rw [hlt] at o9
      exact ⟨o9.1, o9.2.1, fun g hg => ⟨(o9.own hg).elim .inl (fun e => .inr (by omega)), o9.lt hg⟩⟩) own9 hgood
    rw [← ht] at R
    have bf : Below w.heap.size w (w9.setCell ⟨ob, 0, none⟩ v9) := by
      refine (Keep.setCell (Keep.of_below ((b1.trans (k6.mono z1)).trans ((k8.mono (by omega)).trans (g9.old (by omega) fun g hg => ?_)))) (fun (hh : ob < w.heap.size) => ?_) _).below
      · exact ho1 g (h8.own.own hg)
      · have := ho1 ob h1.rc; omega
    repeat (first | ((with_reducible refine WL.topT ?_ ?_); omega) | ((with_reducible refine WL.topF ?_ ?_); omega) | ((with_reducible refine WL.top64 ?_ ?_); omega) | refine WC.seq ?_ | refine WC.block ?_ | refine WC.region ?_ | refine WL.nil ?_ | refine WC.skip ?_ | refine WC.exit ?_ | refine WC.ret ?_ | refine WQ.then rfl ?_ | refine WQ.thenExit ?_ | refine WQ.thenRet ?_ | refine WQ.blk ?_ | refine WQ.blkRet ?_ | refine WQ.blkHere rfl ?_ | refine WQ.blkOther rfl ?_ | refine WL.pure rfl rfl rfl rfl ?_ | refine WL.on rfl rfl ?_ | refine WL.off rfl rfl rfl ?_ | refine WC.condTrue rfl ?_ | refine WC.condFalse rfl ?_)
    exact WQ.again (i + 1) ⟨rfl, rfl, rfl, trivial⟩ ⟨hk, bf, _, _, _, R, fun b hb => hb.1.elim (ho1 b) (fun hh => by omega)⟩ (by omega)
  · obtain rfl : i = L.length := by omega
    rw [List.take_length] at h1
    repeat (first | ((with_reducible refine WL.topT ?_ ?_); omega) | ((with_reducible refine WL.topF ?_ ?_); omega) | ((with_reducible refine WL.top64 ?_ ?_); omega) | refine WC.seq ?_ | refine WC.block ?_ | refine WC.region ?_ | refine WL.nil ?_ | refine WC.skip ?_ | refine WC.exit ?_ | refine WC.ret ?_ | refine WQ.then rfl ?_ | refine WQ.thenExit ?_ | refine WQ.thenRet ?_ | refine WQ.blk ?_ | refine WQ.blkRet ?_ | refine WQ.blkHere rfl ?_ | refine WQ.blkOther rfl ?_ | refine WL.pure rfl rfl rfl rfl ?_ | refine WL.on rfl rfl ?_ | refine WL.off rfl rfl rfl ?_ | refine WL.load rfl rfl rfl rfl rfl rfl (by assumption) ?_ | refine WC.condTrue rfl ?_ | refine WC.condFalse rfl ?_)
    exact WQ.ret1 rfl rfl ⟨ob, O1, rfl, ⟨_, _, h1⟩, b1, ho1⟩
end Cr
end Go.Proofs.Ytdaljjicekheiaa
