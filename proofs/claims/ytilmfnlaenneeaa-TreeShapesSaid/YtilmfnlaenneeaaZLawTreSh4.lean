/- Texts for LawTreSh, part 4 of 5. -/
import Derived.Test.YtilmfnlaenneeaaZLawTreSh3
import Derived.ProofKit
import Derived.OpenShut
import Derived.ShutString
import Derived.ChangeOld
import Derived.Below
import Derived.Deep.Slices
import Derived.SizedLaws
import Derived.DataOpen
import Derived.ChangeMaps5
/- Trees (chapter 13): mends. -/
namespace Go.Proofs.Ytilmfnlaenneeaa
open Go.RowKit
namespace K
open Tre
theorem PS.node2 {w0 w' w2 : World} {st0 st' : St} {tb b c : Nat} {nb nc : Nd} {pb pc : Option Nat} (h : PS w0 st0 tb w' st') (hb : st' b ≠ none) (hc : st' c ≠ none) (hk : Keep (fun x => x ≠ b ∧ x ≠ c) w' w2) (hlb : nb.es.length ≤ 8) (hlc : nc.es.length ≤ 8)
    (hvb : VBlk nodeT w2 b (rowOf (ndF nb pb))) (hvc : VBlk nodeT w2 c (rowOf (ndF nc pc))) : PS w0 st0 tb w2 (upd (upd st' b nb) c nc) := by
  have hnb : tb ≠ b := fun e => hb (by rw [← e]; exact h.no)
  have hnc : tb ≠ c := fun e => hc (by rw [← e]; exact h.no)
  refine h.step (fun x nd e => ?_) (by rw [upd_ne hnc, upd_ne hnb]; exact h.no) (hk.mono fun x hx => ⟨fun e => hb (by rw [← e]; exact hx.2.1), fun e => hc (by rw [← e]; exact hx.2.1)⟩) fun x hx => ?_
  · by_cases hxc : x = c
    · subst hxc; rw [upd_eq] at e; obtain rfl := Option.some.inj e; exact ⟨hlc, pc, hvc⟩
    · rw [upd_ne hxc] at e
      by_cases hxb : x = b
      · subst hxb; rw [upd_eq] at e; obtain rfl := Option.some.inj e; exact ⟨hlb, pb, hvb⟩
      · rw [upd_ne hxb] at e
        obtain ⟨h1, pv, h2⟩ := h.mem x nd e
        exact ⟨h1, pv, h2.keep hk ⟨hxb, hxc⟩⟩
  · by_cases hxc : x = c
    · rw [hxc]; exact .inl hc
    · rw [upd_ne hxc] at hx
      by_cases hxb : x = b
      · rw [hxb]; exact .inl hb
      · rw [upd_ne hxb] at hx; exact .inl hx
theorem PS.prev {w0 w' : World} {st0 st' : St} {tb q : Nat} (h : PS w0 st0 tb w' st') (hq : st' q ≠ none) (x : Option Nat) : PS w0 st0 tb (w'.setCell ⟨q, 27, none⟩ (ptrV x)) st' :=
  h.step (h.mem.setPrev hq x) h.no (Keep.setCell (Keep.refl _ _) (fun hk => hq hk.2.1) _) fun _ hx => .inl hx
theorem kids_era {d : Nat} (p q : List (Tr d)) (a c : Tr d) (z : Tr d) (hz : kidE d z = kidE d a) : era ((p ++ a :: c :: q).map (kidE d)) (p.length + 1) = (p ++ z :: q).map (kidE d) := by
  unfold era
  have hl : (p.map (kidE d)).length = p.length := List.length_map ..
  simp only [List.map_append, List.map_cons]
  rw [List.take_append, List.drop_append, hl, List.take_of_length_le (by rw [hl]; omega), List.drop_eq_nil_of_le (by rw [hl]; omega), show p.length + 1 - p.length = 1 by omega, show p.length + 1 + 1 - p.length = 2 by omega, hz]
  simp
theorem kids_set {d : Nat} (p q : List (Tr d)) (a c a' c' : Tr d) (ha : kidE d a' = kidE d a) (x : En) (hx : x = kidE d c') : ((p ++ a :: c :: q).map (kidE d)).set (p.length + 1) x = (p ++ a' :: c' :: q).map (kidE d) := by
  have hl : (p.map (kidE d)).length = p.length := List.length_map ..
  simp only [List.map_append, List.map_cons]
  rw [List.set_append_right _ _ (by rw [hl]; omega), hl, show p.length + 1 - p.length = 1 by omega, ha, hx]
  rfl
theorem kids_get2 {d : Nat} (p q : List (Tr d)) (a c : Tr d) (z : En) : ((p ++ a :: c :: q).map (kidE d)).getD (p.length + 1) z = kidE d c := by
  have hl : (p.map (kidE d)).length = p.length := List.length_map ..
  simp only [List.map_append, List.map_cons, List.getD_eq_getElem?_getD]
  rw [List.getElem?_append_right (by rw [hl]; omega), hl, show p.length + 1 - p.length = 1 by omega]
  rfl
theorem kidE_jn {d : Nat} {a c : Tr d} (hm : Mn d a) (h1 : 1 ≤ cnt d a) : kidE d (jn d a c) = kidE d a := by
  unfold kidE fk
  rw [jn_els, fst_app (els_ne hm h1), jn_blk]
theorem kidE_rd {d j : Nat} {a c : Tr d} (hm : Mn d a) (h1 : 1 ≤ cnt d a) (hm' : Mn d (rd j d a c).1) (h1' : 1 ≤ cnt d (rd j d a c).1) : kidE d (rd j d a c).1 = kidE d a := by
  unfold kidE fk
  have := rd_els j d a c
  rw [← fst_app (els_ne hm' h1') (b := els d (rd j d a c).2), this, fst_app (els_ne hm h1), (rd_blk j d a c).1]
theorem At_kid {st : St} {d b : Nat} {ks : List (Tr d)} {nx : Option Nat} (h : At st (d + 1) (mkS b ks) nx) {s : Tr d} (hs : s ∈ ks) : ∃ nx', st (blk d s) = some ⟨d == 0, ents d s, nx'⟩ ∧ (d ≠ 0 → nx' = none) := by
  obtain ⟨nx2, h2⟩ := Lnk_mem (l := ks) h.lnk s hs
  exact nodeAt ((RepI_mkS.1 h.rep).2 s hs) h2
theorem sh1 (x y : List En) {A : Nat} (hx : x.length = A) (hy : 1 ≤ y.length) : (x ++ y).take (A + 1) = x ++ [⟨(y.getD 0 noE).key, (y.getD 0 noE).num, (y.getD 0 noE).kid⟩] ∧ (x ++ y).drop (A + 1) = era y 0 := by
  cases y with
  | nil => simp at hy
  | cons e y =>
    subst hx
    refine ⟨?_, ?_⟩
    · rw [List.take_append, List.take_of_length_le (by omega), show x.length + 1 - x.length = 1 by omega]; rfl
    · rw [List.drop_append, List.drop_eq_nil_of_le (by omega), show x.length + 1 - x.length = 1 by omega]; rfl
theorem sh2 (x y : List En) {A : Nat} (hx : x.length = A + 1) : (x ++ y).take A = era x A ∧ (x ++ y).drop A = ins y 0 ⟨(x.getD A noE).key, (x.getD A noE).num, (x.getD A noE).kid⟩ := by
  refine ⟨?_, ?_⟩
  · rw [era_end _ hx, List.take_append_of_le_length (by omega)]
  · rw [List.drop_append_of_le_length (by omega), getD_elem _ (by omega), List.drop_eq_getElem_cons (by omega), List.drop_eq_nil_of_le (by omega)]; rfl
set_option maxRecDepth 20000 in
set_option maxHeartbeats 8000000 in
theorem mends_any {w : World} {st : St} {tb b d size m : Nat} {root : Option Nat} {p q : List (Tr d)} {a c : Tr d} {nx : Option Nat} (hm : Mem w st) (hno : st tb = none) (hat : At st (d + 1) (mkS b (p ++ a :: c :: q)) nx)
    (hval : ∀ nd, st (blk d c) = some nd → ∀ q, nd.next = some q → st q ≠ none) (hma : Mn d a) (hmc : Mn d c) (ha3 : 3 ≤ cnt d a) (hc3 : 3 ≤ cnt d c) (h33 : cnt d a = 3 ∨ cnt d c = 3) (hlen : (p ++ a :: c :: q).length ≤ 8) (hh : VBlk treeT w tb (trC root size (m + 1))) (hmm : m < 4611686018427387904) :
    Calls Try.prog 39 #[.pointer (some ⟨tb, 0, none⟩), .pointer (some ⟨b, 0, none⟩), .int .i64 p.length] w fun e w' => e = .returned (.tuple #[]) ∧ ∃ st' t', CutR st st' (d + 1) (mkS b (p ++ a :: c :: q)) t' nx ∧ PS w st tb w' st' ∧ (∀ x, st' x ≠ none → st x ≠ none) ∧
      ((cnt d a + cnt d c ≤ 8 ∧ t' = mkS b (p ++ jn d a c :: q) ∧ VBlk treeT w' tb (trC root size m)) ∨ (8 < cnt d a + cnt d c ∧ ∃ j, 4 ≤ j ∧ j ≤ 8 ∧ j + 4 ≤ cnt d a + cnt d c ∧ cnt d a + cnt d c ≤ j + 8 ∧ t' = mkS b (p ++ (rd j d a c).1 :: (rd j d a c).2 :: q) ∧ VBlk treeT w' tb (trC root size (m + 1)))) := by
  refine enter (args := [.pointer (some ⟨tb, 0, none⟩), .pointer (some ⟨b, 0, none⟩), .int .i64 p.length]) Try.func39 rfl Try.ntmps39 rfl ?_
  have hps := PS.start hm hno
  obtain ⟨hpb, hpr⟩ := List.nodup_cons.1 (parts4 hat.nodup)
  obtain ⟨hpac, -, -⟩ := List.nodup_append.1 hpr
  obtain ⟨-, -, hdac⟩ := List.nodup_append.1 hpac
  have hac : blk d a ≠ blk d c := hdac _ (blk_mem d a) _ (blk_mem d c)
  have hba : b ≠ blk d a := fun e => hpb (by simp only [List.mem_append]; exact .inl (.inl (e ▸ blk_mem d a)))
  have hbc : b ≠ blk d c := fun e => hpb (by simp only [List.mem_append]; exact .inl (.inr (e ▸ blk_mem d c)))
  clear hpb hpr hpac hdac
  have hb : st b = some ⟨false, (p ++ a :: c :: q).map (kidE d), none⟩ := (RepI_mkS.1 hat.rep).1
  obtain ⟨nxa, hsa, hxa⟩ := At_kid hat (s := a) (by simp)
  obtain ⟨nxc, hsc, hxc⟩ := At_kid hat (s := c) (by simp)
  have htb : tb ≠ b := fun e => by rw [← e, hno] at hb; cases hb
  have hta : tb ≠ blk d a := fun e => by rw [← e, hno] at hsa; cases hsa
  have htc : tb ≠ blk d c := fun e => by rw [← e, hno] at hsc; cases hsc
  obtain ⟨-, pb, vb⟩ := hm _ _ hb
  obtain ⟨-, pa, va⟩ := hm _ _ hsa
  obtain ⟨-, pc, vc⟩ := hm _ _ hsc
  obtain ⟨A, hA⟩ : ∃ A, cnt d a = A := ⟨_, rfl⟩
  obtain ⟨C, hC⟩ : ∃ C, cnt d c = C := ⟨_, rfl⟩
  have hA8 : A ≤ 8 := by rw [← hA]; exact hma.le
  have hC8 : C ≤ 8 := by rw [← hC]; exact hmc.le
  have hla : (ents d a).length = A := by rw [ents_len, hA]
  have hlc : (ents d c).length = C := by rw [ents_len, hC]
  rw [hA] at ha3
  rw [hC] at hc3
  rw [hA, hC] at h33
  have hp7 : p.length + 2 ≤ 8 := by simp only [List.length_append, List.length_cons] at hlen; omega
  have hml : ∀ l : List (Tr d), (l.map (kidE d)).length = l.length := fun l => List.length_map ..
  have hka := kidR vb (i := p.length) (q := blk d a) (by omega) (by show (((p ++ a :: c :: q).map (kidE d)).getD p.length noE).kid = _; rw [kid_at]; rfl)
  have hkc := kidR vb (i := p.length + 1) (q := blk d c) (by omega) (by show (((p ++ a :: c :: q).map (kidE d)).getD (p.length + 1) noE).kid = _; rw [kids_get2]; rfl)
  repeat (first | refine WC.seq ?_ | refine WC.block ?_ | refine WC.region ?_ | refine WL.nil ?_ | refine WC.skip ?_ | refine WC.exit ?_ | refine WC.ret ?_ | refine WQ.then rfl ?_ | refine WQ.thenExit ?_ | refine WQ.thenRet ?_ | refine WQ.blk ?_ | refine WQ.blkRet ?_ | refine WQ.blkHere rfl ?_ | refine WQ.blkOther rfl ?_)
  refine WC.drawn 14 (fun wx => wx.heap = w.heap) fun w1 hd => ?_
  have hS : w1.heap = w.heap := hd.heap
  have hps := hps.step (hps.mem.below (hd.below _)) hps.no (Keep.ofDrew hd _) fun x hx => .inl hx
  replace vb := vb.below (hd.below _) vb.lt
  replace va := va.below (hd.below _) va.lt
  replace vc := vc.below (hd.below _) vc.lt
  replace hh := hh.below (hd.below _) hh.lt
  clear hd
  (((first | refine WD.free 0 rfl (by kernel_rfl) rfl rfl (fun _ _ _ _ _ h => h) rfl rfl (.inr hS) ?_ | refine WD.skip 0 rfl (by kernel_rfl) rfl rfl (fun _ _ _ _ _ h => h) rfl (.inr hS) ?_); try (first | ((with_reducible refine WD.topT ?_ ?_); omega) | ((with_reducible refine WD.topF ?_ ?_); omega) | ((with_reducible refine WD.top64 ?_ ?_); omega))); ((first | refine WD.free 1 rfl (by kernel_rfl) rfl rfl (fun _ _ _ _ _ h => h) rfl rfl (.inr hS) ?_ | refine WD.skip 1 rfl (by kernel_rfl) rfl rfl (fun _ _ _ _ _ h => h) rfl (.inr hS) ?_); try (first | ((with_reducible refine WD.topT ?_ ?_); omega) | ((with_reducible refine WD.topF ?_ ?_); omega) | ((with_reducible refine WD.top64 ?_ ?_); omega))); ((first | refine WD.free 2 rfl (by kernel_rfl) rfl rfl (fun _ _ _ _ _ h => h) rfl rfl (.inr hS) ?_ | refine WD.skip 2 rfl (by kernel_rfl) rfl rfl (fun _ _ _ _ _ h => h) rfl (.inr hS) ?_); try (first | ((with_reducible refine WD.topT ?_ ?_); omega) | ((with_reducible refine WD.topF ?_ ?_); omega) | ((with_reducible refine WD.top64 ?_ ?_); omega))); ((first | refine WD.free 3 rfl (by kernel_rfl) rfl rfl (fun _ _ _ _ _ h => h) rfl rfl (.inr hS) ?_ | refine WD.skip 3 rfl (by kernel_rfl) rfl rfl (fun _ _ _ _ _ h => h) rfl (.inr hS) ?_); try (first | ((with_reducible refine WD.topT ?_ ?_); omega) | ((with_reducible refine WD.topF ?_ ?_); omega) | ((with_reducible refine WD.top64 ?_ ?_); omega))))
  refine WD.idxA 4 p.length (18 + p.length) rfl (by kernel_rfl) rfl rfl (fun _ _ _ _ _ h => h) rfl rfl rfl rfl rfl rfl (by omega) (by omega) (.inr hS) ?_
  refine WD.load 5 [13, 14] rfl (by kernel_rfl) rfl rfl (fun _ _ _ _ _ h => h) rfl rfl rfl rfl (fun wx hx => (heap_cell hx _).trans hka) hS ?_
  (((first | refine WD.free 6 rfl (by kernel_rfl) rfl rfl (fun _ _ _ _ _ h => h) rfl rfl (.inr hS) ?_ | refine WD.skip 6 rfl (by kernel_rfl) rfl rfl (fun _ _ _ _ _ h => h) rfl (.inr hS) ?_); try (first | ((with_reducible refine WD.topT ?_ ?_); omega) | ((with_reducible refine WD.topF ?_ ?_); omega) | ((with_reducible refine WD.top64 ?_ ?_); omega))); ((first | refine WD.free 7 rfl (by kernel_rfl) rfl rfl (fun _ _ _ _ _ h => h) rfl rfl (.inr hS) ?_ | refine WD.skip 7 rfl (by kernel_rfl) rfl rfl (fun _ _ _ _ _ h => h) rfl (.inr hS) ?_); try (first | ((with_reducible refine WD.topT ?_ ?_); omega) | ((with_reducible refine WD.topF ?_ ?_); omega) | ((with_reducible refine WD.top64 ?_ ?_); omega))); ((first | refine WD.free 8 rfl (by kernel_rfl) rfl rfl (fun _ _ _ _ _ h => h) rfl rfl (.inr hS) ?_ | refine WD.skip 8 rfl (by kernel_rfl) rfl rfl (fun _ _ _ _ _ h => h) rfl (.inr hS) ?_); try (first | ((with_reducible refine WD.topT ?_ ?_); omega) | ((with_reducible refine WD.topF ?_ ?_); omega) | ((with_reducible refine WD.top64 ?_ ?_); omega))); ((first | refine WD.free 9 rfl (by kernel_rfl) rfl rfl (fun _ _ _ _ _ h => h) rfl rfl (.inr hS) ?_ | refine WD.skip 9 rfl (by kernel_rfl) rfl rfl (fun _ _ _ _ _ h => h) rfl (.inr hS) ?_); try (first | ((with_reducible refine WD.topT ?_ ?_); omega) | ((with_reducible refine WD.topF ?_ ?_); omega) | ((with_reducible refine WD.top64 ?_ ?_); omega))); ((first | refine WD.free 10 rfl (by kernel_rfl) rfl rfl (fun _ _ _ _ _ h => h) rfl rfl (.inr hS) ?_ | refine WD.skip 10 rfl (by kernel_rfl) rfl rfl (fun _ _ _ _ _ h => h) rfl (.inr hS) ?_); try (first | ((with_reducible refine WD.topT ?_ ?_); omega) | ((with_reducible refine WD.topF ?_ ?_); omega) | ((with_reducible refine WD.top64 ?_ ?_); omega))))
  refine WD.idxA 11 (p.length + 1) (18 + (p.length + 1)) rfl (by kernel_rfl) rfl rfl (fun _ _ _ _ _ h => h) rfl rfl rfl rfl rfl rfl (by omega) (by omega) (.inr hS) ?_
  refine WD.load 12 [14] rfl (by kernel_rfl) rfl rfl (fun _ _ _ _ _ h => h) rfl rfl rfl rfl (fun wx hx => (heap_cell hx _).trans hkc) hS ?_
  (((first | refine WD.free 13 rfl (by kernel_rfl) rfl rfl (fun _ _ _ _ _ h => h) rfl rfl (.inr hS) ?_ | refine WD.skip 13 rfl (by kernel_rfl) rfl rfl (fun _ _ _ _ _ h => h) rfl (.inr hS) ?_); try (first | ((with_reducible refine WD.topT ?_ ?_); omega) | ((with_reducible refine WD.topF ?_ ?_); omega) | ((with_reducible refine WD.top64 ?_ ?_); omega))))
  refine WD.one 14 (by kernel_rfl) rfl ?_
  refine WL.pure rfl rfl rfl rfl ?_
  refine WL.nil (WQ.dk (.inl rfl) ?_)
  refine WD.done (by kernel_rfl) ?_
  clear hS hka hkc
  have hca := cntR va hla
  have hcc := cntR vc hlc
  repeat (first | refine WC.seq ?_ | refine WC.block ?_ | refine WC.region ?_ | refine WL.nil ?_ | refine WC.skip ?_ | refine WC.exit ?_ | refine WC.ret ?_ | refine WQ.then rfl ?_ | refine WQ.thenExit ?_ | refine WQ.thenRet ?_ | refine WQ.blk ?_ | refine WQ.blkRet ?_ | refine WQ.blkHere rfl ?_ | refine WQ.blkOther rfl ?_)
  refine WC.drawn 8 (fun wx => wx.heap = w1.heap) fun w2 hd => ?_
  have hS : w2.heap = w1.heap := hd.heap
  have hps := hps.step (hps.mem.below (hd.below _)) hps.no (Keep.ofDrew hd _) fun x hx => .inl hx
  replace vb := vb.below (hd.below _) vb.lt
  replace va := va.below (hd.below _) va.lt
  replace vc := vc.below (hd.below _) vc.lt
  replace hh := hh.below (hd.below _) hh.lt
  clear hd
  (((first | refine WD.free 0 rfl (by kernel_rfl) rfl rfl (fun _ _ _ _ _ h => h) rfl rfl (.inr hS) ?_ | refine WD.skip 0 rfl (by kernel_rfl) rfl rfl (fun _ _ _ _ _ h => h) rfl (.inr hS) ?_); try (first | ((with_reducible refine WD.topT ?_ ?_); omega) | ((with_reducible refine WD.topF ?_ ?_); omega) | ((with_reducible refine WD.top64 ?_ ?_); omega))); ((first | refine WD.free 1 rfl (by kernel_rfl) rfl rfl (fun _ _ _ _ _ h => h) rfl rfl (.inr hS) ?_ | refine WD.skip 1 rfl (by kernel_rfl) rfl rfl (fun _ _ _ _ _ h => h) rfl (.inr hS) ?_); try (first | ((with_reducible refine WD.topT ?_ ?_); omega) | ((with_reducible refine WD.topF ?_ ?_); omega) | ((with_reducible refine WD.top64 ?_ ?_); omega))); ((first | refine WD.free 2 rfl (by kernel_rfl) rfl rfl (fun _ _ _ _ _ h => h) rfl rfl (.inr hS) ?_ | refine WD.skip 2 rfl (by kernel_rfl) rfl rfl (fun _ _ _ _ _ h => h) rfl (.inr hS) ?_); try (first | ((with_reducible refine WD.topT ?_ ?_); omega) | ((with_reducible refine WD.topF ?_ ?_); omega) | ((with_reducible refine WD.top64 ?_ ?_); omega))))
  refine WD.load 3 [8, 9] rfl (by kernel_rfl) rfl rfl (fun _ _ _ _ _ h => h) rfl rfl rfl rfl (fun wx hx => (heap_cell hx _).trans hca) hS ?_
  (((first | refine WD.free 4 rfl (by kernel_rfl) rfl rfl (fun _ _ _ _ _ h => h) rfl rfl (.inr hS) ?_ | refine WD.skip 4 rfl (by kernel_rfl) rfl rfl (fun _ _ _ _ _ h => h) rfl (.inr hS) ?_); try (first | ((with_reducible refine WD.topT ?_ ?_); omega) | ((with_reducible refine WD.topF ?_ ?_); omega) | ((with_reducible refine WD.top64 ?_ ?_); omega))); ((first | refine WD.free 5 rfl (by kernel_rfl) rfl rfl (fun _ _ _ _ _ h => h) rfl rfl (.inr hS) ?_ | refine WD.skip 5 rfl (by kernel_rfl) rfl rfl (fun _ _ _ _ _ h => h) rfl (.inr hS) ?_); try (first | ((with_reducible refine WD.topT ?_ ?_); omega) | ((with_reducible refine WD.topF ?_ ?_); omega) | ((with_reducible refine WD.top64 ?_ ?_); omega))); ((first | refine WD.free 6 rfl (by kernel_rfl) rfl rfl (fun _ _ _ _ _ h => h) rfl rfl (.inr hS) ?_ | refine WD.skip 6 rfl (by kernel_rfl) rfl rfl (fun _ _ _ _ _ h => h) rfl (.inr hS) ?_); try (first | ((with_reducible refine WD.topT ?_ ?_); omega) | ((with_reducible refine WD.topF ?_ ?_); omega) | ((with_reducible refine WD.top64 ?_ ?_); omega))))
  refine WD.load 7 [8, 9] rfl (by kernel_rfl) rfl rfl (fun _ _ _ _ _ h => h) rfl rfl rfl rfl (fun wx hx => (heap_cell hx _).trans hcc) hS ?_
  refine WD.one 8 (by kernel_rfl) rfl ?_
  (refine WL.pure rfl rfl rfl rfl ?_; try (first | ((with_reducible refine WL.topT ?_ ?_); omega) | ((with_reducible refine WL.topF ?_ ?_); omega) | ((with_reducible refine WL.top64 ?_ ?_); omega)))
  refine WL.nil (WQ.dk (.inl rfl) ?_)
  clear hS hca hcc
  -- what is left to say
  have fin : ∀ {wz : World} {stz : St} {t' : Tr (d + 1)}, PS w st tb wz stz → CutR st stz (d + 1) (mkS b (p ++ a :: c :: q)) t' nx → (∀ x, stz x ≠ none → st x ≠ none) →
      ((A + C ≤ 8 ∧ t' = mkS b (p ++ jn d a c :: q) ∧ VBlk treeT wz tb (trC root size m)) ∨ (8 < A + C ∧ ∃ j, 4 ≤ j ∧ j ≤ 8 ∧ j + 4 ≤ A + C ∧ A + C ≤ j + 8 ∧ t' = mkS b (p ++ (rd j d a c).1 :: (rd j d a c).2 :: q) ∧ VBlk treeT wz tb (trC root size (m + 1)))) →
      ∃ st' t', CutR st st' (d + 1) (mkS b (p ++ a :: c :: q)) t' nx ∧ PS w st tb wz st' ∧ (∀ x, st' x ≠ none → st x ≠ none) ∧
      ((cnt d a + cnt d c ≤ 8 ∧ t' = mkS b (p ++ jn d a c :: q) ∧ VBlk treeT wz tb (trC root size m)) ∨ (8 < cnt d a + cnt d c ∧ ∃ j, 4 ≤ j ∧ j ≤ 8 ∧ j + 4 ≤ cnt d a + cnt d c ∧ cnt d a + cnt d c ≤ j + 8 ∧ t' = mkS b (p ++ (rd j d a c).1 :: (rd j d a c).2 :: q) ∧ VBlk treeT wz tb (trC root size (m + 1)))) := fun h1 h2 h3 h4 => ⟨_, _, h2, h1, h3, by rw [hA, hC]; exact h4⟩
  by_cases hsum : A + C ≤ 8
  · (((first | refine WD.free 9 rfl (by kernel_rfl) rfl rfl (fun _ _ _ _ _ h => h) rfl rfl (.inl rfl) ?_ | refine WD.skip 9 rfl (by kernel_rfl) rfl rfl (fun _ _ _ _ _ h => h) rfl (.inl rfl) ?_); try (first | ((with_reducible refine WD.topT ?_ ?_); omega) | ((with_reducible refine WD.topF ?_ ?_); omega) | ((with_reducible refine WD.top64 ?_ ?_); omega))))
    refine WD.done (by kernel_rfl) ?_
    repeat (first | ((with_reducible refine WL.topT ?_ ?_); omega) | ((with_reducible refine WL.topF ?_ ?_); omega) | ((with_reducible refine WL.top64 ?_ ?_); omega) | refine WC.seq ?_ | refine WC.block ?_ | refine WC.region ?_ | refine WL.nil ?_ | refine WC.skip ?_ | refine WC.exit ?_ | refine WC.ret ?_ | refine WQ.then rfl ?_ | refine WQ.thenExit ?_ | refine WQ.thenRet ?_ | refine WQ.blk ?_ | refine WQ.blkRet ?_ | refine WQ.blkHere rfl ?_ | refine WQ.blkOther rfl ?_ | refine WL.pure rfl rfl rfl rfl ?_ | refine WL.on rfl rfl ?_ | refine WL.off rfl rfl rfl ?_ | refine WC.condTrue rfl ?_ | refine WC.condFalse rfl ?_)
    refine WL.call rfl rfl rfl rfl rfl Try.func37 rfl (by kernel_rfl) (moves_any (f := 0) vc va hac.symm (Nat.zero_le _) (by show (ents d c).length ≤ 8; omega) (by show (ents d a).length + ((ents d c).length - 0) ≤ 8; omega)) ?_
    rintro _ w3 ⟨rfl, hk3, vc3, va3⟩
    refine ⟨_, rfl, ?_⟩
    simp only [List.take_zero, List.drop_zero] at vc3 va3
    have hps3 := hps.node2 (b := blk d c) (c := blk d a) (by rw [hsc]; simp) (by rw [hsa]; simp) hk3 (by simp) (by show (ents d a ++ ents d c).length ≤ 8; rw [List.length_append]; omega) vc3 va3
    have vb3 := vb.keep hk3 ⟨hbc, hba⟩
    have hh3 := hh.keep hk3 ⟨htc, hta⟩
    clear hps vb va vc hh hk3
    have hla3 : w3.cell? ⟨blk d a, 0, none⟩ = some (.bool (d == 0)) := cellR va3 (by omega)
    have join : ∀ {stz : St}, (∀ nxc, st (blk d c) = some ⟨d == 0, ents d c, nxc⟩ → stz (blk d a) = some ⟨d == 0, ents d a ++ ents d c, nxc⟩) → stz b = some ⟨false, (p ++ jn d a c :: q).map (kidE d), none⟩ → (∀ x, x ≠ b → x ≠ blk d a → x ≠ blk d c → stz x = st x) → CutR st stz (d + 1) (mkS b (p ++ a :: c :: q)) (mkS b (p ++ jn d a c :: q)) nx := fun h1 h2 h3 => CutR.join hat h1 h2 h3
    have hera := kids_era p q a c (jn d a c) (kidE_jn hma (by omega))
    repeat (first | ((with_reducible refine WL.topT ?_ ?_); omega) | ((with_reducible refine WL.topF ?_ ?_); omega) | ((with_reducible refine WL.top64 ?_ ?_); omega) | refine WC.seq ?_ | refine WC.block ?_ | refine WC.region ?_ | refine WL.nil ?_ | refine WC.skip ?_ | refine WC.exit ?_ | refine WC.ret ?_ | refine WQ.then rfl ?_ | refine WQ.thenExit ?_ | refine WQ.thenRet ?_ | refine WQ.blk ?_ | refine WQ.blkRet ?_ | refine WQ.blkHere rfl ?_ | refine WQ.blkOther rfl ?_ | refine WL.pure rfl rfl rfl rfl ?_ | refine WL.on rfl rfl ?_ | refine WL.off rfl rfl rfl ?_ | refine WL.load rfl rfl rfl rfl rfl rfl (by assumption) ?_ | refine WC.condTrue rfl ?_ | refine WC.condFalse rfl ?_)
    refine WC.mid (fun _ : Unit => [(0, .pointer (some ⟨tb, 0, none⟩)), (1, .pointer (some ⟨b, 0, none⟩)), (2, .int .i64 p.length)]) (fun _ w' => ∃ stz, PS w st tb w' stz ∧ (∀ nxc, st (blk d c) = some ⟨d == 0, ents d c, nxc⟩ → stz (blk d a) = some ⟨d == 0, ents d a ++ ents d c, nxc⟩) ∧ (∀ x, x ≠ blk d a → x ≠ blk d c → stz x = st x) ∧ (∀ x, stz x ≠ none → st x ≠ none) ∧ VBlk treeT w' tb (trC root size (m + 1))) rfl ?_ ?_
    · have hd3 : ∀ (v : Option Nat) x, upd (upd st (blk d c) ⟨d == 0, [], nxc⟩) (blk d a) ⟨d == 0, ents d a ++ ents d c, v⟩ x ≠ none → st x ≠ none := fun v x hx => by
        by_cases e : x = blk d a
        · rw [e, hsa]; simp
        · rw [upd_ne e] at hx
          by_cases e2 : x = blk d c
          · rw [e2, hsc]; simp
          · rw [upd_ne e2] at hx; exact hx
      have hr3 : ∀ (v : Option Nat) x, x ≠ blk d a → x ≠ blk d c → upd (upd st (blk d c) ⟨d == 0, [], nxc⟩) (blk d a) ⟨d == 0, ents d a ++ ents d c, v⟩ x = st x := fun v x h1 h2 => by rw [upd_ne h1, upd_ne h2]
      cases d with
      | succ d =>
        refine WC.condFalse rfl ?_
        repeat (first | ((with_reducible refine WL.topT ?_ ?_); omega) | ((with_reducible refine WL.topF ?_ ?_); omega) | ((with_reducible refine WL.top64 ?_ ?_); omega) | refine WC.seq ?_ | refine WC.block ?_ | refine WC.region ?_ | refine WL.nil ?_ | refine WC.skip ?_ | refine WC.exit ?_ | refine WC.ret ?_ | refine WQ.then rfl ?_ | refine WQ.thenExit ?_ | refine WQ.thenRet ?_ | refine WQ.blk ?_ | refine WQ.blkRet ?_ | refine WQ.blkHere rfl ?_ | refine WQ.blkOther rfl ?_ | refine WL.pure rfl rfl rfl rfl ?_ | refine WL.on rfl rfl ?_ | refine WL.off rfl rfl rfl ?_ | refine WC.condTrue rfl ?_ | refine WC.condFalse rfl ?_)
        refine WQ.meet () ⟨rfl, rfl, rfl, trivial⟩ ⟨_, hps3, fun nxc' hx => ?_, hr3 _, hd3 _, hh3⟩
        rw [hsc] at hx
        injection hx with hx; injection hx with _ _ hx
        rw [upd_eq, ← hx, hxa (by omega), hxc (by omega)]
      | zero =>
        have hcn : w3.cell? ⟨blk 0 c, 26, none⟩ = some (ptrV nxc) := cellR vc3 (by omega)
        refine WC.condTrue rfl ?_
        repeat (first | ((with_reducible refine WL.topT ?_ ?_); omega) | ((with_reducible refine WL.topF ?_ ?_); omega) | ((with_reducible refine WL.top64 ?_ ?_); omega) | refine WC.seq ?_ | refine WC.block ?_ | refine WC.region ?_ | refine WL.nil ?_ | refine WC.skip ?_ | refine WC.exit ?_ | refine WC.ret ?_ | refine WQ.then rfl ?_ | refine WQ.thenExit ?_ | refine WQ.thenRet ?_ | refine WQ.blk ?_ | refine WQ.blkRet ?_ | refine WQ.blkHere rfl ?_ | refine WQ.blkOther rfl ?_ | refine WL.pure rfl rfl rfl rfl ?_ | refine WL.on rfl rfl ?_ | refine WL.off rfl rfl rfl ?_ | refine WL.load rfl rfl rfl rfl rfl rfl (by assumption) ?_ | refine WC.condTrue rfl ?_ | refine WC.condFalse rfl ?_)
        refine WL.store rfl rfl rfl rfl rfl (ptrV_one _) (by kernel_rfl) (cellR va3 (by omega)) (va3.free 26) ?_
        have va4 := setR va3 26 (ptrV nxc)
        rw [row_next] at va4
        have k4 : Keep (fun x => x ≠ blk 0 a) w3 (w3.setCell ⟨blk 0 a, 26, none⟩ (ptrV nxc)) := (Keep.refl _ _).setCell (fun hk => hk rfl) _
        have hps4 := hps3.node (b := blk 0 a) (by rw [upd_eq]; simp) k4 (by show (ents 0 a ++ ents 0 c).length ≤ 8; rw [List.length_append]; omega) va4
        rw [upd_upd] at hps4
        have hh4 := hh3.keep k4 hta
        generalize w3.setCell ⟨blk 0 a, 26, none⟩ (ptrV nxc) = w4 at va4 k4 hps4 hh4 ⊢
        clear hcn va3 hps3 hh3 hla3 k4
        have han : w4.cell? ⟨blk 0 a, 26, none⟩ = some (ptrV nxc) := cellR va4 (by omega)
        have hok : ∀ nxc', st (blk 0 c) = some ⟨(0 : Nat) == 0, ents 0 c, nxc'⟩ → upd (upd st (blk 0 c) ⟨(0 : Nat) == 0, [], nxc⟩) (blk 0 a) ⟨(0 : Nat) == 0, ents 0 a ++ ents 0 c, nxc⟩ (blk 0 a) = some ⟨(0 : Nat) == 0, ents 0 a ++ ents 0 c, nxc'⟩ := fun nxc' hx => by
          rw [hsc] at hx
          injection hx with hx; injection hx with _ _ hx
          rw [upd_eq, hx]
        have hvq := hval _ hsc
        simp only at hvq
        repeat (first | ((with_reducible refine WL.topT ?_ ?_); omega) | ((with_reducible refine WL.topF ?_ ?_); omega) | ((with_reducible refine WL.top64 ?_ ?_); omega) | refine WC.seq ?_ | refine WC.block ?_ | refine WC.region ?_ | refine WL.nil ?_ | refine WC.skip ?_ | refine WC.exit ?_ | refine WC.ret ?_ | refine WQ.then rfl ?_ | refine WQ.thenExit ?_ | refine WQ.thenRet ?_ | refine WQ.blk ?_ | refine WQ.blkRet ?_ | refine WQ.blkHere rfl ?_ | refine WQ.blkOther rfl ?_ | refine WL.pure rfl rfl rfl rfl ?_ | refine WL.on rfl rfl ?_ | refine WL.off rfl rfl rfl ?_ | refine WL.load rfl rfl rfl rfl rfl rfl (by assumption) ?_ | refine WC.condTrue rfl ?_ | refine WC.condFalse rfl ?_)
        cases nxc with
        | none =>
          refine WL.as 49 (.pointer none) rfl rfl ?_
          refine WL.notNilP rfl rfl rfl rfl rfl rfl (by kernel_rfl) ?_
          repeat (first | ((with_reducible refine WL.topT ?_ ?_); omega) | ((with_reducible refine WL.topF ?_ ?_); omega) | ((with_reducible refine WL.top64 ?_ ?_); omega) | refine WC.seq ?_ | refine WC.block ?_ | refine WC.region ?_ | refine WL.nil ?_ | refine WC.skip ?_ | refine WC.exit ?_ | refine WC.ret ?_ | refine WQ.then rfl ?_ | refine WQ.thenExit ?_ | refine WQ.thenRet ?_ | refine WQ.blk ?_ | refine WQ.blkRet ?_ | refine WQ.blkHere rfl ?_ | refine WQ.blkOther rfl ?_ | refine WL.pure rfl rfl rfl rfl ?_ | refine WL.on rfl rfl ?_ | refine WL.off rfl rfl rfl ?_ | refine WC.condTrue rfl ?_ | refine WC.condFalse rfl ?_)
          exact WQ.meet () ⟨rfl, rfl, rfl, trivial⟩ ⟨_, hps4, hok, hr3 _, hd3 _, hh4⟩
        | some q0 =>
          have hq := hvq q0 rfl
          have hq4 : upd (upd st (blk 0 c) ⟨(0 : Nat) == 0, [], some q0⟩) (blk 0 a) ⟨(0 : Nat) == 0, ents 0 a ++ ents 0 c, some q0⟩ q0 ≠ none := by
            unfold upd
            split
            · simp
            · split
              · simp
              · exact hq
          obtain ⟨ndq, hndq⟩ := Option.ne_none_iff_exists'.1 hq4
          obtain ⟨-, pq, vq⟩ := hps4.mem q0 ndq hndq
          have hqt : tb ≠ q0 := fun e => hq (by rw [← e]; exact hno)
          have han' : w4.cell? ⟨blk 0 a, 26, none⟩ = some (.pointer (some ⟨q0, 0, none⟩)) := han
          clear han
          refine WL.as 49 (.pointer (some ⟨q0, 0, none⟩)) rfl rfl ?_
          refine WL.notNilP rfl rfl rfl rfl rfl rfl (by kernel_rfl) ?_
          repeat (first | ((with_reducible refine WL.topT ?_ ?_); omega) | ((with_reducible refine WL.topF ?_ ?_); omega) | ((with_reducible refine WL.top64 ?_ ?_); omega) | refine WC.seq ?_ | refine WC.block ?_ | refine WC.region ?_ | refine WL.nil ?_ | refine WC.skip ?_ | refine WC.exit ?_ | refine WC.ret ?_ | refine WQ.then rfl ?_ | refine WQ.thenExit ?_ | refine WQ.thenRet ?_ | refine WQ.blk ?_ | refine WQ.blkRet ?_ | refine WQ.blkHere rfl ?_ | refine WQ.blkOther rfl ?_ | refine WL.pure rfl rfl rfl rfl ?_ | refine WL.on rfl rfl ?_ | refine WL.off rfl rfl rfl ?_ | refine WL.load rfl rfl rfl rfl rfl rfl (by assumption) ?_ | refine WC.condTrue rfl ?_ | refine WC.condFalse rfl ?_)
          refine WL.store rfl rfl rfl rfl rfl rfl (by kernel_rfl) (cellR vq (by omega)) (vq.free 27) ?_
          have hps5 := hps4.prev hq4 (some (blk 0 a))
          have hh5 := hh4.keep (Keep.setCell (Keep.refl (fun x => x ≠ q0) w4) (p := ⟨q0, 27, none⟩) (fun hk => hk rfl) (ptrV (some (blk 0 a)))) hqt
          rw [show Value.pointer (some ⟨blk 0 a, 0, none⟩) = ptrV (some (blk 0 a)) from rfl]
          generalize w4.setCell ⟨q0, 27, none⟩ (ptrV (some (blk 0 a))) = w5 at hps5 hh5 ⊢
          repeat (first | ((with_reducible refine WL.topT ?_ ?_); omega) | ((with_reducible refine WL.topF ?_ ?_); omega) | ((with_reducible refine WL.top64 ?_ ?_); omega) | refine WC.seq ?_ | refine WC.block ?_ | refine WC.region ?_ | refine WL.nil ?_ | refine WC.skip ?_ | refine WC.exit ?_ | refine WC.ret ?_ | refine WQ.then rfl ?_ | refine WQ.thenExit ?_ | refine WQ.thenRet ?_ | refine WQ.blk ?_ | refine WQ.blkRet ?_ | refine WQ.blkHere rfl ?_ | refine WQ.blkOther rfl ?_ | refine WL.pure rfl rfl rfl rfl ?_ | refine WL.on rfl rfl ?_ | refine WL.off rfl rfl rfl ?_ | refine WC.condTrue rfl ?_ | refine WC.condFalse rfl ?_)
          exact WQ.meet () ⟨rfl, rfl, rfl, trivial⟩ ⟨_, hps5, hok, hr3 _, hd3 _, hh5⟩
    clear hps3 vc3 va3 vb3 hh3 hla3
    rintro ⟨⟩ w5 ⟨stz, hps5, h1, h2, h3, hh5⟩
    have hbz : stz b = some ⟨false, (p ++ a :: c :: q).map (kidE d), none⟩ := (h2 b hba hbc).trans hb
    obtain ⟨-, pb5, vb5⟩ := hps5.mem _ _ hbz
    repeat (first | ((with_reducible refine WL.topT ?_ ?_); omega) | ((with_reducible refine WL.topF ?_ ?_); omega) | ((with_reducible refine WL.top64 ?_ ?_); omega) | refine WC.seq ?_ | refine WC.block ?_ | refine WC.region ?_ | refine WL.nil ?_ | refine WC.skip ?_ | refine WC.exit ?_ | refine WC.ret ?_ | refine WQ.then rfl ?_ | refine WQ.thenExit ?_ | refine WQ.thenRet ?_ | refine WQ.blk ?_ | refine WQ.blkRet ?_ | refine WQ.blkHere rfl ?_ | refine WQ.blkOther rfl ?_ | refine WL.pure rfl rfl rfl rfl ?_ | refine WL.on rfl rfl ?_ | refine WL.off rfl rfl rfl ?_ | refine WC.condTrue rfl ?_ | refine WC.condFalse rfl ?_)
    refine WL.as 60 (.int .i64 ((p.length + 1 : Nat) : Int)) rfl rfl ?_
    refine WL.call rfl rfl rfl rfl rfl Try.func38 rfl (by kernel_rfl) (ncut_any (i := p.length + 1) vb5 (by show p.length + 1 < ((p ++ a :: c :: q).map (kidE d)).length; rw [hml]; simp) (by show ((p ++ a :: c :: q).map (kidE d)).length ≤ 8; rw [hml]; exact hlen)) ?_
    rintro _ w6 ⟨rfl, hk6, vb6⟩
    refine ⟨_, rfl, ?_⟩
    simp only [hera] at vb6
    have hps6 := hps5.node (b := b) (by rw [hbz]; simp) hk6 (by show ((p ++ jn d a c :: q).map (kidE d)).length ≤ 8; rw [hml]; simp only [List.length_append, List.length_cons] at hlen ⊢; omega) vb6
    have hh6 := hh5.keep hk6 htb
    have hc6 : w6.cell? ⟨tb, 2, none⟩ = some (.int .i64 ((m + 1 : Nat) : Int)) := hh6.cell 2 (by simp [trC])
    have hcut := join (stz := upd stz b ⟨false, (p ++ jn d a c :: q).map (kidE d), none⟩) (fun nxc' hx => by rw [upd_ne hba.symm]; exact h1 nxc' hx) (upd_eq _ _ _) (fun x hx1 hx2 hx3 => by rw [upd_ne hx1]; exact h2 x hx2 hx3)
    repeat (first | ((with_reducible refine WL.topT ?_ ?_); omega) | ((with_reducible refine WL.topF ?_ ?_); omega) | ((with_reducible refine WL.top64 ?_ ?_); omega) | refine WC.seq ?_ | refine WC.block ?_ | refine WC.region ?_ | refine WL.nil ?_ | refine WC.skip ?_ | refine WC.exit ?_ | refine WC.ret ?_ | refine WQ.then rfl ?_ | refine WQ.thenExit ?_ | refine WQ.thenRet ?_ | refine WQ.blk ?_ | refine WQ.blkRet ?_ | refine WQ.blkHere rfl ?_ | refine WQ.blkOther rfl ?_ | refine WL.pure rfl rfl rfl rfl ?_ | refine WL.on rfl rfl ?_ | refine WL.off rfl rfl rfl ?_ | refine WL.load rfl rfl rfl rfl rfl rfl (by assumption) ?_ | refine WC.condTrue rfl ?_ | refine WC.condFalse rfl ?_)
    refine WL.store rfl rfl rfl rfl rfl rfl (by kernel_rfl) hc6 (hh6.free 2) ?_
    have hh7 : VBlk treeT (w6.setCell ⟨tb, 2, none⟩ (.int .i64 (((m + 1 : Nat) : Int) - 1))) tb (trC root size m) := by
      have := hh6.set 2 (.int .i64 (((m + 1 : Nat) : Int) - 1))
      rw [show (((m + 1 : Nat) : Int) - 1) = (m : Int) by omega] at this ⊢
      exact this
    have hps7 := hps6.hdr 2 (.int .i64 (((m + 1 : Nat) : Int) - 1))
    generalize w6.setCell ⟨tb, 2, none⟩ (.int .i64 (((m + 1 : Nat) : Int) - 1)) = w7 at hps7 hh7 ⊢
    repeat (first | ((with_reducible refine WL.topT ?_ ?_); omega) | ((with_reducible refine WL.topF ?_ ?_); omega) | ((with_reducible refine WL.top64 ?_ ?_); omega) | refine WC.seq ?_ | refine WC.block ?_ | refine WC.region ?_ | refine WL.nil ?_ | refine WC.skip ?_ | refine WC.exit ?_ | refine WC.ret ?_ | refine WQ.then rfl ?_ | refine WQ.thenExit ?_ | refine WQ.thenRet ?_ | refine WQ.blk ?_ | refine WQ.blkRet ?_ | refine WQ.blkHere rfl ?_ | refine WQ.blkOther rfl ?_ | refine WL.pure rfl rfl rfl rfl ?_ | refine WL.on rfl rfl ?_ | refine WL.off rfl rfl rfl ?_ | refine WC.condTrue rfl ?_ | refine WC.condFalse rfl ?_)
    refine WQ.ret0 rfl ⟨rfl, fin hps7 hcut (fun x hx => ?_) (.inl ⟨hsum, rfl, hh7⟩)⟩
    by_cases e : x = b
    · rw [e, hb]; simp
    · rw [upd_ne e] at hx; exact h3 x hx
  · (((first | refine WD.free 9 rfl (by kernel_rfl) rfl rfl (fun _ _ _ _ _ h => h) rfl rfl (.inl rfl) ?_ | refine WD.skip 9 rfl (by kernel_rfl) rfl rfl (fun _ _ _ _ _ h => h) rfl (.inl rfl) ?_); try (first | ((with_reducible refine WD.topT ?_ ?_); omega) | ((with_reducible refine WD.topF ?_ ?_); omega) | ((with_reducible refine WD.top64 ?_ ?_); omega))))
    refine WD.done (by kernel_rfl) ?_
    have hca := cntR va hla
    have hcc := cntR vc hlc
    repeat (first | ((with_reducible refine WL.topT ?_ ?_); omega) | ((with_reducible refine WL.topF ?_ ?_); omega) | ((with_reducible refine WL.top64 ?_ ?_); omega) | refine WC.seq ?_ | refine WC.block ?_ | refine WC.region ?_ | refine WL.nil ?_ | refine WC.skip ?_ | refine WC.exit ?_ | refine WC.ret ?_ | refine WQ.then rfl ?_ | refine WQ.thenExit ?_ | refine WQ.thenRet ?_ | refine WQ.blk ?_ | refine WQ.blkRet ?_ | refine WQ.blkHere rfl ?_ | refine WQ.blkOther rfl ?_ | refine WL.pure rfl rfl rfl rfl ?_ | refine WL.on rfl rfl ?_ | refine WL.off rfl rfl rfl ?_ | refine WC.condTrue rfl ?_ | refine WC.condFalse rfl ?_)
    refine WC.drawn 8 (fun wx => wx.heap = w2.heap) fun w3 hd => ?_
    have hS : w3.heap = w2.heap := hd.heap
    have hps := hps.step (hps.mem.below (hd.below _)) hps.no (Keep.ofDrew hd _) fun x hx => .inl hx
    replace vb := vb.below (hd.below _) vb.lt
    replace va := va.below (hd.below _) va.lt
    replace vc := vc.below (hd.below _) vc.lt
    replace hh := hh.below (hd.below _) hh.lt
    clear hd
    (((first | refine WD.free 0 rfl (by kernel_rfl) rfl rfl (fun _ _ _ _ _ h => h) rfl rfl (.inr hS) ?_ | refine WD.skip 0 rfl (by kernel_rfl) rfl rfl (fun _ _ _ _ _ h => h) rfl (.inr hS) ?_); try (first | ((with_reducible refine WD.topT ?_ ?_); omega) | ((with_reducible refine WD.topF ?_ ?_); omega) | ((with_reducible refine WD.top64 ?_ ?_); omega))); ((first | refine WD.free 1 rfl (by kernel_rfl) rfl rfl (fun _ _ _ _ _ h => h) rfl rfl (.inr hS) ?_ | refine WD.skip 1 rfl (by kernel_rfl) rfl rfl (fun _ _ _ _ _ h => h) rfl (.inr hS) ?_); try (first | ((with_reducible refine WD.topT ?_ ?_); omega) | ((with_reducible refine WD.topF ?_ ?_); omega) | ((with_reducible refine WD.top64 ?_ ?_); omega))); ((first | refine WD.free 2 rfl (by kernel_rfl) rfl rfl (fun _ _ _ _ _ h => h) rfl rfl (.inr hS) ?_ | refine WD.skip 2 rfl (by kernel_rfl) rfl rfl (fun _ _ _ _ _ h => h) rfl (.inr hS) ?_); try (first | ((with_reducible refine WD.topT ?_ ?_); omega) | ((with_reducible refine WD.topF ?_ ?_); omega) | ((with_reducible refine WD.top64 ?_ ?_); omega))))
    refine WD.load 3 [8] rfl (by kernel_rfl) rfl rfl (fun _ _ _ _ _ h => h) rfl rfl rfl rfl (fun wx hx => (heap_cell hx _).trans hca) hS ?_
    (((first | refine WD.free 4 rfl (by kernel_rfl) rfl rfl (fun _ _ _ _ _ h => h) rfl rfl (.inr hS) ?_ | refine WD.skip 4 rfl (by kernel_rfl) rfl rfl (fun _ _ _ _ _ h => h) rfl (.inr hS) ?_); try (first | ((with_reducible refine WD.topT ?_ ?_); omega) | ((with_reducible refine WD.topF ?_ ?_); omega) | ((with_reducible refine WD.top64 ?_ ?_); omega))); ((first | refine WD.free 5 rfl (by kernel_rfl) rfl rfl (fun _ _ _ _ _ h => h) rfl rfl (.inr hS) ?_ | refine WD.skip 5 rfl (by kernel_rfl) rfl rfl (fun _ _ _ _ _ h => h) rfl (.inr hS) ?_); try (first | ((with_reducible refine WD.topT ?_ ?_); omega) | ((with_reducible refine WD.topF ?_ ?_); omega) | ((with_reducible refine WD.top64 ?_ ?_); omega))); ((first | refine WD.free 6 rfl (by kernel_rfl) rfl rfl (fun _ _ _ _ _ h => h) rfl rfl (.inr hS) ?_ | refine WD.skip 6 rfl (by kernel_rfl) rfl rfl (fun _ _ _ _ _ h => h) rfl (.inr hS) ?_); try (first | ((with_reducible refine WD.topT ?_ ?_); omega) | ((with_reducible refine WD.topF ?_ ?_); omega) | ((with_reducible refine WD.top64 ?_ ?_); omega))))
    refine WD.load 7 [8] rfl (by kernel_rfl) rfl rfl (fun _ _ _ _ _ h => h) rfl rfl rfl rfl (fun wx hx => (heap_cell hx _).trans hcc) hS ?_
    refine WD.one 8 (by kernel_rfl) rfl ?_
    refine WL.pure rfl rfl rfl rfl ?_
    refine WL.nil (WQ.dk (.inl rfl) ?_)
    refine WD.done (by kernel_rfl) ?_
    clear hS hca hcc
    repeat (first | refine WC.seq ?_ | refine WC.block ?_ | refine WC.region ?_ | refine WL.nil ?_ | refine WC.skip ?_ | refine WC.exit ?_ | refine WC.ret ?_ | refine WQ.then rfl ?_ | refine WQ.thenExit ?_ | refine WQ.thenRet ?_ | refine WQ.blk ?_ | refine WQ.blkRet ?_ | refine WQ.blkHere rfl ?_ | refine WQ.blkOther rfl ?_)
    refine WC.mid (fun _ : Unit => [(0, .pointer (some ⟨tb, 0, none⟩)), (1, .pointer (some ⟨b, 0, none⟩)), (2, .int .i64 p.length), (7, .pointer (some ⟨blk d c, 0, none⟩))])
      (fun _ w' => ∃ j, 4 ≤ j ∧ j ≤ 8 ∧ j + 4 ≤ A + C ∧ A + C ≤ j + 8 ∧ PS w st tb w' (upd (upd st (blk d a) ⟨d == 0, (ents d a ++ ents d c).take j, nxa⟩) (blk d c) ⟨d == 0, (ents d a ++ ents d c).drop j, nxc⟩) ∧ VBlk treeT w' tb (trC root size (m + 1))) rfl ?_ ?_
    · by_cases hlt : A < C
      · refine WC.condT rfl (by omega) ?_
        obtain ⟨e1, e2⟩ := sh1 (ents d a) (ents d c) hla (by omega)
        have q0 := cntR va hla
        have q1 := keyR vc (i := 0) (by omega)
        have q2 := numR vc (i := 0) (by omega)
        have q3 : w3.cell? ⟨blk d c, 18, none⟩ = some (ptrV ((ents d c).getD 0 noE).kid) := by rw [cellR vc (j := 18) (by omega), ndF_kid _ _ (i := 0) (by omega)]
        repeat (first | ((with_reducible refine WL.topT ?_ ?_); omega) | ((with_reducible refine WL.topF ?_ ?_); omega) | ((with_reducible refine WL.top64 ?_ ?_); omega) | refine WC.seq ?_ | refine WC.block ?_ | refine WC.region ?_ | refine WL.nil ?_ | refine WC.skip ?_ | refine WC.exit ?_ | refine WC.ret ?_ | refine WQ.then rfl ?_ | refine WQ.thenExit ?_ | refine WQ.thenRet ?_ | refine WQ.blk ?_ | refine WQ.blkRet ?_ | refine WQ.blkHere rfl ?_ | refine WQ.blkOther rfl ?_ | refine WL.pure rfl rfl rfl rfl ?_ | refine WL.on rfl rfl ?_ | refine WL.off rfl rfl rfl ?_ | refine WC.condTrue rfl ?_ | refine WC.condFalse rfl ?_)
        refine WC.drawn 20 (fun wx => wx.heap = w3.heap) fun w4 hd => ?_
        have hS : w4.heap = w3.heap := hd.heap
        have hps := hps.step (hps.mem.below (hd.below _)) hps.no (Keep.ofDrew hd _) fun x hx => .inl hx
        replace va := va.below (hd.below _) va.lt
        replace vc := vc.below (hd.below _) vc.lt
        replace hh := hh.below (hd.below _) hh.lt
        clear hd
        (((first | refine WD.free 0 rfl (by kernel_rfl) rfl rfl (fun _ _ _ _ _ h => h) rfl rfl (.inr hS) ?_ | refine WD.skip 0 rfl (by kernel_rfl) rfl rfl (fun _ _ _ _ _ h => h) rfl (.inr hS) ?_); try (first | ((with_reducible refine WD.topT ?_ ?_); omega) | ((with_reducible refine WD.topF ?_ ?_); omega) | ((with_reducible refine WD.top64 ?_ ?_); omega))); ((first | refine WD.free 1 rfl (by kernel_rfl) rfl rfl (fun _ _ _ _ _ h => h) rfl rfl (.inr hS) ?_ | refine WD.skip 1 rfl (by kernel_rfl) rfl rfl (fun _ _ _ _ _ h => h) rfl (.inr hS) ?_); try (first | ((with_reducible refine WD.topT ?_ ?_); omega) | ((with_reducible refine WD.topF ?_ ?_); omega) | ((with_reducible refine WD.top64 ?_ ?_); omega))); ((first | refine WD.free 2 rfl (by kernel_rfl) rfl rfl (fun _ _ _ _ _ h => h) rfl rfl (.inr hS) ?_ | refine WD.skip 2 rfl (by kernel_rfl) rfl rfl (fun _ _ _ _ _ h => h) rfl (.inr hS) ?_); try (first | ((with_reducible refine WD.topT ?_ ?_); omega) | ((with_reducible refine WD.topF ?_ ?_); omega) | ((with_reducible refine WD.top64 ?_ ?_); omega))); ((first | refine WD.free 3 rfl (by kernel_rfl) rfl rfl (fun _ _ _ _ _ h => h) rfl rfl (.inr hS) ?_ | refine WD.skip 3 rfl (by kernel_rfl) rfl rfl (fun _ _ _ _ _ h => h) rfl (.inr hS) ?_); try (first | ((with_reducible refine WD.topT ?_ ?_); omega) | ((with_reducible refine WD.topF ?_ ?_); omega) | ((with_reducible refine WD.top64 ?_ ?_); omega))))
        refine WD.load 4 [20] rfl (by kernel_rfl) rfl rfl (fun _ _ _ _ _ h => h) rfl rfl rfl rfl (fun wx hx => (heap_cell hx _).trans q0) hS ?_
        (((first | refine WD.free 5 rfl (by kernel_rfl) rfl rfl (fun _ _ _ _ _ h => h) rfl rfl (.inr hS) ?_ | refine WD.skip 5 rfl (by kernel_rfl) rfl rfl (fun _ _ _ _ _ h => h) rfl (.inr hS) ?_); try (first | ((with_reducible refine WD.topT ?_ ?_); omega) | ((with_reducible refine WD.topF ?_ ?_); omega) | ((with_reducible refine WD.top64 ?_ ?_); omega))); ((first | refine WD.free 6 rfl (by kernel_rfl) rfl rfl (fun _ _ _ _ _ h => h) rfl rfl (.inr hS) ?_ | refine WD.skip 6 rfl (by kernel_rfl) rfl rfl (fun _ _ _ _ _ h => h) rfl (.inr hS) ?_); try (first | ((with_reducible refine WD.topT ?_ ?_); omega) | ((with_reducible refine WD.topF ?_ ?_); omega) | ((with_reducible refine WD.top64 ?_ ?_); omega))); ((first | refine WD.free 7 rfl (by kernel_rfl) rfl rfl (fun _ _ _ _ _ h => h) rfl rfl (.inr hS) ?_ | refine WD.skip 7 rfl (by kernel_rfl) rfl rfl (fun _ _ _ _ _ h => h) rfl (.inr hS) ?_); try (first | ((with_reducible refine WD.topT ?_ ?_); omega) | ((with_reducible refine WD.topF ?_ ?_); omega) | ((with_reducible refine WD.top64 ?_ ?_); omega))))
        refine WD.idxA 8 0 2 rfl (by kernel_rfl) rfl rfl (fun _ _ _ _ _ h => h) rfl rfl rfl rfl rfl rfl (by omega) (by omega) (.inr hS) ?_
        refine WD.load 9 [20] rfl (by kernel_rfl) rfl rfl (fun _ _ _ _ _ h => h) rfl rfl rfl rfl (fun wx hx => (heap_cell hx _).trans q1) hS ?_
        (((first | refine WD.free 10 rfl (by kernel_rfl) rfl rfl (fun _ _ _ _ _ h => h) rfl rfl (.inr hS) ?_ | refine WD.skip 10 rfl (by kernel_rfl) rfl rfl (fun _ _ _ _ _ h => h) rfl (.inr hS) ?_); try (first | ((with_reducible refine WD.topT ?_ ?_); omega) | ((with_reducible refine WD.topF ?_ ?_); omega) | ((with_reducible refine WD.top64 ?_ ?_); omega))); ((first | refine WD.free 11 rfl (by kernel_rfl) rfl rfl (fun _ _ _ _ _ h => h) rfl rfl (.inr hS) ?_ | refine WD.skip 11 rfl (by kernel_rfl) rfl rfl (fun _ _ _ _ _ h => h) rfl (.inr hS) ?_); try (first | ((with_reducible refine WD.topT ?_ ?_); omega) | ((with_reducible refine WD.topF ?_ ?_); omega) | ((with_reducible refine WD.top64 ?_ ?_); omega))); ((first | refine WD.free 12 rfl (by kernel_rfl) rfl rfl (fun _ _ _ _ _ h => h) rfl rfl (.inr hS) ?_ | refine WD.skip 12 rfl (by kernel_rfl) rfl rfl (fun _ _ _ _ _ h => h) rfl (.inr hS) ?_); try (first | ((with_reducible refine WD.topT ?_ ?_); omega) | ((with_reducible refine WD.topF ?_ ?_); omega) | ((with_reducible refine WD.top64 ?_ ?_); omega))))
        refine WD.idxA 13 0 10 rfl (by kernel_rfl) rfl rfl (fun _ _ _ _ _ h => h) rfl rfl rfl rfl rfl rfl (by omega) (by omega) (.inr hS) ?_
        refine WD.load 14 [20] rfl (by kernel_rfl) rfl rfl (fun _ _ _ _ _ h => h) rfl rfl rfl rfl (fun wx hx => (heap_cell hx _).trans q2) hS ?_
        (((first | refine WD.free 15 rfl (by kernel_rfl) rfl rfl (fun _ _ _ _ _ h => h) rfl rfl (.inr hS) ?_ | refine WD.skip 15 rfl (by kernel_rfl) rfl rfl (fun _ _ _ _ _ h => h) rfl (.inr hS) ?_); try (first | ((with_reducible refine WD.topT ?_ ?_); omega) | ((with_reducible refine WD.topF ?_ ?_); omega) | ((with_reducible refine WD.top64 ?_ ?_); omega))); ((first | refine WD.free 16 rfl (by kernel_rfl) rfl rfl (fun _ _ _ _ _ h => h) rfl rfl (.inr hS) ?_ | refine WD.skip 16 rfl (by kernel_rfl) rfl rfl (fun _ _ _ _ _ h => h) rfl (.inr hS) ?_); try (first | ((with_reducible refine WD.topT ?_ ?_); omega) | ((with_reducible refine WD.topF ?_ ?_); omega) | ((with_reducible refine WD.top64 ?_ ?_); omega))); ((first | refine WD.free 17 rfl (by kernel_rfl) rfl rfl (fun _ _ _ _ _ h => h) rfl rfl (.inr hS) ?_ | refine WD.skip 17 rfl (by kernel_rfl) rfl rfl (fun _ _ _ _ _ h => h) rfl (.inr hS) ?_); try (first | ((with_reducible refine WD.topT ?_ ?_); omega) | ((with_reducible refine WD.topF ?_ ?_); omega) | ((with_reducible refine WD.top64 ?_ ?_); omega))))
        refine WD.idxA 18 0 18 rfl (by kernel_rfl) rfl rfl (fun _ _ _ _ _ h => h) rfl rfl rfl rfl rfl rfl (by omega) (by omega) (.inr hS) ?_
        refine WD.load 19 [20] rfl (by kernel_rfl) rfl rfl (fun _ _ _ _ _ h => h) rfl rfl rfl rfl (fun wx hx => (heap_cell hx _).trans q3) hS ?_
        refine WD.one 20 (by kernel_rfl) rfl ?_
        refine WL.call rfl rfl rfl rfl rfl Try.func24 rfl (by kernel_rfl) (nput_any (i := A) (n := ((ents d c).getD 0 noE).num) (kid := ((ents d c).getD 0 noE).kid) va (by show A ≤ (ents d a).length; omega) (by show (ents d a).length < 8; omega)) ?_
        rintro _ w5 ⟨rfl, hk5, va5⟩
        refine ⟨_, rfl, ?_⟩
        have hin : ins (ents d a) A ⟨((ents d c).getD 0 noE).key, ((ents d c).getD 0 noE).num, ((ents d c).getD 0 noE).kid⟩ = (ents d a ++ ents d c).take (A + 1) := by rw [e1, ← hla, ins_end]
        simp only at va5
        rw [hin] at va5
        have hlt1 : ((ents d a ++ ents d c).take (A + 1)).length ≤ 8 := by rw [List.length_take, List.length_append]; omega
        have hps5 := hps.node (b := blk d a) (by rw [hsa]; simp) hk5 hlt1 va5
        have vc5 := vc.keep hk5 hac.symm
        have hh5 := hh.keep hk5 hta
        refine WL.nil (WQ.dk (.inl rfl) ?_)
        refine WD.done (by kernel_rfl) ?_
        repeat (first | ((with_reducible refine WL.topT ?_ ?_); omega) | ((with_reducible refine WL.topF ?_ ?_); omega) | ((with_reducible refine WL.top64 ?_ ?_); omega) | refine WC.seq ?_ | refine WC.block ?_ | refine WC.region ?_ | refine WL.nil ?_ | refine WC.skip ?_ | refine WC.exit ?_ | refine WC.ret ?_ | refine WQ.then rfl ?_ | refine WQ.thenExit ?_ | refine WQ.thenRet ?_ | refine WQ.blk ?_ | refine WQ.blkRet ?_ | refine WQ.blkHere rfl ?_ | refine WQ.blkOther rfl ?_ | refine WL.pure rfl rfl rfl rfl ?_ | refine WL.on rfl rfl ?_ | refine WL.off rfl rfl rfl ?_ | refine WC.condTrue rfl ?_ | refine WC.condFalse rfl ?_)
        refine WL.call rfl rfl rfl rfl rfl Try.func38 rfl (by kernel_rfl) (ncut_any (i := 0) vc5 (by show 0 < (ents d c).length; omega) (by show (ents d c).length ≤ 8; omega)) ?_
        rintro _ w6 ⟨rfl, hk6, vc6⟩
        refine ⟨_, rfl, ?_⟩
        simp only at vc6
        rw [← e2] at vc6
        have hps6 := hps5.node (b := blk d c) (by rw [upd_ne hac.symm, hsc]; simp) hk6 (by show ((ents d a ++ ents d c).drop (A + 1)).length ≤ 8; rw [List.length_drop, List.length_append]; omega) vc6
        have hh6 := hh5.keep hk6 htc
        repeat (first | ((with_reducible refine WL.topT ?_ ?_); omega) | ((with_reducible refine WL.topF ?_ ?_); omega) | ((with_reducible refine WL.top64 ?_ ?_); omega) | refine WC.seq ?_ | refine WC.block ?_ | refine WC.region ?_ | refine WL.nil ?_ | refine WC.skip ?_ | refine WC.exit ?_ | refine WC.ret ?_ | refine WQ.then rfl ?_ | refine WQ.thenExit ?_ | refine WQ.thenRet ?_ | refine WQ.blk ?_ | refine WQ.blkRet ?_ | refine WQ.blkHere rfl ?_ | refine WQ.blkOther rfl ?_ | refine WL.pure rfl rfl rfl rfl ?_ | refine WL.on rfl rfl ?_ | refine WL.off rfl rfl rfl ?_ | refine WC.condTrue rfl ?_ | refine WC.condFalse rfl ?_)
        exact WQ.meet () ⟨rfl, rfl, rfl, rfl, trivial⟩ ⟨A + 1, by omega, by omega, by omega, by omega, hps6, hh6⟩
      · refine WC.condF rfl (by omega) ?_
        obtain ⟨A', rfl⟩ : ∃ A', A = A' + 1 := ⟨A - 1, by omega⟩
        obtain ⟨e1, e2⟩ := sh2 (ents d a) (ents d c) hla
        have hw1 : ((A' + 1 : Nat) : Int) - 1 = A' := by omega
        have q0 := cntR va hla
        have q1 := keyR va (i := A') (by omega)
        have q2 := numR va (i := A') (by omega)
        have q3 : w3.cell? ⟨blk d a, 18 + A', none⟩ = some (ptrV ((ents d a).getD A' noE).kid) := by rw [cellR va (j := 18 + A') (by omega), ndF_kid _ _ (i := A') (by omega)]
        repeat (first | ((with_reducible refine WL.topT ?_ ?_); omega) | ((with_reducible refine WL.topF ?_ ?_); omega) | ((with_reducible refine WL.top64 ?_ ?_); omega) | refine WC.seq ?_ | refine WC.block ?_ | refine WC.region ?_ | refine WL.nil ?_ | refine WC.skip ?_ | refine WC.exit ?_ | refine WC.ret ?_ | refine WQ.then rfl ?_ | refine WQ.thenExit ?_ | refine WQ.thenRet ?_ | refine WQ.blk ?_ | refine WQ.blkRet ?_ | refine WQ.blkHere rfl ?_ | refine WQ.blkOther rfl ?_ | refine WL.pure rfl rfl rfl rfl ?_ | refine WL.on rfl rfl ?_ | refine WL.off rfl rfl rfl ?_ | refine WL.load rfl rfl rfl rfl rfl rfl (by assumption) ?_ | refine WC.condTrue rfl ?_ | refine WC.condFalse rfl ?_)
        refine WC.as 8 (.int .i64 A') rfl (congrArg (Value.int .i64) hw1) ?_
        refine WC.drawn 19 (fun wx => wx.heap = w3.heap) fun w4 hd => ?_
        have hS : w4.heap = w3.heap := hd.heap
        have hps := hps.step (hps.mem.below (hd.below _)) hps.no (Keep.ofDrew hd _) fun x hx => .inl hx
        replace va := va.below (hd.below _) va.lt
        replace vc := vc.below (hd.below _) vc.lt
        replace hh := hh.below (hd.below _) hh.lt
        clear hd
        (((first | refine WD.free 0 rfl (by kernel_rfl) rfl rfl (fun _ _ _ _ _ h => h) rfl rfl (.inr hS) ?_ | refine WD.skip 0 rfl (by kernel_rfl) rfl rfl (fun _ _ _ _ _ h => h) rfl (.inr hS) ?_); try (first | ((with_reducible refine WD.topT ?_ ?_); omega) | ((with_reducible refine WD.topF ?_ ?_); omega) | ((with_reducible refine WD.top64 ?_ ?_); omega))); ((first | refine WD.free 1 rfl (by kernel_rfl) rfl rfl (fun _ _ _ _ _ h => h) rfl rfl (.inr hS) ?_ | refine WD.skip 1 rfl (by kernel_rfl) rfl rfl (fun _ _ _ _ _ h => h) rfl (.inr hS) ?_); try (first | ((with_reducible refine WD.topT ?_ ?_); omega) | ((with_reducible refine WD.topF ?_ ?_); omega) | ((with_reducible refine WD.top64 ?_ ?_); omega))); ((first | refine WD.free 2 rfl (by kernel_rfl) rfl rfl (fun _ _ _ _ _ h => h) rfl rfl (.inr hS) ?_ | refine WD.skip 2 rfl (by kernel_rfl) rfl rfl (fun _ _ _ _ _ h => h) rfl (.inr hS) ?_); try (first | ((with_reducible refine WD.topT ?_ ?_); omega) | ((with_reducible refine WD.topF ?_ ?_); omega) | ((with_reducible refine WD.top64 ?_ ?_); omega))); ((first | refine WD.free 3 rfl (by kernel_rfl) rfl rfl (fun _ _ _ _ _ h => h) rfl rfl (.inr hS) ?_ | refine WD.skip 3 rfl (by kernel_rfl) rfl rfl (fun _ _ _ _ _ h => h) rfl (.inr hS) ?_); try (first | ((with_reducible refine WD.topT ?_ ?_); omega) | ((with_reducible refine WD.topF ?_ ?_); omega) | ((with_reducible refine WD.top64 ?_ ?_); omega))); ((first | refine WD.free 4 rfl (by kernel_rfl) rfl rfl (fun _ _ _ _ _ h => h) rfl rfl (.inr hS) ?_ | refine WD.skip 4 rfl (by kernel_rfl) rfl rfl (fun _ _ _ _ _ h => h) rfl (.inr hS) ?_); try (first | ((with_reducible refine WD.topT ?_ ?_); omega) | ((with_reducible refine WD.topF ?_ ?_); omega) | ((with_reducible refine WD.top64 ?_ ?_); omega))))
        refine WD.idxA 5 A' (2 + A') rfl (by kernel_rfl) rfl rfl (fun _ _ _ _ _ h => h) rfl rfl rfl rfl rfl rfl (by omega) (by omega) (.inr hS) ?_
        refine WD.load 6 [19] rfl (by kernel_rfl) rfl rfl (fun _ _ _ _ _ h => h) rfl rfl rfl rfl (fun wx hx => (heap_cell hx _).trans q1) hS ?_
        (((first | refine WD.free 7 rfl (by kernel_rfl) rfl rfl (fun _ _ _ _ _ h => h) rfl rfl (.inr hS) ?_ | refine WD.skip 7 rfl (by kernel_rfl) rfl rfl (fun _ _ _ _ _ h => h) rfl (.inr hS) ?_); try (first | ((with_reducible refine WD.topT ?_ ?_); omega) | ((with_reducible refine WD.topF ?_ ?_); omega) | ((with_reducible refine WD.top64 ?_ ?_); omega))); ((first | refine WD.free 8 rfl (by kernel_rfl) rfl rfl (fun _ _ _ _ _ h => h) rfl rfl (.inr hS) ?_ | refine WD.skip 8 rfl (by kernel_rfl) rfl rfl (fun _ _ _ _ _ h => h) rfl (.inr hS) ?_); try (first | ((with_reducible refine WD.topT ?_ ?_); omega) | ((with_reducible refine WD.topF ?_ ?_); omega) | ((with_reducible refine WD.top64 ?_ ?_); omega))); ((first | refine WD.free 9 rfl (by kernel_rfl) rfl rfl (fun _ _ _ _ _ h => h) rfl rfl (.inr hS) ?_ | refine WD.skip 9 rfl (by kernel_rfl) rfl rfl (fun _ _ _ _ _ h => h) rfl (.inr hS) ?_); try (first | ((with_reducible refine WD.topT ?_ ?_); omega) | ((with_reducible refine WD.topF ?_ ?_); omega) | ((with_reducible refine WD.top64 ?_ ?_); omega))); ((first | refine WD.free 10 rfl (by kernel_rfl) rfl rfl (fun _ _ _ _ _ h => h) rfl rfl (.inr hS) ?_ | refine WD.skip 10 rfl (by kernel_rfl) rfl rfl (fun _ _ _ _ _ h => h) rfl (.inr hS) ?_); try (first | ((with_reducible refine WD.topT ?_ ?_); omega) | ((with_reducible refine WD.topF ?_ ?_); omega) | ((with_reducible refine WD.top64 ?_ ?_); omega))))
        refine WD.idxA 11 A' (10 + A') rfl (by kernel_rfl) rfl rfl (fun _ _ _ _ _ h => h) rfl rfl rfl rfl rfl rfl (by omega) (by omega) (.inr hS) ?_
        refine WD.load 12 [19] rfl (by kernel_rfl) rfl rfl (fun _ _ _ _ _ h => h) rfl rfl rfl rfl (fun wx hx => (heap_cell hx _).trans q2) hS ?_
        (((first | refine WD.free 13 rfl (by kernel_rfl) rfl rfl (fun _ _ _ _ _ h => h) rfl rfl (.inr hS) ?_ | refine WD.skip 13 rfl (by kernel_rfl) rfl rfl (fun _ _ _ _ _ h => h) rfl (.inr hS) ?_); try (first | ((with_reducible refine WD.topT ?_ ?_); omega) | ((with_reducible refine WD.topF ?_ ?_); omega) | ((with_reducible refine WD.top64 ?_ ?_); omega))); ((first | refine WD.free 14 rfl (by kernel_rfl) rfl rfl (fun _ _ _ _ _ h => h) rfl rfl (.inr hS) ?_ | refine WD.skip 14 rfl (by kernel_rfl) rfl rfl (fun _ _ _ _ _ h => h) rfl (.inr hS) ?_); try (first | ((with_reducible refine WD.topT ?_ ?_); omega) | ((with_reducible refine WD.topF ?_ ?_); omega) | ((with_reducible refine WD.top64 ?_ ?_); omega))); ((first | refine WD.free 15 rfl (by kernel_rfl) rfl rfl (fun _ _ _ _ _ h => h) rfl rfl (.inr hS) ?_ | refine WD.skip 15 rfl (by kernel_rfl) rfl rfl (fun _ _ _ _ _ h => h) rfl (.inr hS) ?_); try (first | ((with_reducible refine WD.topT ?_ ?_); omega) | ((with_reducible refine WD.topF ?_ ?_); omega) | ((with_reducible refine WD.top64 ?_ ?_); omega))); ((first | refine WD.free 16 rfl (by kernel_rfl) rfl rfl (fun _ _ _ _ _ h => h) rfl rfl (.inr hS) ?_ | refine WD.skip 16 rfl (by kernel_rfl) rfl rfl (fun _ _ _ _ _ h => h) rfl (.inr hS) ?_); try (first | ((with_reducible refine WD.topT ?_ ?_); omega) | ((with_reducible refine WD.topF ?_ ?_); omega) | ((with_reducible refine WD.top64 ?_ ?_); omega))))
        refine WD.idxA 17 A' (18 + A') rfl (by kernel_rfl) rfl rfl (fun _ _ _ _ _ h => h) rfl rfl rfl rfl rfl rfl (by omega) (by omega) (.inr hS) ?_
        refine WD.load 18 [19] rfl (by kernel_rfl) rfl rfl (fun _ _ _ _ _ h => h) rfl rfl rfl rfl (fun wx hx => (heap_cell hx _).trans q3) hS ?_
        refine WD.one 19 (by kernel_rfl) rfl ?_
        refine WL.call rfl rfl rfl rfl rfl Try.func24 rfl (by kernel_rfl) (nput_any (i := 0) (n := ((ents d a).getD A' noE).num) (kid := ((ents d a).getD A' noE).kid) vc (Nat.zero_le _) (by show (ents d c).length < 8; omega)) ?_
        rintro _ w5 ⟨rfl, hk5, vc5⟩
        refine ⟨_, rfl, ?_⟩
        simp only at vc5
        rw [← e2] at vc5
        have hlt1 : ((ents d a ++ ents d c).drop A').length ≤ 8 := by rw [List.length_drop, List.length_append]; omega
        have hps5 := hps.node (b := blk d c) (by rw [hsc]; simp) hk5 hlt1 vc5
        have va5 := va.keep hk5 hac
        have hh5 := hh.keep hk5 htc
        refine WL.nil (WQ.dk (.inl rfl) ?_)
        refine WD.done (by kernel_rfl) ?_
        repeat (first | ((with_reducible refine WL.topT ?_ ?_); omega) | ((with_reducible refine WL.topF ?_ ?_); omega) | ((with_reducible refine WL.top64 ?_ ?_); omega) | refine WC.seq ?_ | refine WC.block ?_ | refine WC.region ?_ | refine WL.nil ?_ | refine WC.skip ?_ | refine WC.exit ?_ | refine WC.ret ?_ | refine WQ.then rfl ?_ | refine WQ.thenExit ?_ | refine WQ.thenRet ?_ | refine WQ.blk ?_ | refine WQ.blkRet ?_ | refine WQ.blkHere rfl ?_ | refine WQ.blkOther rfl ?_ | refine WL.pure rfl rfl rfl rfl ?_ | refine WL.on rfl rfl ?_ | refine WL.off rfl rfl rfl ?_ | refine WC.condTrue rfl ?_ | refine WC.condFalse rfl ?_)
        refine WL.call rfl rfl rfl rfl rfl Try.func38 rfl (by kernel_rfl) (ncut_any (i := A') va5 (by show A' < (ents d a).length; omega) (by show (ents d a).length ≤ 8; omega)) ?_
        rintro _ w6 ⟨rfl, hk6, va6⟩
        refine ⟨_, rfl, ?_⟩
        simp only at va6
        rw [← e1] at va6
        have hps6 := hps5.node (b := blk d a) (by rw [upd_ne hac, hsa]; simp) hk6 (by show ((ents d a ++ ents d c).take A').length ≤ 8; rw [List.length_take, List.length_append]; omega) va6
        have hh6 := hh5.keep hk6 hta
        have hsw : upd (upd st (blk d c) ⟨d == 0, (ents d a ++ ents d c).drop A', nxc⟩) (blk d a) ⟨d == 0, (ents d a ++ ents d c).take A', nxa⟩ = upd (upd st (blk d a) ⟨d == 0, (ents d a ++ ents d c).take A', nxa⟩) (blk d c) ⟨d == 0, (ents d a ++ ents d c).drop A', nxc⟩ := by
          funext x
          unfold upd
          by_cases e : x = blk d a
          · subst e; simp [hac]
          · simp [e]
        rw [hsw] at hps6
        repeat (first | ((with_reducible refine WL.topT ?_ ?_); omega) | ((with_reducible refine WL.topF ?_ ?_); omega) | ((with_reducible refine WL.top64 ?_ ?_); omega) | refine WC.seq ?_ | refine WC.block ?_ | refine WC.region ?_ | refine WL.nil ?_ | refine WC.skip ?_ | refine WC.exit ?_ | refine WC.ret ?_ | refine WQ.then rfl ?_ | refine WQ.thenExit ?_ | refine WQ.thenRet ?_ | refine WQ.blk ?_ | refine WQ.blkRet ?_ | refine WQ.blkHere rfl ?_ | refine WQ.blkOther rfl ?_ | refine WL.pure rfl rfl rfl rfl ?_ | refine WL.on rfl rfl ?_ | refine WL.off rfl rfl rfl ?_ | refine WC.condTrue rfl ?_ | refine WC.condFalse rfl ?_)
        exact WQ.meet () ⟨rfl, rfl, rfl, rfl, trivial⟩ ⟨A', by omega, by omega, by omega, by omega, hps6, hh6⟩
    clear vb va vc hh hps
    rintro ⟨⟩ w5 ⟨j, hj1, hj2, hj3, hj4, hps5, hh5⟩
    obtain ⟨st5, hst5⟩ : ∃ st5, upd (upd st (blk d a) ⟨d == 0, (ents d a ++ ents d c).take j, nxa⟩) (blk d c) ⟨d == 0, (ents d a ++ ents d c).drop j, nxc⟩ = st5 := ⟨_, rfl⟩
    rw [hst5] at hps5
    have hb5 : st5 b = some ⟨false, (p ++ a :: c :: q).map (kidE d), none⟩ := by rw [← hst5, upd_ne hbc, upd_ne hba]; exact hb
    have hc5 : st5 (blk d c) = some ⟨d == 0, (ents d a ++ ents d c).drop j, nxc⟩ := by rw [← hst5, upd_eq]
    have ha5 : st5 (blk d a) = some ⟨d == 0, (ents d a ++ ents d c).take j, nxa⟩ := by rw [← hst5, upd_ne hac, upd_eq]
    obtain ⟨-, pb5, vb5⟩ := hps5.mem _ _ hb5
    obtain ⟨-, pc5, vc5⟩ := hps5.mem _ _ hc5
    obtain ⟨re1, re2⟩ := rd_ents j d a c
    obtain ⟨rc1, rc2⟩ := rd_cnt j d a c (by rw [hA, hC]; omega)
    rw [hA, hC] at rc2
    obtain ⟨rm1, rm2⟩ := rd_mn (j := j) hma hmc hj2 (by rw [hA, hC]; omega) (by rw [hA, hC]; omega)
    have hk0 : (((ents d a ++ ents d c).drop j).getD 0 noE).key = fk d (rd j d a c).2 := by rw [← re2]; exact ents_key0 rm2 (by omega) _
    have q1 := keyR vc5 (i := 0) (by omega)
    simp only [hk0] at q1
    have hkid : (⟨fk d (rd j d a c).2, (((p ++ a :: c :: q).map (kidE d)).getD (p.length + 1) noE).num, (((p ++ a :: c :: q).map (kidE d)).getD (p.length + 1) noE).kid⟩ : En) = kidE d (rd j d a c).2 := by
      rw [kids_get2]
      unfold kidE
      rw [(rd_blk j d a c).2]
    have hset := kids_set p q a c (rd j d a c).1 (rd j d a c).2 (kidE_rd hma (by omega) rm1 (by omega)) _ hkid
    repeat (first | refine WC.seq ?_ | refine WC.block ?_ | refine WC.region ?_ | refine WL.nil ?_ | refine WC.skip ?_ | refine WC.exit ?_ | refine WC.ret ?_ | refine WQ.then rfl ?_ | refine WQ.thenExit ?_ | refine WQ.thenRet ?_ | refine WQ.blk ?_ | refine WQ.blkRet ?_ | refine WQ.blkHere rfl ?_ | refine WQ.blkOther rfl ?_)
    refine WC.drawn 11 (fun wx => wx.heap = w5.heap) fun w6 hd => ?_
    have hS : w6.heap = w5.heap := hd.heap
    have hps6 := hps5.step (hps5.mem.below (hd.below _)) hps5.no (Keep.ofDrew hd _) fun x hx => .inl hx
    have vb6 := vb5.below (hd.below _) vb5.lt
    have hh6 := hh5.below (hd.below _) hh5.lt
    clear hd
    (((first | refine WD.free 0 rfl (by kernel_rfl) rfl rfl (fun _ _ _ _ _ h => h) rfl rfl (.inr hS) ?_ | refine WD.skip 0 rfl (by kernel_rfl) rfl rfl (fun _ _ _ _ _ h => h) rfl (.inr hS) ?_); try (first | ((with_reducible refine WD.topT ?_ ?_); omega) | ((with_reducible refine WD.topF ?_ ?_); omega) | ((with_reducible refine WD.top64 ?_ ?_); omega))); ((first | refine WD.free 1 rfl (by kernel_rfl) rfl rfl (fun _ _ _ _ _ h => h) rfl rfl (.inr hS) ?_ | refine WD.skip 1 rfl (by kernel_rfl) rfl rfl (fun _ _ _ _ _ h => h) rfl (.inr hS) ?_); try (first | ((with_reducible refine WD.topT ?_ ?_); omega) | ((with_reducible refine WD.topF ?_ ?_); omega) | ((with_reducible refine WD.top64 ?_ ?_); omega))); ((first | refine WD.free 2 rfl (by kernel_rfl) rfl rfl (fun _ _ _ _ _ h => h) rfl rfl (.inr hS) ?_ | refine WD.skip 2 rfl (by kernel_rfl) rfl rfl (fun _ _ _ _ _ h => h) rfl (.inr hS) ?_); try (first | ((with_reducible refine WD.topT ?_ ?_); omega) | ((with_reducible refine WD.topF ?_ ?_); omega) | ((with_reducible refine WD.top64 ?_ ?_); omega))); ((first | refine WD.free 3 rfl (by kernel_rfl) rfl rfl (fun _ _ _ _ _ h => h) rfl rfl (.inr hS) ?_ | refine WD.skip 3 rfl (by kernel_rfl) rfl rfl (fun _ _ _ _ _ h => h) rfl (.inr hS) ?_); try (first | ((with_reducible refine WD.topT ?_ ?_); omega) | ((with_reducible refine WD.topF ?_ ?_); omega) | ((with_reducible refine WD.top64 ?_ ?_); omega))); ((first | refine WD.free 4 rfl (by kernel_rfl) rfl rfl (fun _ _ _ _ _ h => h) rfl rfl (.inr hS) ?_ | refine WD.skip 4 rfl (by kernel_rfl) rfl rfl (fun _ _ _ _ _ h => h) rfl (.inr hS) ?_); try (first | ((with_reducible refine WD.topT ?_ ?_); omega) | ((with_reducible refine WD.topF ?_ ?_); omega) | ((with_reducible refine WD.top64 ?_ ?_); omega))); ((first | refine WD.free 5 rfl (by kernel_rfl) rfl rfl (fun _ _ _ _ _ h => h) rfl rfl (.inr hS) ?_ | refine WD.skip 5 rfl (by kernel_rfl) rfl rfl (fun _ _ _ _ _ h => h) rfl (.inr hS) ?_); try (first | ((with_reducible refine WD.topT ?_ ?_); omega) | ((with_reducible refine WD.topF ?_ ?_); omega) | ((with_reducible refine WD.top64 ?_ ?_); omega))))
    refine WD.idxA 6 0 2 rfl (by kernel_rfl) rfl rfl (fun _ _ _ _ _ h => h) rfl rfl rfl rfl rfl rfl (by omega) (by omega) (.inr hS) ?_
    refine WD.load 7 [10, 11] rfl (by kernel_rfl) rfl rfl (fun _ _ _ _ _ h => h) rfl rfl rfl rfl (fun wx hx => (heap_cell hx _).trans q1) hS ?_
    (((first | refine WD.free 8 rfl (by kernel_rfl) rfl rfl (fun _ _ _ _ _ h => h) rfl rfl (.inr hS) ?_ | refine WD.skip 8 rfl (by kernel_rfl) rfl rfl (fun _ _ _ _ _ h => h) rfl (.inr hS) ?_); try (first | ((with_reducible refine WD.topT ?_ ?_); omega) | ((with_reducible refine WD.topF ?_ ?_); omega) | ((with_reducible refine WD.top64 ?_ ?_); omega))); ((first | refine WD.free 9 rfl (by kernel_rfl) rfl rfl (fun _ _ _ _ _ h => h) rfl rfl (.inr hS) ?_ | refine WD.skip 9 rfl (by kernel_rfl) rfl rfl (fun _ _ _ _ _ h => h) rfl (.inr hS) ?_); try (first | ((with_reducible refine WD.topT ?_ ?_); omega) | ((with_reducible refine WD.topF ?_ ?_); omega) | ((with_reducible refine WD.top64 ?_ ?_); omega))))
    refine WD.idxA 10 (p.length + 1) (2 + (p.length + 1)) rfl (by kernel_rfl) rfl rfl (fun _ _ _ _ _ h => h) rfl rfl rfl rfl rfl rfl (by omega) (by omega) (.inr hS) ?_
    refine WD.one 11 (by kernel_rfl) rfl ?_
    refine WL.store rfl rfl rfl rfl rfl rfl (by kernel_rfl) (cellR vb6 (by omega)) (vb6.free _) ?_
    have vb7 := setR vb6 (2 + (p.length + 1)) (.string (fk d (rd j d a c).2))
    rw [row_key _ _ (by show p.length + 1 < ((p ++ a :: c :: q).map (kidE d)).length; rw [hml]; simp) (by show ((p ++ a :: c :: q).map (kidE d)).length ≤ 8; rw [hml]; exact hlen)] at vb7
    simp only [hset] at vb7
    have k7 : Keep (fun x => x ≠ b) w6 (w6.setCell ⟨b, 2 + (p.length + 1), none⟩ (.string (fk d (rd j d a c).2))) := (Keep.refl _ _).setCell (fun hk => hk rfl) _
    have hps7 := hps6.node (b := b) (by rw [hb5]; simp) k7 (by show ((p ++ (rd j d a c).1 :: (rd j d a c).2 :: q).map (kidE d)).length ≤ 8; rw [hml]; simp only [List.length_append, List.length_cons] at hlen ⊢; exact hlen) vb7
    have hh7 := hh6.keep k7 htb
    generalize w6.setCell ⟨b, 2 + (p.length + 1), none⟩ (.string (fk d (rd j d a c).2)) = w7 at vb7 k7 hps7 hh7 ⊢
    refine WL.nil (WQ.dk (.inl rfl) ?_)
    refine WD.done (by kernel_rfl) ?_
    have hcut : CutR st (upd st5 b ⟨false, (p ++ (rd j d a c).1 :: (rd j d a c).2 :: q).map (kidE d), none⟩) (d + 1) (mkS b (p ++ a :: c :: q)) (mkS b (p ++ (rd j d a c).1 :: (rd j d a c).2 :: q)) nx := by
      refine CutR.share (j := j) hat (fun nxa' hx => ?_) (fun nxc' hx => ?_) (upd_eq _ _ _) fun x h1 h2 h3 => ?_
      · rw [hsa] at hx
        injection hx with hx; injection hx with _ _ hx
        rw [upd_ne hba.symm, ha5, hx]
      · rw [hsc] at hx
        injection hx with hx; injection hx with _ _ hx
        rw [upd_ne hbc.symm, hc5, hx]
      · rw [upd_ne h1, ← hst5, upd_ne h3, upd_ne h2]
    repeat (first | ((with_reducible refine WL.topT ?_ ?_); omega) | ((with_reducible refine WL.topF ?_ ?_); omega) | ((with_reducible refine WL.top64 ?_ ?_); omega) | refine WC.seq ?_ | refine WC.block ?_ | refine WC.region ?_ | refine WL.nil ?_ | refine WC.skip ?_ | refine WC.exit ?_ | refine WC.ret ?_ | refine WQ.then rfl ?_ | refine WQ.thenExit ?_ | refine WQ.thenRet ?_ | refine WQ.blk ?_ | refine WQ.blkRet ?_ | refine WQ.blkHere rfl ?_ | refine WQ.blkOther rfl ?_ | refine WL.pure rfl rfl rfl rfl ?_ | refine WL.on rfl rfl ?_ | refine WL.off rfl rfl rfl ?_ | refine WC.condTrue rfl ?_ | refine WC.condFalse rfl ?_)
    refine WQ.end0 rfl ⟨rfl, fin hps7 hcut (fun x hx => ?_) (.inr ⟨by omega, j, hj1, hj2, hj3, hj4, rfl, hh7⟩)⟩
    by_cases e : x = b
    · rw [e, hb]; simp
    · rw [upd_ne e, ← hst5] at hx
      by_cases e2 : x = blk d c
      · rw [e2, hsc]; simp
      · rw [upd_ne e2] at hx
        by_cases e3 : x = blk d a
        · rw [e3, hsa]; simp
        · rw [upd_ne e3] at hx; exact hx
end K
end Go.Proofs.Ytilmfnlaenneeaa

/- Trees (chapter 13): cut. -/
namespace Go.Proofs.Ytilmfnlaenneeaa
open Go.RowKit
namespace K
open Tre
theorem lnk_valid' {st : St} : ∀ {l : List (Nat × List KV)} {nx : Option Nat}, Lnk st l nx → (∀ q, nx = some q → st q ≠ none) → ∀ x ∈ l, ∀ nd, st x.1 = some nd → ∀ q, nd.next = some q → st q ≠ none
  | [], _, _, _, _, h, _, _, _, _ => by cases h
  | a :: l, nx, h, hnx, x, hx, nd, hnd, q, hq => by
    rcases List.mem_cons.1 hx with rfl | hx
    · rw [h.1] at hnd
      obtain rfl := Option.some.inj hnd
      cases l with
      | nil => exact hnx q hq
      | cons y l =>
        have : q = y.1 := (Option.some.inj hq).symm
        subst this
        rw [h.2.1]; simp
    · exact lnk_valid' h.2 hnx x hx nd hnd q hq
theorem At_valid {st : St} {d b : Nat} {ks : List (Tr d)} {nx : Option Nat} (h : At st (d + 1) (mkS b ks) nx) (hnx : ∀ q, nx = some q → st q ≠ none) {s : Tr d} (hs : s ∈ ks) : ∀ nd, st (blk d s) = some nd → ∀ q, nd.next = some q → st q ≠ none := by
  intro nd hnd q hq
  cases d with
  | zero => exact lnk_valid' h.lnk hnx (s.1, s.2) (List.mem_flatMap.2 ⟨s, hs, List.mem_singleton.2 rfl⟩) nd hnd q hq
  | succ d =>
    obtain ⟨nx', h1, h2⟩ := At_kid h hs
    rw [h1] at hnd
    obtain rfl := Option.some.inj hnd
    rw [h2 (by omega)] at hq
    cases hq
theorem CutR_refl {st : St} {d : Nat} {t : Tr d} {nx : Option Nat} (h : At st d t nx) : CutR st st d t t nx := ⟨h, rfl, fun _ => rfl, fun _ hx => hx, fun _ _ => rfl⟩
theorem At_sub {st : St} {d b : Nat} {l r : List (Tr d)} {s : Tr d} {nx : Option Nat} (h : At st (d + 1) (mkS b (l ++ s :: r)) nx) : At st d s (Tre.hd (r.flatMap (lvs d)) nx) := by
  have hl := h.lnk
  rw [lvs_mkS, List.flatMap_append, List.flatMap_cons] at hl
  obtain ⟨-, h1⟩ := Lnk.app.1 hl
  obtain ⟨h1, -⟩ := Lnk.app.1 h1
  exact ⟨(RepI_mkS.1 h.rep).2 s (by simp), h1, (List.nodup_append.1 (List.nodup_cons.1 (parts3 h.nodup)).2).1⟩
/-- What is behind a kid is there, and no part of it. -/
theorem At_next {st : St} {d b : Nat} {l r : List (Tr d)} {s : Tr d} {nx : Option Nat} (h : At st (d + 1) (mkS b (l ++ s :: r)) nx) (hnx : ∀ q, nx = some q → st q ≠ none ∧ q ∉ bks (d + 1) (mkS b (l ++ s :: r))) :
    ∀ q, Tre.hd (r.flatMap (lvs d)) nx = some q → st q ≠ none ∧ q ∉ bks d s := by
  intro q hq
  have hl := h.lnk
  rw [lvs_mkS, List.flatMap_append, List.flatMap_cons] at hl
  obtain ⟨-, h1⟩ := Lnk.app.1 hl
  obtain ⟨-, h1⟩ := Lnk.app.1 h1
  cases hr : r.flatMap (lvs d) with
  | nil =>
    rw [hr] at hq
    obtain ⟨h2, h3⟩ := hnx q hq
    refine ⟨h2, fun e => h3 ?_⟩
    rw [bks_mkS, List.flatMap_append, List.flatMap_cons]
    simp [e]
  | cons x y =>
    rw [hr] at hq h1
    have : q = x.1 := (Option.some.inj hq).symm
    subst this
    refine ⟨by rw [h1.1]; simp, fun e => ?_⟩
    have hd := (List.nodup_append.1 (List.nodup_cons.1 (parts3 h.nodup)).2).2.2
    have hm : x.1 ∈ r.flatMap (bks d) := flat_lvs (by rw [hr]; simp)
    exact hd _ e _ (List.mem_append_right _ hm) rfl
/-- What cut says. -/
def CutPost (w : World) (st : St) (tb : Nat) (root : Option Nat) (size N : Nat) (k : Ky) (d : Nat) (t : Tr d) (nx : Option Nat) : Ending → World → Prop := fun e w' =>
  e = .returned (.tuple #[.int .i64 ((getL k (els d t)).getD 0), .bool (getL k (els d t)).isSome]) ∧ ∃ st' t', CutR st st' d t t' nx ∧ PS w st tb w' st' ∧ (∀ x, st' x ≠ none → st x ≠ none) ∧ els d t' = delL k (els d t) ∧ Mn d t' ∧ cnt d t ≤ cnt d t' + 1 ∧ VBlk treeT w' tb (trC root size (N + (bks d t').length)) ∧ (bks d t').length ≤ (bks d t).length
set_option maxRecDepth 20000 in
set_option maxHeartbeats 8000000 in
theorem tcut_leaf {w : World} {st : St} {tb size N b : Nat} {root : Option Nat} {k : Ky} {es : List KV} {nx : Option Nat} (hm : Mem w st) (hno : st tb = none) (hat : At st 0 (mk0 b es) nx) (hs : Srt es) (hmn : es.length ≤ 8) (hh : VBlk treeT w tb (trC root size (N + 1))) :
    Calls Try.prog 31 #[.pointer (some ⟨tb, 0, none⟩), .pointer (some ⟨b, 0, none⟩), .string k] w (CutPost w st tb root size N k 0 (mk0 b es) nx) := by
  refine enter (args := [.pointer (some ⟨tb, 0, none⟩), .pointer (some ⟨b, 0, none⟩), .string k]) Try.func31 rfl Try.ntmps31 rfl ?_
  have hps := PS.start hm hno
  have hb : st b = some ⟨true, leafE es, nx⟩ := hat.lnk.1
  obtain ⟨-, pb, vb⟩ := hm _ _ hb
  have hbt : tb ≠ b := fun e => by rw [← e, hno] at hb; cases hb
  have l0 : w.cell? ⟨b, 0, none⟩ = some (.bool true) := cellR vb (by omega)
  have hpl := plc_le k (es.map Prod.fst)
  rw [List.length_map] at hpl
  have hat1 := getL_at (k := k) hs
  have hda := del_at (k := k) hs
  have stay : getL k es = none → CutPost w st tb root size N k 0 (mk0 b es) nx (.returned (.tuple #[.int .i64 0, .bool false])) w := fun hg => by
    refine ⟨?_, st, mk0 b es, CutR_refl hat, hps, fun _ h => h, ?_, hmn, Nat.le_succ _, hh, Nat.le_refl _⟩
    · show _ = Ending.returned (.tuple #[.int .i64 ((getL k es).getD 0), .bool (getL k es).isSome]); rw [hg]; rfl
    · show es = delL k es; rw [delL_none hg]
  repeat (first | ((with_reducible refine WL.topT ?_ ?_); omega) | ((with_reducible refine WL.topF ?_ ?_); omega) | ((with_reducible refine WL.top64 ?_ ?_); omega) | refine WC.seq ?_ | refine WC.block ?_ | refine WC.region ?_ | refine WL.nil ?_ | refine WC.skip ?_ | refine WC.exit ?_ | refine WC.ret ?_ | refine WQ.then rfl ?_ | refine WQ.thenExit ?_ | refine WQ.thenRet ?_ | refine WQ.blk ?_ | refine WQ.blkRet ?_ | refine WQ.blkHere rfl ?_ | refine WQ.blkOther rfl ?_ | refine WL.pure rfl rfl rfl rfl ?_ | refine WL.on rfl rfl ?_ | refine WL.off rfl rfl rfl ?_ | refine WL.load rfl rfl rfl rfl rfl rfl (by assumption) ?_ | refine WC.condTrue rfl ?_ | refine WC.condFalse rfl ?_)
  refine WL.call rfl rfl rfl rfl rfl Try.func27 rfl (by kernel_rfl) (place_any (key := k) vb (by show (leafE es).length ≤ 8; rw [leaf_len]; omega)) ?_
  rintro _ w3 ⟨rfl, rfl⟩
  refine ⟨_, rfl, ?_⟩
  simp only [keys_leaf]
  generalize plc k (es.map Prod.fst) = p at hpl hat1 hda ⊢
  have hcnt := cntR vb (leaf_len es)
  by_cases hpN : p < es.length
  · repeat (first | ((with_reducible refine WL.topT ?_ ?_); omega) | ((with_reducible refine WL.topF ?_ ?_); omega) | ((with_reducible refine WL.top64 ?_ ?_); omega) | refine WC.seq ?_ | refine WC.block ?_ | refine WC.region ?_ | refine WL.nil ?_ | refine WC.skip ?_ | refine WC.exit ?_ | refine WC.ret ?_ | refine WQ.then rfl ?_ | refine WQ.thenExit ?_ | refine WQ.thenRet ?_ | refine WQ.blk ?_ | refine WQ.blkRet ?_ | refine WQ.blkHere rfl ?_ | refine WQ.blkOther rfl ?_ | refine WL.pure rfl rfl rfl rfl ?_ | refine WL.on rfl rfl ?_ | refine WL.off rfl rfl rfl ?_ | refine WL.load rfl rfl rfl rfl rfl rfl (by assumption) ?_ | refine WC.condTrue rfl ?_ | refine WC.condFalse rfl ?_)
    refine WL.idxA p (2 + p) rfl rfl rfl rfl rfl rfl rfl rfl (by omega) (by omega) ?_
    refine WL.on rfl rfl ?_
    have hkp := keyR vb (i := p) (by omega)
    rw [leaf_getD es hpN] at hkp
    refine WL.load rfl rfl rfl rfl rfl rfl hkp ?_
    by_cases hk : es[p].1 = k
    · have hsome : (es.map Prod.fst)[p]? = some k := by simp [hpN, hk]
      rw [if_pos hsome, List.getElem?_eq_getElem hpN] at hat1
      rw [if_pos hsome] at hda
      have hnp := numR vb (i := p) (by omega)
      rw [leaf_getD es hpN] at hnp
      simp only at hnp
      repeat (first | ((with_reducible refine WL.topT ?_ ?_); omega) | ((with_reducible refine WL.topF ?_ ?_); omega) | ((with_reducible refine WL.top64 ?_ ?_); omega) | refine WC.seq ?_ | refine WC.block ?_ | refine WC.region ?_ | refine WL.nil ?_ | refine WC.skip ?_ | refine WC.exit ?_ | refine WC.ret ?_ | refine WQ.then rfl ?_ | refine WQ.thenExit ?_ | refine WQ.thenRet ?_ | refine WQ.blk ?_ | refine WQ.blkRet ?_ | refine WQ.blkHere rfl ?_ | refine WQ.blkOther rfl ?_ | refine WL.pure rfl rfl rfl rfl ?_ | refine WL.on rfl rfl ?_ | refine WL.off rfl rfl rfl ?_ | refine WC.condTrue rfl ?_ | refine WC.condFalse rfl ?_)
      refine WC.as 35 (.bool false) rfl (by rw [hk]; simp) ?_
      repeat (first | ((with_reducible refine WL.topT ?_ ?_); omega) | ((with_reducible refine WL.topF ?_ ?_); omega) | ((with_reducible refine WL.top64 ?_ ?_); omega) | refine WC.seq ?_ | refine WC.block ?_ | refine WC.region ?_ | refine WL.nil ?_ | refine WC.skip ?_ | refine WC.exit ?_ | refine WC.ret ?_ | refine WQ.then rfl ?_ | refine WQ.thenExit ?_ | refine WQ.thenRet ?_ | refine WQ.blk ?_ | refine WQ.blkRet ?_ | refine WQ.blkHere rfl ?_ | refine WQ.blkOther rfl ?_ | refine WL.pure rfl rfl rfl rfl ?_ | refine WL.on rfl rfl ?_ | refine WL.off rfl rfl rfl ?_ | refine WC.condTrue rfl ?_ | refine WC.condFalse rfl ?_)
      refine WL.idxA p (10 + p) rfl rfl rfl rfl rfl rfl rfl rfl (by omega) (by omega) ?_
      refine WL.load rfl rfl rfl rfl rfl rfl hnp ?_
      repeat (first | ((with_reducible refine WL.topT ?_ ?_); omega) | ((with_reducible refine WL.topF ?_ ?_); omega) | ((with_reducible refine WL.top64 ?_ ?_); omega) | refine WC.seq ?_ | refine WC.block ?_ | refine WC.region ?_ | refine WL.nil ?_ | refine WC.skip ?_ | refine WC.exit ?_ | refine WC.ret ?_ | refine WQ.then rfl ?_ | refine WQ.thenExit ?_ | refine WQ.thenRet ?_ | refine WQ.blk ?_ | refine WQ.blkRet ?_ | refine WQ.blkHere rfl ?_ | refine WQ.blkOther rfl ?_ | refine WL.pure rfl rfl rfl rfl ?_ | refine WL.on rfl rfl ?_ | refine WL.off rfl rfl rfl ?_ | refine WC.condTrue rfl ?_ | refine WC.condFalse rfl ?_)
      refine WL.call rfl rfl rfl rfl rfl Try.func38 rfl (by kernel_rfl) (ncut_any (i := p) vb (by show p < (leafE es).length; rw [leaf_len]; exact hpN) (by show (leafE es).length ≤ 8; rw [leaf_len]; exact hmn)) ?_
      rintro _ w4 ⟨rfl, hk4, v4⟩
      refine ⟨_, rfl, ?_⟩
      have hse : era (leafE es) p = leafE (delL k es) := by
        rw [hda]
        unfold leafE era
        rw [List.map_append, List.map_take, List.map_drop]
      simp only [hse] at v4
      have hdl : (delL k es).length + 1 = es.length := by rw [hda]; simp only [List.length_append, List.length_take, List.length_drop]; omega
      have hps4 := hps.node (b := b) (by rw [hb]; simp) hk4 (by show (leafE (delL k es)).length ≤ 8; rw [leaf_len]; omega) v4
      have hh4 := hh.keep hk4 hbt
      repeat (first | ((with_reducible refine WL.topT ?_ ?_); omega) | ((with_reducible refine WL.topF ?_ ?_); omega) | ((with_reducible refine WL.top64 ?_ ?_); omega) | refine WC.seq ?_ | refine WC.block ?_ | refine WC.region ?_ | refine WL.nil ?_ | refine WC.skip ?_ | refine WC.exit ?_ | refine WC.ret ?_ | refine WQ.then rfl ?_ | refine WQ.thenExit ?_ | refine WQ.thenRet ?_ | refine WQ.blk ?_ | refine WQ.blkRet ?_ | refine WQ.blkHere rfl ?_ | refine WQ.blkOther rfl ?_ | refine WL.pure rfl rfl rfl rfl ?_ | refine WL.on rfl rfl ?_ | refine WL.off rfl rfl rfl ?_ | refine WC.condTrue rfl ?_ | refine WC.condFalse rfl ?_)
      refine WQ.ret2 rfl rfl rfl ⟨?_, upd st b ⟨true, leafE (delL k es), nx⟩, mk0 b (delL k es), ⟨⟨trivial, ⟨upd_eq _ _ _, trivial⟩, by simp [bks, mk0]⟩, rfl, fun _ => rfl, fun _ h => h, fun x hx => upd_ne fun e => hx (by rw [e]; simp [bks, mk0])⟩, hps4, fun x hx => ?_, rfl, ?_, ?_, hh4, Nat.le_refl _⟩
      · show _ = Ending.returned (.tuple #[.int .i64 ((getL k es).getD 0), .bool (getL k es).isSome]); rw [hat1]; rfl
      · by_cases e : x = b
        · rw [e, hb]; simp
        · rw [upd_ne e] at hx; exact hx
      · show (delL k es).length ≤ 8; omega
      · show es.length ≤ (delL k es).length + 1; omega
    · have hsome : ¬ (es.map Prod.fst)[p]? = some k := by simp [hpN, hk]
      rw [if_neg hsome] at hat1
      repeat (first | ((with_reducible refine WL.topT ?_ ?_); omega) | ((with_reducible refine WL.topF ?_ ?_); omega) | ((with_reducible refine WL.top64 ?_ ?_); omega) | refine WC.seq ?_ | refine WC.block ?_ | refine WC.region ?_ | refine WL.nil ?_ | refine WC.skip ?_ | refine WC.exit ?_ | refine WC.ret ?_ | refine WQ.then rfl ?_ | refine WQ.thenExit ?_ | refine WQ.thenRet ?_ | refine WQ.blk ?_ | refine WQ.blkRet ?_ | refine WQ.blkHere rfl ?_ | refine WQ.blkOther rfl ?_ | refine WL.pure rfl rfl rfl rfl ?_ | refine WL.on rfl rfl ?_ | refine WL.off rfl rfl rfl ?_ | refine WC.condTrue rfl ?_ | refine WC.condFalse rfl ?_)
      refine WC.as 35 (.bool true) rfl (by simp; exact fun e => hk (ky_eq e)) ?_
      repeat (first | ((with_reducible refine WL.topT ?_ ?_); omega) | ((with_reducible refine WL.topF ?_ ?_); omega) | ((with_reducible refine WL.top64 ?_ ?_); omega) | refine WC.seq ?_ | refine WC.block ?_ | refine WC.region ?_ | refine WL.nil ?_ | refine WC.skip ?_ | refine WC.exit ?_ | refine WC.ret ?_ | refine WQ.then rfl ?_ | refine WQ.thenExit ?_ | refine WQ.thenRet ?_ | refine WQ.blk ?_ | refine WQ.blkRet ?_ | refine WQ.blkHere rfl ?_ | refine WQ.blkOther rfl ?_ | refine WL.pure rfl rfl rfl rfl ?_ | refine WL.on rfl rfl ?_ | refine WL.off rfl rfl rfl ?_ | refine WC.condTrue rfl ?_ | refine WC.condFalse rfl ?_)
      exact WQ.ret2 rfl rfl rfl (stay hat1)
  · have hsome : ¬ (es.map Prod.fst)[p]? = some k := by rw [List.getElem?_eq_none (by simp; omega)]; simp
    rw [if_neg hsome] at hat1
    repeat (first | ((with_reducible refine WL.topT ?_ ?_); omega) | ((with_reducible refine WL.topF ?_ ?_); omega) | ((with_reducible refine WL.top64 ?_ ?_); omega) | refine WC.seq ?_ | refine WC.block ?_ | refine WC.region ?_ | refine WL.nil ?_ | refine WC.skip ?_ | refine WC.exit ?_ | refine WC.ret ?_ | refine WQ.then rfl ?_ | refine WQ.thenExit ?_ | refine WQ.thenRet ?_ | refine WQ.blk ?_ | refine WQ.blkRet ?_ | refine WQ.blkHere rfl ?_ | refine WQ.blkOther rfl ?_ | refine WL.pure rfl rfl rfl rfl ?_ | refine WL.on rfl rfl ?_ | refine WL.off rfl rfl rfl ?_ | refine WL.load rfl rfl rfl rfl rfl rfl (by assumption) ?_ | refine WC.condTrue rfl ?_ | refine WC.condFalse rfl ?_)
    exact WQ.ret2 rfl rfl rfl (stay hat1)
end K
end Go.Proofs.Ytilmfnlaenneeaa

/- Trees (chapter 13): cut, of every tree. -/
namespace Go.Proofs.Ytilmfnlaenneeaa
open Go.RowKit
namespace K
open Tre
theorem list_last {α : Type} (l : List α) (h : l ≠ []) : ∃ p a, l = p ++ [a] := ⟨l.dropLast, l.getLast h, (List.dropLast_concat_getLast h).symm⟩
theorem Mn_of {d b : Nat} {ks : List (Tr d)} (h1 : ks.length ≤ 8) (h2 : ∀ s ∈ ks, 4 ≤ cnt d s ∧ Mn d s) : Mn (d + 1) (mkS b ks) := Mn_mkS.2 ⟨h1, h2⟩
/-- One kid fell to three: it is mended with a neighbour. -/
theorem mend_out {w w' : World} {st st2 : St} {tb b d size N : Nat} {root : Option Nat} {p q : List (Tr d)} {a c : Tr d} {t : Tr (d + 1)} {nx : Option Nat} {k : Ky} (hcut : CutR st st2 (d + 1) t (mkS b (p ++ a :: c :: q)) nx) (hps2 : PS w st tb w' st2)
    (hd2 : ∀ x, st2 x ≠ none → st x ≠ none) (hel : els (d + 1) (mkS b (p ++ a :: c :: q)) = delL k (els (d + 1) t)) (hct : cnt (d + 1) t = (p ++ a :: c :: q).length) (hpl : ∀ s ∈ p, 4 ≤ cnt d s ∧ Mn d s) (hql : ∀ s ∈ q, 4 ≤ cnt d s ∧ Mn d s)
    (hma : Mn d a) (hmc : Mn d c) (ha3 : 3 ≤ cnt d a) (hc3 : 3 ≤ cnt d c) (hbl : (bks (d + 1) (mkS b (p ++ a :: c :: q))).length ≤ (bks (d + 1) t).length) (hlen : (p ++ a :: c :: q).length ≤ 8) {m : Nat} (hm : m + 1 = N + (bks (d + 1) (mkS b (p ++ a :: c :: q))).length)
    {w2 : World} (h : ∃ st' t', CutR st2 st' (d + 1) (mkS b (p ++ a :: c :: q)) t' nx ∧ PS w' st2 tb w2 st' ∧ (∀ x, st' x ≠ none → st2 x ≠ none) ∧
      ((cnt d a + cnt d c ≤ 8 ∧ t' = mkS b (p ++ jn d a c :: q) ∧ VBlk treeT w2 tb (trC root size m)) ∨ (8 < cnt d a + cnt d c ∧ ∃ j, 4 ≤ j ∧ j ≤ 8 ∧ j + 4 ≤ cnt d a + cnt d c ∧ cnt d a + cnt d c ≤ j + 8 ∧ t' = mkS b (p ++ (rd j d a c).1 :: (rd j d a c).2 :: q) ∧ VBlk treeT w2 tb (trC root size (m + 1))))) :
    ∃ st' t', CutR st st' (d + 1) t t' nx ∧ PS w st tb w2 st' ∧ (∀ x, st' x ≠ none → st x ≠ none) ∧ els (d + 1) t' = delL k (els (d + 1) t) ∧ Mn (d + 1) t' ∧ cnt (d + 1) t ≤ cnt (d + 1) t' + 1 ∧ VBlk treeT w2 tb (trC root size (N + (bks (d + 1) t').length)) ∧ (bks (d + 1) t').length ≤ (bks (d + 1) t).length := by
  obtain ⟨st', t', h1, h2, h3, h4⟩ := h
  have hps : PS w st tb w2 st' := hps2.step h2.mem h2.no h2.keep h2.new
  refine ⟨st', t', hcut.trans h1, hps, fun x hx => hd2 x (h3 x hx), ?_⟩
  have hbk0 : (bks (d + 1) (mkS b (p ++ a :: c :: q))).length = 1 + (p.flatMap (bks d)).length + (bks d a).length + (bks d c).length + (q.flatMap (bks d)).length := by
    rw [bks_mkS]; simp only [List.flatMap_append, List.flatMap_cons, List.length_cons, List.length_append]; omega
  rcases h4 with ⟨hs, rfl, hh⟩ | ⟨hs, j, j1, j2, j3, j4, rfl, hh⟩
  · have hbk : (bks (d + 1) (mkS b (p ++ jn d a c :: q))).length + 1 = (bks (d + 1) (mkS b (p ++ a :: c :: q))).length := by
      rw [hbk0, bks_mkS]
      have := jn_len d a c
      simp only [List.flatMap_append, List.flatMap_cons, List.length_cons, List.length_append]
      omega
    refine ⟨?_, Mn_of ?_ ?_, ?_, ?_, by omega⟩
    · rw [← hel, els_mkS, els_mkS]
      simp only [List.flatMap_append, List.flatMap_cons, jn_els, List.append_assoc]
    · simp only [List.length_append, List.length_cons] at hlen ⊢; omega
    · intro s hsm
      simp only [List.mem_append, List.mem_cons] at hsm
      rcases hsm with hsm | rfl | hsm
      · exact hpl s hsm
      · exact ⟨by rw [jn_cnt]; omega, jn_mn hma hmc hs⟩
      · exact hql s hsm
    · rw [hct, cnt_mkS]; simp only [List.length_append, List.length_cons]; omega
    · rw [show N + (bks (d + 1) (mkS b (p ++ jn d a c :: q))).length = m by omega]; exact hh
  · have hbk : (bks (d + 1) (mkS b (p ++ (rd j d a c).1 :: (rd j d a c).2 :: q))).length = (bks (d + 1) (mkS b (p ++ a :: c :: q))).length := by
      rw [hbk0, bks_mkS]
      have := rd_len j d a c
      simp only [List.flatMap_append, List.flatMap_cons, List.length_cons, List.length_append]
      omega
    obtain ⟨rc1, rc2⟩ := rd_cnt j d a c (by omega)
    obtain ⟨rm1, rm2⟩ := rd_mn (j := j) hma hmc j2 (by omega) (by omega)
    refine ⟨?_, Mn_of ?_ ?_, ?_, ?_, by omega⟩
    · rw [← hel, els_mkS, els_mkS]
      simp only [List.flatMap_append, List.flatMap_cons]
      rw [← List.append_assoc (els d (rd j d a c).1), rd_els, List.append_assoc]
    · simp only [List.length_append, List.length_cons] at hlen ⊢; omega
    · intro s hsm
      simp only [List.mem_append, List.mem_cons] at hsm
      rcases hsm with hsm | rfl | rfl | hsm
      · exact hpl s hsm
      · exact ⟨by omega, rm1⟩
      · exact ⟨by omega, rm2⟩
      · exact hql s hsm
    · rw [hct, cnt_mkS]; simp only [List.length_append, List.length_cons]; omega
    · rw [hbk, ← hm]; exact hh
set_option maxRecDepth 20000 in
set_option maxHeartbeats 8000000 in
theorem tcut_any : ∀ (d : Nat) {w : World} {st : St} {tb size N : Nat} {root : Option Nat} {k : Ky} {t : Tr d} {nx : Option Nat} (_ : Mem w st) (_ : st tb = none) (_ : At st d t nx) (_ : ∀ q, nx = some q → st q ≠ none ∧ q ∉ bks d t) (_ : Srt (els d t)) (_ : Mn d t) (_ : d = 0 ∨ 2 ≤ cnt d t)
    (_ : VBlk treeT w tb (trC root size (N + (bks d t).length))) (_ : N + (bks d t).length < 4611686018427387904),
    Calls Try.prog 31 #[.pointer (some ⟨tb, 0, none⟩), .pointer (some ⟨blk d t, 0, none⟩), .string k] w (CutPost w st tb root size N k d t nx)
  | 0, w, st, tb, size, N, root, k, t, nx, hm, hno, hat, _, hs, hmn, _, hh, _ => by
    obtain ⟨b, es⟩ := t
    exact tcut_leaf hm hno hat hs hmn hh
  | d + 1, w, st, tb, size, N, root, k, t, nx, hm, hno, hat, hnx, hs, hmn, h2, hh, hbig => by
    obtain ⟨b, ks⟩ := t
    have hat : At st (d + 1) (mkS b ks) nx := hat
    have h2 : 2 ≤ ks.length := by rcases h2 with e | e; cases e; exact e
    obtain ⟨hk8, hks⟩ : ks.length ≤ 8 ∧ ∀ s ∈ ks, 4 ≤ cnt d s ∧ Mn d s := Mn_mkS.1 hmn
    have hs : Srt (ks.flatMap (els d)) := hs
    show Calls Try.prog 31 #[.pointer (some ⟨tb, 0, none⟩), .pointer (some ⟨b, 0, none⟩), .string k] w (CutPost w st tb root size N k (d + 1) (mkS b ks) nx)
    refine enter (args := [.pointer (some ⟨tb, 0, none⟩), .pointer (some ⟨b, 0, none⟩), .string k]) Try.func31 rfl Try.ntmps31 rfl ?_
    have hps := PS.start hm hno
    have hb : st b = some ⟨false, ks.map (kidE d), none⟩ := (RepI_mkS.1 hat.rep).1
    obtain ⟨-, pb, vb⟩ := hm _ _ hb
    have hbt : tb ≠ b := fun e => by rw [← e, hno] at hb; cases hb
    have hml : ∀ l : List (Tr d), (l.map (kidE d)).length = l.length := fun l => List.length_map ..
    have l0 : w.cell? ⟨b, 0, none⟩ = some (.bool false) := cellR vb (by omega)
    repeat (first | ((with_reducible refine WL.topT ?_ ?_); omega) | ((with_reducible refine WL.topF ?_ ?_); omega) | ((with_reducible refine WL.top64 ?_ ?_); omega) | refine WC.seq ?_ | refine WC.block ?_ | refine WC.region ?_ | refine WL.nil ?_ | refine WC.skip ?_ | refine WC.exit ?_ | refine WC.ret ?_ | refine WQ.then rfl ?_ | refine WQ.thenExit ?_ | refine WQ.thenRet ?_ | refine WQ.blk ?_ | refine WQ.blkRet ?_ | refine WQ.blkHere rfl ?_ | refine WQ.blkOther rfl ?_ | refine WL.pure rfl rfl rfl rfl ?_ | refine WL.on rfl rfl ?_ | refine WL.off rfl rfl rfl ?_ | refine WL.load rfl rfl rfl rfl rfl rfl (by assumption) ?_ | refine WC.condTrue rfl ?_ | refine WC.condFalse rfl ?_)
    refine WL.call rfl rfl rfl rfl rfl Try.func26 rfl (by kernel_rfl) (kid_any (key := k) vb (by show (ks.map (kidE d)).length ≤ 8; rw [hml]; omega) (by show 1 ≤ (ks.map (kidE d)).length; rw [hml]; omega)) ?_
    rintro _ w3 ⟨rfl, rfl⟩
    refine ⟨_, rfl, ?_⟩
    obtain ⟨l, s, r, hke, hki, hlo, hhi, -⟩ := kid_cut (k := k) (fun x hx => els_ne (hks x hx).2 (by have := (hks x hx).1; omega)) hs (fun e => by rw [e] at h2; simp at h2)
    simp only [keys_kid, hml]
    rw [← hki]
    subst hke
    clear hki l0
    have hl7 : l.length < 8 := by simp only [List.length_append, List.length_cons] at hk8; omega
    have hkd := kidR vb (i := l.length) (q := blk d s) (by omega) (by show (((l ++ s :: r).map (kidE d)).getD l.length noE).kid = _; rw [kid_at]; rfl)
    have hss : Srt (els d s) := by
      rw [List.flatMap_append, List.flatMap_cons] at hs
      exact (srt_app.1 (srt_app.1 hs).2.1).1
    have hsm := hks s (by simp)
    have hbk : (bks (d + 1) (mkS b (l ++ s :: r))).length = 1 + (l.flatMap (bks d)).length + (bks d s).length + (r.flatMap (bks d)).length := by
      rw [bks_mkS]; simp only [List.flatMap_append, List.flatMap_cons, List.length_cons, List.length_append]; omega
    have hbs := parts3 hat.nodup
    obtain ⟨N', hN'⟩ : ∃ N', N + 1 + (l.flatMap (bks d)).length + (r.flatMap (bks d)).length = N' := ⟨_, rfl⟩
    have hh' : VBlk treeT w3 tb (trC root size (N' + (bks d s).length)) := by
      have e : N + (bks (d + 1) (mkS b (l ++ s :: r))).length = N' + (bks d s).length := by omega
      have := hh
      rw [show N + (bks (d + 1) (b, l ++ s :: r)).length = N' + (bks d s).length from e] at this
      exact this
    have hbig' : N' + (bks d s).length < 4611686018427387904 := by
      have : N + (bks (d + 1) (mkS b (l ++ s :: r))).length < 4611686018427387904 := hbig
      omega
    repeat (first | ((with_reducible refine WL.topT ?_ ?_); omega) | ((with_reducible refine WL.topF ?_ ?_); omega) | ((with_reducible refine WL.top64 ?_ ?_); omega) | refine WC.seq ?_ | refine WC.block ?_ | refine WC.region ?_ | refine WL.nil ?_ | refine WC.skip ?_ | refine WC.exit ?_ | refine WC.ret ?_ | refine WQ.then rfl ?_ | refine WQ.thenExit ?_ | refine WQ.thenRet ?_ | refine WQ.blk ?_ | refine WQ.blkRet ?_ | refine WQ.blkHere rfl ?_ | refine WQ.blkOther rfl ?_ | refine WL.pure rfl rfl rfl rfl ?_ | refine WL.on rfl rfl ?_ | refine WL.off rfl rfl rfl ?_ | refine WC.condTrue rfl ?_ | refine WC.condFalse rfl ?_)
    refine WL.idxA l.length (18 + l.length) rfl rfl rfl rfl rfl rfl rfl rfl (by omega) (by omega) ?_
    refine WL.load rfl rfl rfl rfl rfl rfl hkd ?_
    repeat (first | ((with_reducible refine WL.topT ?_ ?_); omega) | ((with_reducible refine WL.topF ?_ ?_); omega) | ((with_reducible refine WL.top64 ?_ ?_); omega) | refine WC.seq ?_ | refine WC.block ?_ | refine WC.region ?_ | refine WL.nil ?_ | refine WC.skip ?_ | refine WC.exit ?_ | refine WC.ret ?_ | refine WQ.then rfl ?_ | refine WQ.thenExit ?_ | refine WQ.thenRet ?_ | refine WQ.blk ?_ | refine WQ.blkRet ?_ | refine WQ.blkHere rfl ?_ | refine WQ.blkOther rfl ?_ | refine WL.pure rfl rfl rfl rfl ?_ | refine WL.on rfl rfl ?_ | refine WL.off rfl rfl rfl ?_ | refine WC.condTrue rfl ?_ | refine WC.condFalse rfl ?_)
    refine WL.call rfl rfl rfl rfl rfl Try.func31 rfl (by kernel_rfl) (tcut_any d (k := k) hm hno (At_sub hat) (At_next hat hnx) hss hsm.2 (by omega) hh' hbig') ?_
    rintro _ w4 ⟨rfl, st4, s', hcr, hps4, hd4, hel4, hmn4, hlow4, hh4, hbl4⟩
    refine ⟨_, rfl, ?_⟩
    have hget : getL k (els (d + 1) (mkS b (l ++ s :: r))) = getL k (els d s) := by
      rw [els_mkS, List.flatMap_append, List.flatMap_cons, getL_lo hlo, getL_hi hhi]
    -- the kid's key anew
    have hb4 : st4 b = some ⟨false, (l ++ s :: r).map (kidE d), none⟩ := by
      rw [hcr.same b (fun e => (List.nodup_cons.1 hbs).1 (List.mem_append_left _ e))]; exact hb
    obtain ⟨-, pb4, vb4⟩ := hps4.mem _ _ hb4
    have hkd4 := kidR vb4 (i := l.length) (q := blk d s) (by omega) (by show (((l ++ s :: r).map (kidE d)).getD l.length noE).kid = _; rw [kid_at]; rfl)
    obtain ⟨nxs, hs4, -⟩ := nodeAt hcr.here.rep hcr.here.lnk
    rw [hcr.blk] at hs4
    obtain ⟨-, ps4, vs4⟩ := hps4.mem _ _ hs4
    obtain ⟨C, hC⟩ : ∃ C, cnt d s' = C := ⟨_, rfl⟩
    have hC3 : 3 ≤ C := by omega
    have hC8 : C ≤ 8 := by rw [← hC]; exact hmn4.le
    have hcl : (ents d s').length = C := by rw [ents_len, hC]
    have hcs := cntR vs4 hcl
    have q1 := keyR vs4 (i := 0) (by omega)
    simp only [ents_key0 hmn4 (by omega : 1 ≤ cnt d s')] at q1
    repeat (first | ((with_reducible refine WL.topT ?_ ?_); omega) | ((with_reducible refine WL.topF ?_ ?_); omega) | ((with_reducible refine WL.top64 ?_ ?_); omega) | refine WC.seq ?_ | refine WC.block ?_ | refine WC.region ?_ | refine WL.nil ?_ | refine WC.skip ?_ | refine WC.exit ?_ | refine WC.ret ?_ | refine WQ.then rfl ?_ | refine WQ.thenExit ?_ | refine WQ.thenRet ?_ | refine WQ.blk ?_ | refine WQ.blkRet ?_ | refine WQ.blkHere rfl ?_ | refine WQ.blkOther rfl ?_ | refine WL.pure rfl rfl rfl rfl ?_ | refine WL.on rfl rfl ?_ | refine WL.off rfl rfl rfl ?_ | refine WC.condTrue rfl ?_ | refine WC.condFalse rfl ?_)
    refine WL.idxA l.length (18 + l.length) rfl rfl rfl rfl rfl rfl rfl rfl (by omega) (by omega) ?_
    refine WL.load rfl rfl rfl rfl rfl rfl hkd4 ?_
    repeat (first | ((with_reducible refine WL.topT ?_ ?_); omega) | ((with_reducible refine WL.topF ?_ ?_); omega) | ((with_reducible refine WL.top64 ?_ ?_); omega) | refine WC.seq ?_ | refine WC.block ?_ | refine WC.region ?_ | refine WL.nil ?_ | refine WC.skip ?_ | refine WC.exit ?_ | refine WC.ret ?_ | refine WQ.then rfl ?_ | refine WQ.thenExit ?_ | refine WQ.thenRet ?_ | refine WQ.blk ?_ | refine WQ.blkRet ?_ | refine WQ.blkHere rfl ?_ | refine WQ.blkOther rfl ?_ | refine WL.pure rfl rfl rfl rfl ?_ | refine WL.on rfl rfl ?_ | refine WL.off rfl rfl rfl ?_ | refine WL.load rfl rfl rfl rfl rfl rfl (by assumption) ?_ | refine WC.condTrue rfl ?_ | refine WC.condFalse rfl ?_)
    refine WC.drawn 15 (fun wx => wx.heap = w4.heap) fun w5 hd => ?_
    have hS : w5.heap = w4.heap := hd.heap
    have hps5 := hps4.step (hps4.mem.below (hd.below _)) hps4.no (Keep.ofDrew hd _) fun x hx => .inl hx
    have vb5 := vb4.below (hd.below _) vb4.lt
    have hh5 := hh4.below (hd.below _) hh4.lt
    clear hd
    (((first | refine WD.free 0 rfl (by kernel_rfl) rfl rfl (fun _ _ _ _ _ h => h) rfl rfl (.inr hS) ?_ | refine WD.skip 0 rfl (by kernel_rfl) rfl rfl (fun _ _ _ _ _ h => h) rfl (.inr hS) ?_); try (first | ((with_reducible refine WD.topT ?_ ?_); omega) | ((with_reducible refine WD.topF ?_ ?_); omega) | ((with_reducible refine WD.top64 ?_ ?_); omega))); ((first | refine WD.free 1 rfl (by kernel_rfl) rfl rfl (fun _ _ _ _ _ h => h) rfl rfl (.inr hS) ?_ | refine WD.skip 1 rfl (by kernel_rfl) rfl rfl (fun _ _ _ _ _ h => h) rfl (.inr hS) ?_); try (first | ((with_reducible refine WD.topT ?_ ?_); omega) | ((with_reducible refine WD.topF ?_ ?_); omega) | ((with_reducible refine WD.top64 ?_ ?_); omega))); ((first | refine WD.free 2 rfl (by kernel_rfl) rfl rfl (fun _ _ _ _ _ h => h) rfl rfl (.inr hS) ?_ | refine WD.skip 2 rfl (by kernel_rfl) rfl rfl (fun _ _ _ _ _ h => h) rfl (.inr hS) ?_); try (first | ((with_reducible refine WD.topT ?_ ?_); omega) | ((with_reducible refine WD.topF ?_ ?_); omega) | ((with_reducible refine WD.top64 ?_ ?_); omega))); ((first | refine WD.free 3 rfl (by kernel_rfl) rfl rfl (fun _ _ _ _ _ h => h) rfl rfl (.inr hS) ?_ | refine WD.skip 3 rfl (by kernel_rfl) rfl rfl (fun _ _ _ _ _ h => h) rfl (.inr hS) ?_); try (first | ((with_reducible refine WD.topT ?_ ?_); omega) | ((with_reducible refine WD.topF ?_ ?_); omega) | ((with_reducible refine WD.top64 ?_ ?_); omega))); ((first | refine WD.free 4 rfl (by kernel_rfl) rfl rfl (fun _ _ _ _ _ h => h) rfl rfl (.inr hS) ?_ | refine WD.skip 4 rfl (by kernel_rfl) rfl rfl (fun _ _ _ _ _ h => h) rfl (.inr hS) ?_); try (first | ((with_reducible refine WD.topT ?_ ?_); omega) | ((with_reducible refine WD.topF ?_ ?_); omega) | ((with_reducible refine WD.top64 ?_ ?_); omega))); ((first | refine WD.free 5 rfl (by kernel_rfl) rfl rfl (fun _ _ _ _ _ h => h) rfl rfl (.inr hS) ?_ | refine WD.skip 5 rfl (by kernel_rfl) rfl rfl (fun _ _ _ _ _ h => h) rfl (.inr hS) ?_); try (first | ((with_reducible refine WD.topT ?_ ?_); omega) | ((with_reducible refine WD.topF ?_ ?_); omega) | ((with_reducible refine WD.top64 ?_ ?_); omega))))
    refine WD.idxA 6 l.length (18 + l.length) rfl (by kernel_rfl) rfl rfl (fun _ _ _ _ _ h => h) rfl rfl rfl rfl rfl rfl (by omega) (by omega) (.inr hS) ?_
    refine WD.load 7 [8, 9, 10, 11, 14, 15] rfl (by kernel_rfl) rfl rfl (fun _ _ _ _ _ h => h) rfl rfl rfl rfl (fun wx hx => (heap_cell hx _).trans hkd4) hS ?_
    (((first | refine WD.free 8 rfl (by kernel_rfl) rfl rfl (fun _ _ _ _ _ h => h) rfl rfl (.inr hS) ?_ | refine WD.skip 8 rfl (by kernel_rfl) rfl rfl (fun _ _ _ _ _ h => h) rfl (.inr hS) ?_); try (first | ((with_reducible refine WD.topT ?_ ?_); omega) | ((with_reducible refine WD.topF ?_ ?_); omega) | ((with_reducible refine WD.top64 ?_ ?_); omega))); ((first | refine WD.free 9 rfl (by kernel_rfl) rfl rfl (fun _ _ _ _ _ h => h) rfl rfl (.inr hS) ?_ | refine WD.skip 9 rfl (by kernel_rfl) rfl rfl (fun _ _ _ _ _ h => h) rfl (.inr hS) ?_); try (first | ((with_reducible refine WD.topT ?_ ?_); omega) | ((with_reducible refine WD.topF ?_ ?_); omega) | ((with_reducible refine WD.top64 ?_ ?_); omega))))
    refine WD.idxA 10 0 2 rfl (by kernel_rfl) rfl rfl (fun _ _ _ _ _ h => h) rfl rfl rfl rfl rfl rfl (by omega) (by omega) (.inr hS) ?_
    refine WD.load 11 [14, 15] rfl (by kernel_rfl) rfl rfl (fun _ _ _ _ _ h => h) rfl rfl rfl rfl (fun wx hx => (heap_cell hx _).trans q1) hS ?_
    (((first | refine WD.free 12 rfl (by kernel_rfl) rfl rfl (fun _ _ _ _ _ h => h) rfl rfl (.inr hS) ?_ | refine WD.skip 12 rfl (by kernel_rfl) rfl rfl (fun _ _ _ _ _ h => h) rfl (.inr hS) ?_); try (first | ((with_reducible refine WD.topT ?_ ?_); omega) | ((with_reducible refine WD.topF ?_ ?_); omega) | ((with_reducible refine WD.top64 ?_ ?_); omega))); ((first | refine WD.free 13 rfl (by kernel_rfl) rfl rfl (fun _ _ _ _ _ h => h) rfl rfl (.inr hS) ?_ | refine WD.skip 13 rfl (by kernel_rfl) rfl rfl (fun _ _ _ _ _ h => h) rfl (.inr hS) ?_); try (first | ((with_reducible refine WD.topT ?_ ?_); omega) | ((with_reducible refine WD.topF ?_ ?_); omega) | ((with_reducible refine WD.top64 ?_ ?_); omega))))
    refine WD.idxA 14 l.length (2 + l.length) rfl (by kernel_rfl) rfl rfl (fun _ _ _ _ _ h => h) rfl rfl rfl rfl rfl rfl (by omega) (by omega) (.inr hS) ?_
    refine WD.one 15 (by kernel_rfl) rfl ?_
    refine WL.store rfl rfl rfl rfl rfl rfl (by kernel_rfl) (cellR vb5 (by omega)) (vb5.free _) ?_
    have vb6 := setR vb5 (2 + l.length) (.string (fk d s'))
    rw [row_key _ _ (by show l.length < ((l ++ s :: r).map (kidE d)).length; rw [hml]; simp) (by show ((l ++ s :: r).map (kidE d)).length ≤ 8; rw [hml]; exact hk8)] at vb6
    have hset : ((l ++ s :: r).map (kidE d)).set l.length ⟨fk d s', (((l ++ s :: r).map (kidE d)).getD l.length noE).num, (((l ++ s :: r).map (kidE d)).getD l.length noE).kid⟩ = (l ++ s' :: r).map (kidE d) := by
      rw [set_kid, kid_at]
      simp only [List.map_append, List.map_cons, kidE]
      rw [hcr.blk]
    simp only [hset] at vb6
    have k6 : Keep (fun x => x ≠ b) w5 (w5.setCell ⟨b, 2 + l.length, none⟩ (.string (fk d s'))) := (Keep.refl _ _).setCell (fun hk => hk rfl) _
    have hlen' : (l ++ s' :: r).length = (l ++ s :: r).length := by simp
    have hps6 := hps5.node (b := b) (by rw [hb4]; simp) k6 (by show ((l ++ s' :: r).map (kidE d)).length ≤ 8; rw [hml, hlen']; exact hk8) vb6
    have hh6 := hh5.keep k6 hbt
    generalize w5.setCell ⟨b, 2 + l.length, none⟩ (.string (fk d s')) = w6 at vb6 k6 hps6 hh6 ⊢
    refine WL.nil (WQ.dk (.inl rfl) ?_)
    refine WD.done (by kernel_rfl) ?_
    have hcut := CutR.kid hat hcr
    obtain ⟨st6, hst6⟩ : ∃ st6, upd st4 b ⟨false, (l ++ s' :: r).map (kidE d), none⟩ = st6 := ⟨_, rfl⟩
    rw [hst6] at hps6 hcut
    have hd6 : ∀ x, st6 x ≠ none → st x ≠ none := fun x hx => by
      by_cases e : x = b
      · rw [e, hb]; simp
      · rw [← hst6, upd_ne e] at hx; exact hd4 x hx
    have hel6 : els (d + 1) (mkS b (l ++ s' :: r)) = delL k (els (d + 1) (mkS b (l ++ s :: r))) := by
      rw [els_mkS, els_mkS, List.flatMap_append, List.flatMap_append, List.flatMap_cons, List.flatMap_cons, delL_app, delL_app, delL_lo hlo, delL_hi hhi, hel4]
    have hb6 : st6 b = some ⟨false, (l ++ s' :: r).map (kidE d), none⟩ := by rw [← hst6, upd_eq]
    have hs6 : st6 (blk d s) = some ⟨d == 0, ents d s', nxs⟩ := by
      rw [← hst6, upd_ne (fun e => (List.nodup_cons.1 hbs).1 (by rw [← e]; exact List.mem_append_left _ (blk_mem d s)))]; exact hs4
    obtain ⟨-, ps6, vs6⟩ := hps6.mem _ _ hs6
    have hcs6 := cntR vs6 hcl
    have hkd6 := kidR vb6 (i := l.length) (q := blk d s) (by omega) (by show (((l ++ s' :: r).map (kidE d)).getD l.length noE).kid = _; rw [kid_at]; show some (blk d s') = _; rw [hcr.blk])
    have hcb6 := cntR vb6 (n := (l ++ s :: r).length) (by show ((l ++ s' :: r).map (kidE d)).length = _; rw [hml, hlen'])
    have hbk' : (bks (d + 1) (mkS b (l ++ s' :: r))).length = 1 + (l.flatMap (bks d)).length + (bks d s').length + (r.flatMap (bks d)).length := by
      rw [bks_mkS]; simp only [List.flatMap_append, List.flatMap_cons, List.length_cons, List.length_append]; omega
    have hh6' : VBlk treeT w6 tb (trC root size (N + (bks (d + 1) (mkS b (l ++ s' :: r))).length)) := by
      rw [hbk', show N + (1 + (l.flatMap (bks d)).length + (bks d s').length + (r.flatMap (bks d)).length) = N' + (bks d s').length by omega]; exact hh6
    have fin : ∀ {wz : World}, (∃ st' t', CutR st st' (d + 1) (mkS b (l ++ s :: r)) t' nx ∧ PS w3 st tb wz st' ∧ (∀ x, st' x ≠ none → st x ≠ none) ∧ els (d + 1) t' = delL k (els (d + 1) (mkS b (l ++ s :: r))) ∧ Mn (d + 1) t' ∧ cnt (d + 1) (mkS b (l ++ s :: r)) ≤ cnt (d + 1) t' + 1 ∧ VBlk treeT wz tb (trC root size (N + (bks (d + 1) t').length)) ∧ (bks (d + 1) t').length ≤ (bks (d + 1) (mkS b (l ++ s :: r))).length) →
        CutPost w3 st tb root size N k (d + 1) (mkS b (l ++ s :: r)) nx (.returned (.tuple #[.int .i64 ((getL k (els d s)).getD 0), .bool (getL k (els d s)).isSome])) wz := fun h => ⟨by rw [hget], h⟩
    clear hcs q1 hkd hkd4 vs4 vb4 vb5 vb hh hh4 hh5 hh6 hh' hps4 hps5
    by_cases hC4 : 4 ≤ C
    · repeat (first | ((with_reducible refine WL.topT ?_ ?_); omega) | ((with_reducible refine WL.topF ?_ ?_); omega) | ((with_reducible refine WL.top64 ?_ ?_); omega) | refine WC.seq ?_ | refine WC.block ?_ | refine WC.region ?_ | refine WL.nil ?_ | refine WC.skip ?_ | refine WC.exit ?_ | refine WC.ret ?_ | refine WQ.then rfl ?_ | refine WQ.thenExit ?_ | refine WQ.thenRet ?_ | refine WQ.blk ?_ | refine WQ.blkRet ?_ | refine WQ.blkHere rfl ?_ | refine WQ.blkOther rfl ?_ | refine WL.pure rfl rfl rfl rfl ?_ | refine WL.on rfl rfl ?_ | refine WL.off rfl rfl rfl ?_ | refine WC.condTrue rfl ?_ | refine WC.condFalse rfl ?_)
      refine WL.idxA l.length (18 + l.length) rfl rfl rfl rfl rfl rfl rfl rfl (by omega) (by omega) ?_
      refine WL.load rfl rfl rfl rfl rfl rfl hkd6 ?_
      repeat (first | ((with_reducible refine WL.topT ?_ ?_); omega) | ((with_reducible refine WL.topF ?_ ?_); omega) | ((with_reducible refine WL.top64 ?_ ?_); omega) | refine WC.seq ?_ | refine WC.block ?_ | refine WC.region ?_ | refine WL.nil ?_ | refine WC.skip ?_ | refine WC.exit ?_ | refine WC.ret ?_ | refine WQ.then rfl ?_ | refine WQ.thenExit ?_ | refine WQ.thenRet ?_ | refine WQ.blk ?_ | refine WQ.blkRet ?_ | refine WQ.blkHere rfl ?_ | refine WQ.blkOther rfl ?_ | refine WL.pure rfl rfl rfl rfl ?_ | refine WL.on rfl rfl ?_ | refine WL.off rfl rfl rfl ?_ | refine WL.load rfl rfl rfl rfl rfl rfl (by assumption) ?_ | refine WC.condTrue rfl ?_ | refine WC.condFalse rfl ?_)
      refine WQ.ret2 rfl rfl rfl (fin ⟨st6, mkS b (l ++ s' :: r), hcut, hps6, hd6, hel6, Mn_of (by rw [hlen']; exact hk8) fun x hx => ?_, by rw [cnt_mkS, cnt_mkS, hlen']; exact Nat.le_succ _, hh6', by omega⟩)
      simp only [List.mem_append, List.mem_cons] at hx
      rcases hx with hx | rfl | hx
      · exact hks x (by simp [hx])
      · exact ⟨by omega, hmn4⟩
      · exact hks x (by simp [hx])
    · obtain rfl : C = 3 := by omega
      have hnx6 : ∀ q, nx = some q → st6 q ≠ none := fun q hq => by
        obtain ⟨h1, h2⟩ := hnx q hq
        rw [hcut.same q h2]
        exact h1
      repeat (first | ((with_reducible refine WL.topT ?_ ?_); omega) | ((with_reducible refine WL.topF ?_ ?_); omega) | ((with_reducible refine WL.top64 ?_ ?_); omega) | refine WC.seq ?_ | refine WC.block ?_ | refine WC.region ?_ | refine WL.nil ?_ | refine WC.skip ?_ | refine WC.exit ?_ | refine WC.ret ?_ | refine WQ.then rfl ?_ | refine WQ.thenExit ?_ | refine WQ.thenRet ?_ | refine WQ.blk ?_ | refine WQ.blkRet ?_ | refine WQ.blkHere rfl ?_ | refine WQ.blkOther rfl ?_ | refine WL.pure rfl rfl rfl rfl ?_ | refine WL.on rfl rfl ?_ | refine WL.off rfl rfl rfl ?_ | refine WC.condTrue rfl ?_ | refine WC.condFalse rfl ?_)
      refine WL.idxA l.length (18 + l.length) rfl rfl rfl rfl rfl rfl rfl rfl (by omega) (by omega) ?_
      refine WL.load rfl rfl rfl rfl rfl rfl hkd6 ?_
      repeat (first | ((with_reducible refine WL.topT ?_ ?_); omega) | ((with_reducible refine WL.topF ?_ ?_); omega) | ((with_reducible refine WL.top64 ?_ ?_); omega) | refine WC.seq ?_ | refine WC.block ?_ | refine WC.region ?_ | refine WL.nil ?_ | refine WC.skip ?_ | refine WC.exit ?_ | refine WC.ret ?_ | refine WQ.then rfl ?_ | refine WQ.thenExit ?_ | refine WQ.thenRet ?_ | refine WQ.blk ?_ | refine WQ.blkRet ?_ | refine WQ.blkHere rfl ?_ | refine WQ.blkOther rfl ?_ | refine WL.pure rfl rfl rfl rfl ?_ | refine WL.on rfl rfl ?_ | refine WL.off rfl rfl rfl ?_ | refine WL.load rfl rfl rfl rfl rfl rfl (by assumption) ?_ | refine WC.condTrue rfl ?_ | refine WC.condFalse rfl ?_)
      obtain ⟨p, a, c, q, hpq, hpl, hp4, hq4, hma, hmc, ha3, hc3, h33⟩ : ∃ p a c q, l ++ s' :: r = p ++ a :: c :: q ∧ p.length = l.length - 1 ∧ (∀ x ∈ p, 4 ≤ cnt d x ∧ Mn d x) ∧ (∀ x ∈ q, 4 ≤ cnt d x ∧ Mn d x) ∧ Mn d a ∧ Mn d c ∧ 3 ≤ cnt d a ∧ 3 ≤ cnt d c ∧ (cnt d a = 3 ∨ cnt d c = 3) := by
        by_cases hl : l = []
        · subst hl
          cases r with
          | nil => simp at h2
          | cons c q =>
            have hc := hks c (by simp)
            exact ⟨[], s', c, q, rfl, rfl, fun x hx => (by cases hx), fun x hx => hks x (by simp [hx]), hmn4, hc.2, by omega, by omega, .inl hC⟩
        · obtain ⟨p, a, rfl⟩ := list_last l hl
          have ha := hks a (by simp)
          exact ⟨p, a, s', r, by simp, by simp, fun x hx => hks x (by simp [hx]), fun x hx => hks x (by simp [hx]), ha.2, hmn4, by omega, by omega, .inr hC⟩
      have hct : cnt (d + 1) (mkS b (l ++ s :: r)) = (p ++ a :: c :: q).length := by rw [← hpq, cnt_mkS, hlen']
      have hl8 : (p ++ a :: c :: q).length ≤ 8 := by rw [← hpq, hlen']; exact hk8
      rw [hpq] at hcut hel6 hh6'
      obtain ⟨m, hmm⟩ : ∃ m, m + 1 = N + (bks (d + 1) (mkS b (p ++ a :: c :: q))).length := ⟨N + (bks (d + 1) (mkS b (p ++ a :: c :: q))).length - 1, by rw [bks_mkS, List.length_cons]; omega⟩
      rw [← hmm] at hh6'
      have hmb : m < 4611686018427387904 := by
        have e := hbk'
        rw [hpq] at e
        omega
      refine WL.as 107 (.int .i64 p.length) rfl (congrArg (Value.int .i64) (by rw [hpl]; show (if ((l.length : Int) - 1) > 0 then ((l.length : Int) - 1) else 0) = _; split <;> omega)) ?_
      refine WL.call rfl rfl rfl rfl rfl Try.func39 rfl (by kernel_rfl) (mends_any (p := p) (a := a) (c := c) (q := q) hps6.mem hps6.no hcut.here (At_valid hcut.here hnx6 (by simp)) hma hmc ha3 hc3 h33 hl8 hh6' hmb) ?_
      rintro _ w7 ⟨rfl, h7⟩
      refine ⟨_, rfl, ?_⟩
      repeat (first | ((with_reducible refine WL.topT ?_ ?_); omega) | ((with_reducible refine WL.topF ?_ ?_); omega) | ((with_reducible refine WL.top64 ?_ ?_); omega) | refine WC.seq ?_ | refine WC.block ?_ | refine WC.region ?_ | refine WL.nil ?_ | refine WC.skip ?_ | refine WC.exit ?_ | refine WC.ret ?_ | refine WQ.then rfl ?_ | refine WQ.thenExit ?_ | refine WQ.thenRet ?_ | refine WQ.blk ?_ | refine WQ.blkRet ?_ | refine WQ.blkHere rfl ?_ | refine WQ.blkOther rfl ?_ | refine WL.pure rfl rfl rfl rfl ?_ | refine WL.on rfl rfl ?_ | refine WL.off rfl rfl rfl ?_ | refine WC.condTrue rfl ?_ | refine WC.condFalse rfl ?_)
      exact WQ.ret2 rfl rfl rfl (fin (mend_out hcut hps6 hd6 hel6 hct hp4 hq4 hma hmc ha3 hc3 (by rw [← hpq]; omega) hl8 hmm h7))
end K
end Go.Proofs.Ytilmfnlaenneeaa

/- Trees (chapter 13): Delete. -/
namespace Go.Proofs.Ytilmfnlaenneeaa
open Go.RowKit
namespace K
open Tre
theorem delL_length {k : Ky} {l : List KV} (h : Srt l) : (delL k l).length + (if (getL k l).isSome then 1 else 0) = l.length := by
  have hp := plc_le k (l.map Prod.fst)
  rw [List.length_map] at hp
  rw [del_at h, getL_at h]
  by_cases c : (l.map Prod.fst)[plc k (l.map Prod.fst)]? = some k
  · have hlt : plc k (l.map Prod.fst) < l.length := by
      rcases Nat.lt_or_ge (plc k (l.map Prod.fst)) l.length with h | h
      · exact h
      · rw [List.getElem?_eq_none (by simpa using h)] at c; cases c
    rw [if_pos c, if_pos c, List.getElem?_eq_getElem hlt]
    simp only [List.length_append, List.length_take, List.length_drop, Option.map_some, Option.isSome_some, if_true]
    omega
  · rw [if_neg c, if_neg c]
    simp
/-- A tree whose root may have to go. -/
structure DX where
  D : Nat
  T : Tr D
structure DW (w : World) (st : St) (tb : Nat) (L : List KV) (w' : World) (x : DX) (st' : St) : Prop where
  ps : PS w st tb w' st'
  here : At st' x.D x.T none
  el : els x.D x.T = L
  mn : Mn x.D x.T
  one : x.D = 0 ∨ 1 ≤ cnt x.D x.T
  hdr : VBlk treeT w' tb (trC (some (blk x.D x.T)) L.length (bks x.D x.T).length)
set_option maxRecDepth 20000 in
set_option maxHeartbeats 8000000 in
theorem tdel_any {w : World} {st : St} {tb : Nat} {l : List KV} (h : IsT w st tb l) (k : Ky) (hl : l.length < 1000000000) :
    Calls Try.prog 14 #[.pointer (some ⟨tb, 0, none⟩), .string k] w fun e w' => ∃ st', e = .returned (.tuple #[.int .i64 ((getL k l).getD 0), .bool (getL k l).isSome]) ∧ IsT w' st' tb (delL k l) ∧ Keep (Out st tb w) w w' ∧ New st w st' := by
  refine enter (args := [.pointer (some ⟨tb, 0, none⟩), .string k]) Try.func14 rfl Try.ntmps14 rfl ?_
  obtain ⟨hm, htb, root, nn, ht, hok⟩ := h
  have hsl := hok.srt
  have hps := PS.start hm htb
  have h0 : w.cell? ⟨tb, 0, none⟩ = some (ptrV root) := ht.cell 0 (by simp [trC])
  repeat (first | ((with_reducible refine WL.topT ?_ ?_); omega) | ((with_reducible refine WL.topF ?_ ?_); omega) | ((with_reducible refine WL.top64 ?_ ?_); omega) | refine WC.seq ?_ | refine WC.block ?_ | refine WC.region ?_ | refine WL.nil ?_ | refine WC.skip ?_ | refine WC.exit ?_ | refine WC.ret ?_ | refine WQ.then rfl ?_ | refine WQ.thenExit ?_ | refine WQ.thenRet ?_ | refine WQ.blk ?_ | refine WQ.blkRet ?_ | refine WQ.blkHere rfl ?_ | refine WQ.blkOther rfl ?_ | refine WL.pure rfl rfl rfl rfl ?_ | refine WL.on rfl rfl ?_ | refine WL.off rfl rfl rfl ?_ | refine WC.condTrue rfl ?_ | refine WC.condFalse rfl ?_)
  refine WL.nilP rfl rfl rfl rfl rfl rfl (by kernel_rfl) ?_
  repeat (first | ((with_reducible refine WL.topT ?_ ?_); omega) | ((with_reducible refine WL.topF ?_ ?_); omega) | ((with_reducible refine WL.top64 ?_ ?_); omega) | refine WC.seq ?_ | refine WC.block ?_ | refine WC.region ?_ | refine WL.nil ?_ | refine WC.skip ?_ | refine WC.exit ?_ | refine WC.ret ?_ | refine WQ.then rfl ?_ | refine WQ.thenExit ?_ | refine WQ.thenRet ?_ | refine WQ.blk ?_ | refine WQ.blkRet ?_ | refine WQ.blkHere rfl ?_ | refine WQ.blkOther rfl ?_ | refine WL.pure rfl rfl rfl rfl ?_ | refine WL.on rfl rfl ?_ | refine WL.off rfl rfl rfl ?_ | refine WL.load rfl rfl rfl rfl rfl rfl (by assumption) ?_ | refine WC.condTrue rfl ?_ | refine WC.condFalse rfl ?_)
  refine WL.as 14 (.pointer (root.map fun b => ⟨b, 0, none⟩)) rfl (by cases root <;> rfl) ?_
  refine WL.nilP rfl rfl rfl rfl rfl rfl (by kernel_rfl) ?_
  rcases hok with ⟨rfl, rfl, rfl⟩ | ⟨D, T, rfl, hg, rfl, hc1⟩
  · repeat (first | ((with_reducible refine WL.topT ?_ ?_); omega) | ((with_reducible refine WL.topF ?_ ?_); omega) | ((with_reducible refine WL.top64 ?_ ?_); omega) | refine WC.seq ?_ | refine WC.block ?_ | refine WC.region ?_ | refine WL.nil ?_ | refine WC.skip ?_ | refine WC.exit ?_ | refine WC.ret ?_ | refine WQ.then rfl ?_ | refine WQ.thenExit ?_ | refine WQ.thenRet ?_ | refine WQ.blk ?_ | refine WQ.blkRet ?_ | refine WQ.blkHere rfl ?_ | refine WQ.blkOther rfl ?_ | refine WL.pure rfl rfl rfl rfl ?_ | refine WL.on rfl rfl ?_ | refine WL.off rfl rfl rfl ?_ | refine WC.condTrue rfl ?_ | refine WC.condFalse rfl ?_)
    exact WQ.ret2 rfl rfl rfl ⟨st, rfl, ⟨hm, htb, none, 0, ht, .inl ⟨rfl, rfl, rfl⟩⟩, hps.keep, hps.new⟩
  have hfew := (Tre.few hg.mn hg.root).1
  rw [hg.el] at hfew
  have hh1 := hdrR ht
  repeat (first | ((with_reducible refine WL.topT ?_ ?_); omega) | ((with_reducible refine WL.topF ?_ ?_); omega) | ((with_reducible refine WL.top64 ?_ ?_); omega) | refine WC.seq ?_ | refine WC.block ?_ | refine WC.region ?_ | refine WL.nil ?_ | refine WC.skip ?_ | refine WC.exit ?_ | refine WC.ret ?_ | refine WQ.then rfl ?_ | refine WQ.thenExit ?_ | refine WQ.thenRet ?_ | refine WQ.blk ?_ | refine WQ.blkRet ?_ | refine WQ.blkHere rfl ?_ | refine WQ.blkOther rfl ?_ | refine WL.pure rfl rfl rfl rfl ?_ | refine WL.on rfl rfl ?_ | refine WL.off rfl rfl rfl ?_ | refine WL.load rfl rfl rfl rfl rfl rfl (by assumption) ?_ | refine WC.condTrue rfl ?_ | refine WC.condFalse rfl ?_)
  have hT : VBlk treeT w tb (trC (some (blk D T)) l.length (0 + (bks D T).length)) := by rw [Nat.zero_add]; exact ht
  clear h0
  obtain ⟨h0, h1, -⟩ := hh1
  repeat (first | ((with_reducible refine WL.topT ?_ ?_); omega) | ((with_reducible refine WL.topF ?_ ?_); omega) | ((with_reducible refine WL.top64 ?_ ?_); omega) | refine WC.seq ?_ | refine WC.block ?_ | refine WC.region ?_ | refine WL.nil ?_ | refine WC.skip ?_ | refine WC.exit ?_ | refine WC.ret ?_ | refine WQ.then rfl ?_ | refine WQ.thenExit ?_ | refine WQ.thenRet ?_ | refine WQ.blk ?_ | refine WQ.blkRet ?_ | refine WQ.blkHere rfl ?_ | refine WQ.blkOther rfl ?_ | refine WL.pure rfl rfl rfl rfl ?_ | refine WL.on rfl rfl ?_ | refine WL.off rfl rfl rfl ?_ | refine WL.load rfl rfl rfl rfl rfl rfl (by assumption) ?_ | refine WC.condTrue rfl ?_ | refine WC.condFalse rfl ?_)
  refine WL.call rfl rfl rfl rfl rfl Try.func31 rfl (by kernel_rfl) (tcut_any D (k := k) (nx := none) hm htb ⟨hg.rep, hg.lnk, hg.nodup⟩ (fun q hq => by cases hq) (by rw [hg.el]; exact hsl) hg.mn hg.root hT (by omega)) ?_
  rintro _ w1 ⟨rfl, st1, T1, hcr, hps1, -, hel1, hmn1, hlow1, hh1, -⟩
  refine ⟨_, rfl, ?_⟩
  rw [hg.el] at hel1
  rw [hg.el]
  rw [Nat.zero_add] at hh1
  have hdl := delL_length (k := k) hsl
  have hone : D = 0 ∨ 1 ≤ cnt D T1 := hg.root.imp id fun h => by omega
  obtain ⟨G, hG⟩ : ∃ G, getL k l = G := ⟨_, rfl⟩
  rw [hG] at hdl ⊢
  repeat (first | ((with_reducible refine WL.topT ?_ ?_); omega) | ((with_reducible refine WL.topF ?_ ?_); omega) | ((with_reducible refine WL.top64 ?_ ?_); omega) | refine WC.seq ?_ | refine WC.block ?_ | refine WC.region ?_ | refine WL.nil ?_ | refine WC.skip ?_ | refine WC.exit ?_ | refine WC.ret ?_ | refine WQ.then rfl ?_ | refine WQ.thenExit ?_ | refine WQ.thenRet ?_ | refine WQ.blk ?_ | refine WQ.blkRet ?_ | refine WQ.blkHere rfl ?_ | refine WQ.blkOther rfl ?_ | refine WL.pure rfl rfl rfl rfl ?_ | refine WL.on rfl rfl ?_ | refine WL.off rfl rfl rfl ?_ | refine WL.load rfl rfl rfl rfl rfl rfl (by assumption) ?_ | refine WC.condTrue rfl ?_ | refine WC.condFalse rfl ?_)
  -- one text less
  refine WC.mid (fun _ : Unit => [(0, .pointer (some ⟨tb, 0, none⟩)), (6, .int .i64 (G.getD 0)), (7, .bool G.isSome)]) (fun _ w' => DW w st tb (delL k l) w' ⟨D, T1⟩ st1) rfl ?_ ?_
  · cases G with
    | none =>
      have hdl' : (delL k l).length = l.length := by simpa using hdl
      refine WC.condFalse rfl ?_
      repeat (first | ((with_reducible refine WL.topT ?_ ?_); omega) | ((with_reducible refine WL.topF ?_ ?_); omega) | ((with_reducible refine WL.top64 ?_ ?_); omega) | refine WC.seq ?_ | refine WC.block ?_ | refine WC.region ?_ | refine WL.nil ?_ | refine WC.skip ?_ | refine WC.exit ?_ | refine WC.ret ?_ | refine WQ.then rfl ?_ | refine WQ.thenExit ?_ | refine WQ.thenRet ?_ | refine WQ.blk ?_ | refine WQ.blkRet ?_ | refine WQ.blkHere rfl ?_ | refine WQ.blkOther rfl ?_ | refine WL.pure rfl rfl rfl rfl ?_ | refine WL.on rfl rfl ?_ | refine WL.off rfl rfl rfl ?_ | refine WC.condTrue rfl ?_ | refine WC.condFalse rfl ?_)
      exact WQ.meet () ⟨rfl, rfl, rfl, trivial⟩ ⟨hps1, hcr.here, hel1, hmn1, hone, by rw [hdl', hcr.blk]; exact hh1⟩
    | some v =>
      have hdl' : (delL k l).length + 1 = l.length := by simpa using hdl
      refine WC.condTrue rfl ?_
      obtain ⟨-, h11, -⟩ := hdrR hh1
      repeat (first | ((with_reducible refine WL.topT ?_ ?_); omega) | ((with_reducible refine WL.topF ?_ ?_); omega) | ((with_reducible refine WL.top64 ?_ ?_); omega) | refine WC.seq ?_ | refine WC.block ?_ | refine WC.region ?_ | refine WL.nil ?_ | refine WC.skip ?_ | refine WC.exit ?_ | refine WC.ret ?_ | refine WQ.then rfl ?_ | refine WQ.thenExit ?_ | refine WQ.thenRet ?_ | refine WQ.blk ?_ | refine WQ.blkRet ?_ | refine WQ.blkHere rfl ?_ | refine WQ.blkOther rfl ?_ | refine WL.pure rfl rfl rfl rfl ?_ | refine WL.on rfl rfl ?_ | refine WL.off rfl rfl rfl ?_ | refine WL.load rfl rfl rfl rfl rfl rfl (by assumption) ?_ | refine WC.condTrue rfl ?_ | refine WC.condFalse rfl ?_)
      refine WL.store rfl rfl rfl rfl rfl rfl (by kernel_rfl) h11 (hh1.free 1) ?_
      have hh2 : VBlk treeT (w1.setCell ⟨tb, 1, none⟩ (.int .i64 ((l.length : Int) - 1))) tb (trC (some (blk D T)) (delL k l).length (bks D T1).length) := by
        have := hh1.set 1 (.int .i64 ((l.length : Int) - 1))
        rw [show ((l.length : Int) - 1) = ((delL k l).length : Int) by omega] at this ⊢
        exact this
      have hps2 := hps1.hdr 1 (.int .i64 ((l.length : Int) - 1))
      generalize w1.setCell ⟨tb, 1, none⟩ (.int .i64 ((l.length : Int) - 1)) = w2 at hh2 hps2 ⊢
      repeat (first | ((with_reducible refine WL.topT ?_ ?_); omega) | ((with_reducible refine WL.topF ?_ ?_); omega) | ((with_reducible refine WL.top64 ?_ ?_); omega) | refine WC.seq ?_ | refine WC.block ?_ | refine WC.region ?_ | refine WL.nil ?_ | refine WC.skip ?_ | refine WC.exit ?_ | refine WC.ret ?_ | refine WQ.then rfl ?_ | refine WQ.thenExit ?_ | refine WQ.thenRet ?_ | refine WQ.blk ?_ | refine WQ.blkRet ?_ | refine WQ.blkHere rfl ?_ | refine WQ.blkOther rfl ?_ | refine WL.pure rfl rfl rfl rfl ?_ | refine WL.on rfl rfl ?_ | refine WL.off rfl rfl rfl ?_ | refine WC.condTrue rfl ?_ | refine WC.condFalse rfl ?_)
      exact WQ.meet () ⟨rfl, rfl, rfl, trivial⟩ ⟨hps2, hcr.here, hel1, hmn1, hone, by rw [hcr.blk]; exact hh2⟩
  clear hh1 hps1 hcr hel1 hmn1 hlow1 hone hT ht h0 h1 hps hdl
  rintro ⟨⟩ w2 hdw
  have hsd : Srt (delL k l) := delL_srt hsl
  obtain ⟨L, hL⟩ : ∃ L, delL k l = L := ⟨_, rfl⟩
  rw [hL] at hdw hsd ⊢
  have hdone : ∀ {wz : World} {D' : Nat} {T' : Tr D'} {st' : St}, DW w st tb L wz ⟨D', T'⟩ st' → (D' = 0 ∨ 2 ≤ cnt D' T') → 1 ≤ cnt D' T' → ∃ st', (Ending.returned (.tuple #[.int .i64 (G.getD 0), .bool G.isSome])) = .returned (.tuple #[.int .i64 (G.getD 0), .bool G.isSome]) ∧ IsT wz st' tb L ∧ Keep (Out st tb w) w wz ∧ New st w st' :=
    fun {wz D' T' st'} hd h2 h1 => ⟨st', rfl, ⟨hd.ps.mem, hd.ps.no, _, _, hd.hdr, .inr ⟨D', T', rfl, ⟨hd.here.rep, hd.here.lnk, hd.here.nodup, hd.el, hsd, hd.mn, h2⟩, rfl, h1⟩⟩, hd.ps.keep, hd.ps.new⟩
  repeat (first | ((with_reducible refine WL.topT ?_ ?_); omega) | ((with_reducible refine WL.topF ?_ ?_); omega) | ((with_reducible refine WL.top64 ?_ ?_); omega) | refine WC.seq ?_ | refine WC.region ?_ | refine WL.nil ?_ | refine WC.skip ?_ | refine WC.exit ?_ | refine WC.ret ?_ | refine WQ.then rfl ?_ | refine WQ.thenExit ?_ | refine WQ.thenRet ?_ | refine WQ.blk ?_ | refine WQ.blkRet ?_ | refine WQ.blkHere rfl ?_ | refine WQ.blkOther rfl ?_ | refine WL.pure rfl rfl rfl rfl ?_ | refine WL.on rfl rfl ?_ | refine WL.off rfl rfl rfl ?_ | refine WL.load rfl rfl rfl rfl rfl rfl (by assumption) ?_ | refine WC.condTrue rfl ?_ | refine WC.condFalse rfl ?_)
  refine WC.block ?_
  refine WC.loop (fun x : DX => [(0, .pointer (some ⟨tb, 0, none⟩)), (6, .int .i64 (G.getD 0)), (7, .bool G.isSome)]) (fun x w' => ∃ st', DW w st tb L w' x st') (fun x => x.D) ⟨D, T1⟩ ⟨rfl, rfl, rfl, trivial⟩ ⟨st1, hdw⟩ ?_
  clear hdw
  rintro ⟨D', T'⟩ wr ⟨st', hdw⟩
  obtain ⟨h0, -, h2⟩ := hdrR hdw.hdr
  obtain ⟨nx, hs1, -⟩ := nodeAt hdw.here.rep hdw.here.lnk
  obtain ⟨-, pv, vr⟩ := hdw.ps.mem _ _ hs1
  have hlf : wr.cell? ⟨blk D' T', 0, none⟩ = some (.bool (D' == 0)) := cellR vr (by omega)
  obtain ⟨C, hC⟩ : ∃ C, cnt D' T' = C := ⟨_, rfl⟩
  have hC8 : C ≤ 8 := by rw [← hC]; exact hdw.mn.le
  have hcl : (ents D' T').length = C := by rw [ents_len, hC]
  have hcr := cntR vr hcl
  cases D' with
  | zero =>
    have hlf' : wr.cell? ⟨blk 0 T', 0, none⟩ = some (.bool true) := hlf
    clear hlf
    by_cases hz : C = 0
    · have hes : els 0 T' = [] := List.length_eq_zero_iff.1 (show List.length T'.2 = 0 by have : List.length T'.2 = C := hC; omega)
      have hL0 : L = [] := by rw [← hdw.el]; exact hes
      subst hL0
      repeat (first | ((with_reducible refine WL.topT ?_ ?_); omega) | ((with_reducible refine WL.topF ?_ ?_); omega) | ((with_reducible refine WL.top64 ?_ ?_); omega) | refine WC.seq ?_ | refine WC.block ?_ | refine WC.region ?_ | refine WL.nil ?_ | refine WC.skip ?_ | refine WC.exit ?_ | refine WC.ret ?_ | refine WQ.then rfl ?_ | refine WQ.thenExit ?_ | refine WQ.thenRet ?_ | refine WQ.blk ?_ | refine WQ.blkRet ?_ | refine WQ.blkHere rfl ?_ | refine WQ.blkOther rfl ?_ | refine WL.pure rfl rfl rfl rfl ?_ | refine WL.on rfl rfl ?_ | refine WL.off rfl rfl rfl ?_ | refine WL.load rfl rfl rfl rfl rfl rfl (by assumption) ?_ | refine WC.condTrue rfl ?_ | refine WC.condFalse rfl ?_)
      refine WL.store rfl rfl rfl rfl rfl rfl (by kernel_rfl) h0 (hdw.hdr.free 0) ?_
      have hh3 : VBlk treeT (wr.setCell ⟨tb, 0, none⟩ (.pointer none)) tb (trC none 0 1) := hdw.hdr.set 0 _
      have hps3 := hdw.ps.hdr 0 (.pointer none)
      generalize wr.setCell ⟨tb, 0, none⟩ (.pointer none) = w3 at hh3 hps3 ⊢
      repeat (first | ((with_reducible refine WL.topT ?_ ?_); omega) | ((with_reducible refine WL.topF ?_ ?_); omega) | ((with_reducible refine WL.top64 ?_ ?_); omega) | refine WC.seq ?_ | refine WC.block ?_ | refine WC.region ?_ | refine WL.nil ?_ | refine WC.skip ?_ | refine WC.exit ?_ | refine WC.ret ?_ | refine WQ.then rfl ?_ | refine WQ.thenExit ?_ | refine WQ.thenRet ?_ | refine WQ.blk ?_ | refine WQ.blkRet ?_ | refine WQ.blkHere rfl ?_ | refine WQ.blkOther rfl ?_ | refine WL.pure rfl rfl rfl rfl ?_ | refine WL.on rfl rfl ?_ | refine WL.off rfl rfl rfl ?_ | refine WC.condTrue rfl ?_ | refine WC.condFalse rfl ?_)
      refine WL.store rfl rfl rfl rfl rfl rfl (by kernel_rfl) (hh3.cell 2 (by simp [trC])) (hh3.free 2) ?_
      have hh4 : VBlk treeT (w3.setCell ⟨tb, 2, none⟩ (.int .i64 0)) tb (trC none 0 0) := hh3.set 2 _
      have hps4 := hps3.hdr 2 (.int .i64 0)
      generalize w3.setCell ⟨tb, 2, none⟩ (.int .i64 0) = w4 at hh4 hps4 ⊢
      repeat (first | ((with_reducible refine WL.topT ?_ ?_); omega) | ((with_reducible refine WL.topF ?_ ?_); omega) | ((with_reducible refine WL.top64 ?_ ?_); omega) | refine WC.seq ?_ | refine WC.block ?_ | refine WC.region ?_ | refine WL.nil ?_ | refine WC.skip ?_ | refine WC.exit ?_ | refine WC.ret ?_ | refine WQ.then rfl ?_ | refine WQ.thenExit ?_ | refine WQ.thenRet ?_ | refine WQ.blk ?_ | refine WQ.blkRet ?_ | refine WQ.blkHere rfl ?_ | refine WQ.blkOther rfl ?_ | refine WL.pure rfl rfl rfl rfl ?_ | refine WL.on rfl rfl ?_ | refine WL.off rfl rfl rfl ?_ | refine WC.condTrue rfl ?_ | refine WC.condFalse rfl ?_)
      exact WQ.ret2 rfl rfl rfl ⟨st', rfl, ⟨hps4.mem, hps4.no, none, 0, hh4, .inl ⟨rfl, rfl, rfl⟩⟩, hps4.keep, hps4.new⟩
    · repeat (first | ((with_reducible refine WL.topT ?_ ?_); omega) | ((with_reducible refine WL.topF ?_ ?_); omega) | ((with_reducible refine WL.top64 ?_ ?_); omega) | refine WC.seq ?_ | refine WC.block ?_ | refine WC.region ?_ | refine WL.nil ?_ | refine WC.skip ?_ | refine WC.exit ?_ | refine WC.ret ?_ | refine WQ.then rfl ?_ | refine WQ.thenExit ?_ | refine WQ.thenRet ?_ | refine WQ.blk ?_ | refine WQ.blkRet ?_ | refine WQ.blkHere rfl ?_ | refine WQ.blkOther rfl ?_ | refine WL.pure rfl rfl rfl rfl ?_ | refine WL.on rfl rfl ?_ | refine WL.off rfl rfl rfl ?_ | refine WL.load rfl rfl rfl rfl rfl rfl (by assumption) ?_ | refine WC.condTrue rfl ?_ | refine WC.condFalse rfl ?_)
      exact WQ.ret2 rfl rfl rfl (hdone hdw (.inl rfl) (by rw [hC]; omega))
  | succ D' =>
    have hlf' : wr.cell? ⟨blk (D' + 1) T', 0, none⟩ = some (.bool false) := hlf
    clear hlf
    have hC1 : 1 ≤ C := by rcases hdw.one with e | e; cases e; rw [hC] at e; exact e
    by_cases hz : C = 1
    · obtain ⟨b, ks⟩ := T'
      obtain ⟨s, rfl⟩ : ∃ s, ks = [s] := List.length_eq_one_iff.1 (show ks.length = 1 by have : ks.length = C := hC; omega)
      have hh : At st' (D' + 1) (mkS b ([] ++ s :: [])) none := hdw.here
      have hsub := At_sub hh
      have hsm : 4 ≤ cnt D' s ∧ Mn D' s := hdw.mn.2 s (List.Mem.head _)
      have hkd := kidR vr (i := 0) (q := blk D' s) (by omega) rfl
      have hkd' : wr.cell? ⟨blk (D' + 1) (b, [s]), 18, none⟩ = some (.pointer (some ⟨blk D' s, 0, none⟩)) := hkd
      have hbk : (bks (D' + 1) (mkS b [s])).length = (bks D' s).length + 1 := by rw [bks_mkS]; simp
      have hbk' : (bks (D' + 1) (b, [s])).length = (bks D' s).length + 1 := hbk
      rw [hbk'] at h2
      repeat (first | ((with_reducible refine WL.topT ?_ ?_); omega) | ((with_reducible refine WL.topF ?_ ?_); omega) | ((with_reducible refine WL.top64 ?_ ?_); omega) | refine WC.seq ?_ | refine WC.block ?_ | refine WC.region ?_ | refine WL.nil ?_ | refine WC.skip ?_ | refine WC.exit ?_ | refine WC.ret ?_ | refine WQ.then rfl ?_ | refine WQ.thenExit ?_ | refine WQ.thenRet ?_ | refine WQ.blk ?_ | refine WQ.blkRet ?_ | refine WQ.blkHere rfl ?_ | refine WQ.blkOther rfl ?_ | refine WL.pure rfl rfl rfl rfl ?_ | refine WL.on rfl rfl ?_ | refine WL.off rfl rfl rfl ?_ | refine WL.load rfl rfl rfl rfl rfl rfl (by assumption) ?_ | refine WC.condTrue rfl ?_ | refine WC.condFalse rfl ?_)
      refine WL.idxA 0 18 rfl rfl rfl rfl rfl rfl rfl rfl (by omega) (by omega) ?_
      refine WL.load rfl rfl rfl rfl rfl rfl hkd' ?_
      repeat (first | ((with_reducible refine WL.topT ?_ ?_); omega) | ((with_reducible refine WL.topF ?_ ?_); omega) | ((with_reducible refine WL.top64 ?_ ?_); omega) | refine WC.seq ?_ | refine WC.block ?_ | refine WC.region ?_ | refine WL.nil ?_ | refine WC.skip ?_ | refine WC.exit ?_ | refine WC.ret ?_ | refine WQ.then rfl ?_ | refine WQ.thenExit ?_ | refine WQ.thenRet ?_ | refine WQ.blk ?_ | refine WQ.blkRet ?_ | refine WQ.blkHere rfl ?_ | refine WQ.blkOther rfl ?_ | refine WL.pure rfl rfl rfl rfl ?_ | refine WL.on rfl rfl ?_ | refine WL.off rfl rfl rfl ?_ | refine WC.condTrue rfl ?_ | refine WC.condFalse rfl ?_)
      refine WL.store rfl rfl rfl rfl rfl rfl (by kernel_rfl) h0 (hdw.hdr.free 0) ?_
      have hh3 : VBlk treeT (wr.setCell ⟨tb, 0, none⟩ (.pointer (some ⟨blk D' s, 0, none⟩))) tb (trC (some (blk D' s)) L.length ((bks D' s).length + 1)) := by
        have := hdw.hdr.set 0 (.pointer (some ⟨blk D' s, 0, none⟩))
        rw [hbk'] at this
        exact this
      have hps3 := hdw.ps.hdr 0 (.pointer (some ⟨blk D' s, 0, none⟩))
      generalize wr.setCell ⟨tb, 0, none⟩ (.pointer (some ⟨blk D' s, 0, none⟩)) = w3 at hh3 hps3 ⊢
      clear h0 h2 hcr
      obtain ⟨-, -, h2⟩ := hdrR hh3
      have hsz : (bks D' s).length ≤ L.length + 1 := by
        have := (Tre.few hsm.2 (.inr (by omega))).1
        have he : els D' s = L := by have := hdw.el; simpa [els] using this
        rwa [he] at this
      have hLl : L.length ≤ l.length := by have := delL_length (k := k) hsl; rw [hL] at this; omega
      repeat (first | ((with_reducible refine WL.topT ?_ ?_); omega) | ((with_reducible refine WL.topF ?_ ?_); omega) | ((with_reducible refine WL.top64 ?_ ?_); omega) | refine WC.seq ?_ | refine WC.block ?_ | refine WC.region ?_ | refine WL.nil ?_ | refine WC.skip ?_ | refine WC.exit ?_ | refine WC.ret ?_ | refine WQ.then rfl ?_ | refine WQ.thenExit ?_ | refine WQ.thenRet ?_ | refine WQ.blk ?_ | refine WQ.blkRet ?_ | refine WQ.blkHere rfl ?_ | refine WQ.blkOther rfl ?_ | refine WL.pure rfl rfl rfl rfl ?_ | refine WL.on rfl rfl ?_ | refine WL.off rfl rfl rfl ?_ | refine WL.load rfl rfl rfl rfl rfl rfl (by assumption) ?_ | refine WC.condTrue rfl ?_ | refine WC.condFalse rfl ?_)
      refine WL.store rfl rfl rfl rfl rfl rfl (by kernel_rfl) h2 (hh3.free 2) ?_
      have hh4 : VBlk treeT (w3.setCell ⟨tb, 2, none⟩ (.int .i64 ((((bks D' s).length + 1 : Nat) : Int) - 1))) tb (trC (some (blk D' s)) L.length (bks D' s).length) := by
        have := hh3.set 2 (.int .i64 ((((bks D' s).length + 1 : Nat) : Int) - 1))
        rw [show ((((bks D' s).length + 1 : Nat) : Int) - 1) = ((bks D' s).length : Int) by omega] at this ⊢
        exact this
      have hps4 := hps3.hdr 2 (.int .i64 ((((bks D' s).length + 1 : Nat) : Int) - 1))
      generalize w3.setCell ⟨tb, 2, none⟩ (.int .i64 ((((bks D' s).length + 1 : Nat) : Int) - 1)) = w4 at hh4 hps4 ⊢
      repeat (first | ((with_reducible refine WL.topT ?_ ?_); omega) | ((with_reducible refine WL.topF ?_ ?_); omega) | ((with_reducible refine WL.top64 ?_ ?_); omega) | refine WC.seq ?_ | refine WC.block ?_ | refine WC.region ?_ | refine WL.nil ?_ | refine WC.skip ?_ | refine WC.exit ?_ | refine WC.ret ?_ | refine WQ.then rfl ?_ | refine WQ.thenExit ?_ | refine WQ.thenRet ?_ | refine WQ.blk ?_ | refine WQ.blkRet ?_ | refine WQ.blkHere rfl ?_ | refine WQ.blkOther rfl ?_ | refine WL.pure rfl rfl rfl rfl ?_ | refine WL.on rfl rfl ?_ | refine WL.off rfl rfl rfl ?_ | refine WC.condTrue rfl ?_ | refine WC.condFalse rfl ?_)
      refine WQ.again ⟨D', s⟩ ⟨rfl, rfl, rfl, trivial⟩ ⟨st', hps4, hsub, ?_, hsm.2, .inr (by show 1 ≤ cnt D' s; omega), hh4⟩ (by show D' < D' + 1; omega)
      have := hdw.el
      simpa [els] using this
    · repeat (first | ((with_reducible refine WL.topT ?_ ?_); omega) | ((with_reducible refine WL.topF ?_ ?_); omega) | ((with_reducible refine WL.top64 ?_ ?_); omega) | refine WC.seq ?_ | refine WC.block ?_ | refine WC.region ?_ | refine WL.nil ?_ | refine WC.skip ?_ | refine WC.exit ?_ | refine WC.ret ?_ | refine WQ.then rfl ?_ | refine WQ.thenExit ?_ | refine WQ.thenRet ?_ | refine WQ.blk ?_ | refine WQ.blkRet ?_ | refine WQ.blkHere rfl ?_ | refine WQ.blkOther rfl ?_ | refine WL.pure rfl rfl rfl rfl ?_ | refine WL.on rfl rfl ?_ | refine WL.off rfl rfl rfl ?_ | refine WL.load rfl rfl rfl rfl rfl rfl (by assumption) ?_ | refine WC.condTrue rfl ?_ | refine WC.condFalse rfl ?_)
      exact WQ.ret2 rfl rfl rfl (hdone hdw (.inr (by rw [hC]; omega)) (by rw [hC]; omega))
end K
end Go.Proofs.Ytilmfnlaenneeaa

/- Trees (chapter 13): New, Len, Shape; shaped; known. -/
namespace Go.Proofs.Ytilmfnlaenneeaa
open Go.RowKit
namespace K
open Tre
theorem built_tree : Try.prog.built treeT [] = some (trC none 0 0).toArray := by kernel_rfl
def st0 : St := fun _ => none
theorem tnew_any {w : World} : Calls Try.prog 10 #[] w fun e w' => ∃ tb, e = .returned (.pointer (some ⟨tb, 0, none⟩)) ∧ IsT w' st0 tb [] ∧ Below w.heap.size w w' ∧ w.heap.size ≤ tb := by
  refine enter (args := []) Try.func10 rfl Try.ntmps10 rfl ?_
  repeat (first | ((with_reducible refine WL.topT ?_ ?_); omega) | ((with_reducible refine WL.topF ?_ ?_); omega) | ((with_reducible refine WL.top64 ?_ ?_); omega) | refine WC.seq ?_ | refine WC.block ?_ | refine WC.region ?_ | refine WL.nil ?_ | refine WC.skip ?_ | refine WC.exit ?_ | refine WC.ret ?_ | refine WQ.then rfl ?_ | refine WQ.thenExit ?_ | refine WQ.thenRet ?_ | refine WQ.blk ?_ | refine WQ.blkRet ?_ | refine WQ.blkHere rfl ?_ | refine WQ.blkOther rfl ?_ | refine WL.pure rfl rfl rfl rfl ?_ | refine WL.on rfl rfl ?_ | refine WL.off rfl rfl rfl ?_ | refine WC.condTrue rfl ?_ | refine WC.condFalse rfl ?_)
  refine WL.build (trC none 0 0) rfl rfl rfl rfl rfl built_tree ?_
  refine WL.box rfl rfl rfl rfl rfl fun g w1 hf0 => ?_
  have hf : Fresh w g w1 treeT (trC none 0 0) := hf0
  clear hf0
  repeat (first | ((with_reducible refine WL.topT ?_ ?_); omega) | ((with_reducible refine WL.topF ?_ ?_); omega) | ((with_reducible refine WL.top64 ?_ ?_); omega) | refine WC.seq ?_ | refine WC.block ?_ | refine WC.region ?_ | refine WL.nil ?_ | refine WC.skip ?_ | refine WC.exit ?_ | refine WC.ret ?_ | refine WQ.then rfl ?_ | refine WQ.thenExit ?_ | refine WQ.thenRet ?_ | refine WQ.blk ?_ | refine WQ.blkRet ?_ | refine WQ.blkHere rfl ?_ | refine WQ.blkOther rfl ?_ | refine WL.pure rfl rfl rfl rfl ?_ | refine WL.on rfl rfl ?_ | refine WL.off rfl rfl rfl ?_ | refine WC.condTrue rfl ?_ | refine WC.condFalse rfl ?_)
  exact WQ.ret1 rfl rfl ⟨g, rfl, ⟨fun b nd h => (by cases h), rfl, none, 0, hf.blk, .inl ⟨rfl, rfl, rfl⟩⟩, hf.below, by rw [hf.eq]; exact Nat.le_refl _⟩
theorem tlen_any {w : World} {st : St} {tb : Nat} {l : List KV} (h : IsT w st tb l) : Calls Try.prog 17 #[.pointer (some ⟨tb, 0, none⟩)] w fun e w' => e = .returned (.int .i64 l.length) ∧ w' = w := by
  refine enter (args := [.pointer (some ⟨tb, 0, none⟩)]) Try.func17 rfl Try.ntmps17 rfl ?_
  obtain ⟨-, -, root, nn, ht, -⟩ := h
  have h1 : w.cell? ⟨tb, 1, none⟩ = some (.int .i64 l.length) := ht.cell 1 (by simp [trC])
  repeat (first | ((with_reducible refine WL.topT ?_ ?_); omega) | ((with_reducible refine WL.topF ?_ ?_); omega) | ((with_reducible refine WL.top64 ?_ ?_); omega) | refine WC.seq ?_ | refine WC.block ?_ | refine WC.region ?_ | refine WL.nil ?_ | refine WC.skip ?_ | refine WC.exit ?_ | refine WC.ret ?_ | refine WQ.then rfl ?_ | refine WQ.thenExit ?_ | refine WQ.thenRet ?_ | refine WQ.blk ?_ | refine WQ.blkRet ?_ | refine WQ.blkHere rfl ?_ | refine WQ.blkOther rfl ?_ | refine WL.pure rfl rfl rfl rfl ?_ | refine WL.on rfl rfl ?_ | refine WL.off rfl rfl rfl ?_ | refine WC.condTrue rfl ?_ | refine WC.condFalse rfl ?_)
  refine WL.nilP rfl rfl rfl rfl rfl rfl (by kernel_rfl) ?_
  repeat (first | ((with_reducible refine WL.topT ?_ ?_); omega) | ((with_reducible refine WL.topF ?_ ?_); omega) | ((with_reducible refine WL.top64 ?_ ?_); omega) | refine WC.seq ?_ | refine WC.block ?_ | refine WC.region ?_ | refine WL.nil ?_ | refine WC.skip ?_ | refine WC.exit ?_ | refine WC.ret ?_ | refine WQ.then rfl ?_ | refine WQ.thenExit ?_ | refine WQ.thenRet ?_ | refine WQ.blk ?_ | refine WQ.blkRet ?_ | refine WQ.blkHere rfl ?_ | refine WQ.blkOther rfl ?_ | refine WL.pure rfl rfl rfl rfl ?_ | refine WL.on rfl rfl ?_ | refine WL.off rfl rfl rfl ?_ | refine WL.load rfl rfl rfl rfl rfl rfl (by assumption) ?_ | refine WC.condTrue rfl ?_ | refine WC.condFalse rfl ?_)
  exact WQ.ret1 rfl rfl ⟨rfl, rfl⟩
/-- How deep, and how many nodes. -/
def Shp (l : List KV) (dp nn : Nat) : Prop := (l = [] ∧ dp = 0 ∧ nn = 0) ∨ (l ≠ [] ∧ 1 ≤ dp ∧ 1 ≤ nn ∧ nn ≤ l.length ∧ 2 ^ (dp - 1) ≤ l.length)
theorem Good_many {st : St} {D : Nat} {T : Tr D} {l : List KV} (h : Tre.Good st D T l) (h1 : 1 ≤ cnt D T) : 2 ^ D ≤ l.length := by
  have he := h.el
  rw [← he]
  cases D with
  | zero => exact h1
  | succ d =>
    have h2 : 2 ≤ cnt (d + 1) T := by rcases h.root with e | e; cases e; exact e
    obtain ⟨b, ks⟩ := T
    have h2' : 2 ≤ ks.length := h2
    have hk : ∀ s ∈ ks, 4 ≤ cnt d s ∧ Mn d s := h.mn.2
    have key : ∀ q : List (Tr d), (∀ s ∈ q, 4 ≤ cnt d s ∧ Mn d s) → q.length * 4 ^ (d + 1) ≤ (q.flatMap (els d)).length := by
      intro q
      induction q with
      | nil => intro _; simp
      | cons s q ih =>
        intro hl
        have h1 := ih fun x hx => hl x (by simp [hx])
        have h2 := hl s (by simp)
        have h3 := els_many h2.2 h2.1
        simp only [List.flatMap_cons, List.length_append, List.length_cons, Nat.succ_mul]
        omega
    have h3 := key ks hk
    have h4 : 2 * 4 ^ (d + 1) ≤ ks.length * 4 ^ (d + 1) := Nat.mul_le_mul_right _ h2'
    have h5 : 2 ^ (d + 1) ≤ 4 ^ (d + 1) := Nat.pow_le_pow_left (by omega) _
    show 2 ^ (d + 1) ≤ (ks.flatMap (els d)).length
    omega
structure SX where
  o : Option Nat
  dp : Nat
  r : Nat
set_option maxRecDepth 20000 in
set_option maxHeartbeats 2000000 in
theorem tshape_any {w : World} {st : St} {tb : Nat} {l : List KV} (h : IsT w st tb l) (hl : l.length < 1000000000) : Calls Try.prog 23 #[.pointer (some ⟨tb, 0, none⟩)] w fun e w' => ∃ dp nn : Nat, e = .returned (.tuple #[.int .i64 dp, .int .i64 nn]) ∧ Shp l dp nn ∧ Below w.heap.size w w' := by
  refine enter (args := [.pointer (some ⟨tb, 0, none⟩)]) Try.func23 rfl Try.ntmps23 rfl ?_
  obtain ⟨hm, htb, root, nn, ht, hok⟩ := h
  have h0 : w.cell? ⟨tb, 0, none⟩ = some (ptrV root) := ht.cell 0 (by simp [trC])
  have h2 : w.cell? ⟨tb, 2, none⟩ = some (.int .i64 nn) := ht.cell 2 (by simp [trC])
  obtain ⟨X, hX1, hX2⟩ : ∃ X : Nat, X < 1000000000 ∧ ((root = none ∧ X = 0 ∧ Shp l 0 nn) ∨ ∃ D T, root = some (blk D T) ∧ Tre.Good st D T l ∧ X = D + 1 ∧ Shp l (D + 1) nn) := by
    rcases hok with ⟨h1, rfl, rfl⟩ | ⟨D, T, h1, hg, rfl, hc⟩
    · exact ⟨0, by omega, .inl ⟨h1, rfl, .inl ⟨rfl, rfl, rfl⟩⟩⟩
    · have hmany := Good_many hg hc
      have hlt : D < 2 ^ D := Nat.lt_two_pow_self
      refine ⟨D + 1, by omega, .inr ⟨D, T, h1, hg, rfl, .inr ⟨?_, by omega, ?_, ?_, by simpa using hmany⟩⟩⟩
      · intro e; rw [e] at hmany; simp at hmany
      · exact List.length_pos_iff.2 (List.ne_nil_of_mem (blk_mem D T))
      · have := (Tre.few hg.mn hg.root).2 hc; rwa [hg.el] at this
  have hshp : Shp l X nn := by
    rcases hX2 with ⟨-, rfl, h⟩ | ⟨D, T, -, -, rfl, h⟩ <;> exact h
  repeat (first | ((with_reducible refine WL.topT ?_ ?_); omega) | ((with_reducible refine WL.topF ?_ ?_); omega) | ((with_reducible refine WL.top64 ?_ ?_); omega) | refine WC.seq ?_ | refine WC.block ?_ | refine WC.region ?_ | refine WL.nil ?_ | refine WC.skip ?_ | refine WC.exit ?_ | refine WC.ret ?_ | refine WQ.then rfl ?_ | refine WQ.thenExit ?_ | refine WQ.thenRet ?_ | refine WQ.blk ?_ | refine WQ.blkRet ?_ | refine WQ.blkHere rfl ?_ | refine WQ.blkOther rfl ?_ | refine WL.pure rfl rfl rfl rfl ?_ | refine WL.on rfl rfl ?_ | refine WL.off rfl rfl rfl ?_ | refine WC.condTrue rfl ?_ | refine WC.condFalse rfl ?_)
  refine WL.nilP rfl rfl rfl rfl rfl rfl (by kernel_rfl) ?_
  repeat (first | ((with_reducible refine WL.topT ?_ ?_); omega) | ((with_reducible refine WL.topF ?_ ?_); omega) | ((with_reducible refine WL.top64 ?_ ?_); omega) | refine WC.seq ?_ | refine WC.block ?_ | refine WC.region ?_ | refine WL.nil ?_ | refine WC.skip ?_ | refine WC.exit ?_ | refine WC.ret ?_ | refine WQ.then rfl ?_ | refine WQ.thenExit ?_ | refine WQ.thenRet ?_ | refine WQ.blk ?_ | refine WQ.blkRet ?_ | refine WQ.blkHere rfl ?_ | refine WQ.blkOther rfl ?_ | refine WL.pure rfl rfl rfl rfl ?_ | refine WL.on rfl rfl ?_ | refine WL.off rfl rfl rfl ?_ | refine WL.load rfl rfl rfl rfl rfl rfl (by assumption) ?_ | refine WC.condTrue rfl ?_ | refine WC.condFalse rfl ?_)
  refine WC.loop (fun x : SX => [(0, .pointer (some ⟨tb, 0, none⟩)), (2, .int .i64 x.dp), (4, ptrV x.o)])
    (fun x w' => w' = w ∧ x.dp + x.r = X ∧ ((x.o = none ∧ x.r = 0) ∨ ∃ d t nx, x.o = some (blk d t) ∧ RepI d st t ∧ Lnk st (lvs d t) nx ∧ (d = 0 ∨ 1 ≤ cnt d t) ∧ Mn d t ∧ x.r = d + 1)) (fun x => x.r) ⟨root, 0, X⟩ ⟨rfl, rfl, rfl, trivial⟩ ⟨rfl, Nat.zero_add _, ?_⟩ ?_
  · rcases hX2 with ⟨h1, h2, -⟩ | ⟨D, T, h1, hg, h2, -⟩
    · exact .inl ⟨h1, h2⟩
    · exact .inr ⟨D, T, none, h1, hg.rep, hg.lnk, hg.root.imp id fun h => by omega, hg.mn, h2⟩
  rintro ⟨o, dp, r⟩ wr ⟨hw, hdp, hx⟩
  subst hw
  simp only at hdp hx
  rcases hx with ⟨rfl, rfl⟩ | ⟨d, t, nx, rfl, hr, hln, hc, hmn, rfl⟩
  · obtain rfl : dp = X := by omega
    change WC _ _ _ [(0, .pointer (some ⟨tb, 0, none⟩)), (2, .int .i64 dp), (4, .pointer none)] wr
    repeat (first | ((with_reducible refine WL.topT ?_ ?_); omega) | ((with_reducible refine WL.topF ?_ ?_); omega) | ((with_reducible refine WL.top64 ?_ ?_); omega) | refine WC.seq ?_ | refine WC.block ?_ | refine WC.region ?_ | refine WL.nil ?_ | refine WC.skip ?_ | refine WC.exit ?_ | refine WC.ret ?_ | refine WQ.then rfl ?_ | refine WQ.thenExit ?_ | refine WQ.thenRet ?_ | refine WQ.blk ?_ | refine WQ.blkRet ?_ | refine WQ.blkHere rfl ?_ | refine WQ.blkOther rfl ?_ | refine WL.pure rfl rfl rfl rfl ?_ | refine WL.on rfl rfl ?_ | refine WL.off rfl rfl rfl ?_ | refine WC.condTrue rfl ?_ | refine WC.condFalse rfl ?_)
    refine WL.notNilP rfl rfl rfl rfl rfl rfl (by kernel_rfl) ?_
    repeat (first | ((with_reducible refine WL.topT ?_ ?_); omega) | ((with_reducible refine WL.topF ?_ ?_); omega) | ((with_reducible refine WL.top64 ?_ ?_); omega) | refine WC.seq ?_ | refine WC.block ?_ | refine WC.region ?_ | refine WL.nil ?_ | refine WC.skip ?_ | refine WC.exit ?_ | refine WC.ret ?_ | refine WQ.then rfl ?_ | refine WQ.thenExit ?_ | refine WQ.thenRet ?_ | refine WQ.blk ?_ | refine WQ.blkRet ?_ | refine WQ.blkHere rfl ?_ | refine WQ.blkOther rfl ?_ | refine WL.pure rfl rfl rfl rfl ?_ | refine WL.on rfl rfl ?_ | refine WL.off rfl rfl rfl ?_ | refine WC.condTrue rfl ?_ | refine WC.condFalse rfl ?_)
    refine WC.drawn 6 (fun wx => wx.heap = wr.heap) fun w2 hd => ?_
    have hS : w2.heap = wr.heap := hd.heap
    have hB := hd.below wr.heap.size
    clear hd
    (((first | refine WD.free 0 rfl (by kernel_rfl) rfl rfl (fun _ _ _ _ _ h => h) rfl rfl (.inr hS) ?_ | refine WD.skip 0 rfl (by kernel_rfl) rfl rfl (fun _ _ _ _ _ h => h) rfl (.inr hS) ?_); try (first | ((with_reducible refine WD.topT ?_ ?_); omega) | ((with_reducible refine WD.topF ?_ ?_); omega) | ((with_reducible refine WD.top64 ?_ ?_); omega))); ((first | refine WD.free 1 rfl (by kernel_rfl) rfl rfl (fun _ _ _ _ _ h => h) rfl rfl (.inr hS) ?_ | refine WD.skip 1 rfl (by kernel_rfl) rfl rfl (fun _ _ _ _ _ h => h) rfl (.inr hS) ?_); try (first | ((with_reducible refine WD.topT ?_ ?_); omega) | ((with_reducible refine WD.topF ?_ ?_); omega) | ((with_reducible refine WD.top64 ?_ ?_); omega))); ((first | refine WD.free 2 rfl (by kernel_rfl) rfl rfl (fun _ _ _ _ _ h => h) rfl rfl (.inr hS) ?_ | refine WD.skip 2 rfl (by kernel_rfl) rfl rfl (fun _ _ _ _ _ h => h) rfl (.inr hS) ?_); try (first | ((with_reducible refine WD.topT ?_ ?_); omega) | ((with_reducible refine WD.topF ?_ ?_); omega) | ((with_reducible refine WD.top64 ?_ ?_); omega))); ((first | refine WD.free 3 rfl (by kernel_rfl) rfl rfl (fun _ _ _ _ _ h => h) rfl rfl (.inr hS) ?_ | refine WD.skip 3 rfl (by kernel_rfl) rfl rfl (fun _ _ _ _ _ h => h) rfl (.inr hS) ?_); try (first | ((with_reducible refine WD.topT ?_ ?_); omega) | ((with_reducible refine WD.topF ?_ ?_); omega) | ((with_reducible refine WD.top64 ?_ ?_); omega))))
    refine WD.load 4 [6] rfl (by kernel_rfl) rfl rfl (fun _ _ _ _ _ h => h) rfl rfl rfl rfl (fun wx hx => (heap_cell hx _).trans h2) hS ?_
    (((first | refine WD.free 5 rfl (by kernel_rfl) rfl rfl (fun _ _ _ _ _ h => h) rfl rfl (.inr hS) ?_ | refine WD.skip 5 rfl (by kernel_rfl) rfl rfl (fun _ _ _ _ _ h => h) rfl (.inr hS) ?_); try (first | ((with_reducible refine WD.topT ?_ ?_); omega) | ((with_reducible refine WD.topF ?_ ?_); omega) | ((with_reducible refine WD.top64 ?_ ?_); omega))))
    refine WD.one 6 (by kernel_rfl) rfl ?_
    refine WL.pure rfl rfl rfl rfl ?_
    refine WL.nil (WQ.dk (.inl rfl) ?_)
    refine WD.done (by kernel_rfl) ?_
    repeat (first | ((with_reducible refine WL.topT ?_ ?_); omega) | ((with_reducible refine WL.topF ?_ ?_); omega) | ((with_reducible refine WL.top64 ?_ ?_); omega) | refine WC.seq ?_ | refine WC.block ?_ | refine WC.region ?_ | refine WL.nil ?_ | refine WC.skip ?_ | refine WC.exit ?_ | refine WC.ret ?_ | refine WQ.then rfl ?_ | refine WQ.thenExit ?_ | refine WQ.thenRet ?_ | refine WQ.blk ?_ | refine WQ.blkRet ?_ | refine WQ.blkHere rfl ?_ | refine WQ.blkOther rfl ?_ | refine WL.pure rfl rfl rfl rfl ?_ | refine WL.on rfl rfl ?_ | refine WL.off rfl rfl rfl ?_ | refine WC.condTrue rfl ?_ | refine WC.condFalse rfl ?_)
    exact WQ.ret2 rfl rfl rfl ⟨dp, nn, rfl, hshp, hB⟩
  · change WC _ _ _ [(0, .pointer (some ⟨tb, 0, none⟩)), (2, .int .i64 dp), (4, .pointer (some ⟨blk d t, 0, none⟩))] wr
    obtain ⟨nx', hs1, -⟩ := nodeAt hr hln
    obtain ⟨-, pv, vb⟩ := hm _ _ hs1
    repeat (first | ((with_reducible refine WL.topT ?_ ?_); omega) | ((with_reducible refine WL.topF ?_ ?_); omega) | ((with_reducible refine WL.top64 ?_ ?_); omega) | refine WC.seq ?_ | refine WC.block ?_ | refine WC.region ?_ | refine WL.nil ?_ | refine WC.skip ?_ | refine WC.exit ?_ | refine WC.ret ?_ | refine WQ.then rfl ?_ | refine WQ.thenExit ?_ | refine WQ.thenRet ?_ | refine WQ.blk ?_ | refine WQ.blkRet ?_ | refine WQ.blkHere rfl ?_ | refine WQ.blkOther rfl ?_ | refine WL.pure rfl rfl rfl rfl ?_ | refine WL.on rfl rfl ?_ | refine WL.off rfl rfl rfl ?_ | refine WC.condTrue rfl ?_ | refine WC.condFalse rfl ?_)
    refine WL.notNilP rfl rfl rfl rfl rfl rfl (by kernel_rfl) ?_
    cases d with
    | zero =>
      have hk : wr.cell? ⟨blk 0 t, 18, none⟩ = some (.pointer none) := by
        rw [cellR vb (j := 18) (by omega), ndF_kid _ _ (i := 0) (by omega)]
        obtain ⟨b, es⟩ := t
        cases es <;> rfl
      repeat (first | ((with_reducible refine WL.topT ?_ ?_); omega) | ((with_reducible refine WL.topF ?_ ?_); omega) | ((with_reducible refine WL.top64 ?_ ?_); omega) | refine WC.seq ?_ | refine WC.block ?_ | refine WC.region ?_ | refine WL.nil ?_ | refine WC.skip ?_ | refine WC.exit ?_ | refine WC.ret ?_ | refine WQ.then rfl ?_ | refine WQ.thenExit ?_ | refine WQ.thenRet ?_ | refine WQ.blk ?_ | refine WQ.blkRet ?_ | refine WQ.blkHere rfl ?_ | refine WQ.blkOther rfl ?_ | refine WL.pure rfl rfl rfl rfl ?_ | refine WL.on rfl rfl ?_ | refine WL.off rfl rfl rfl ?_ | refine WC.condTrue rfl ?_ | refine WC.condFalse rfl ?_)
      refine WL.idxA 0 18 rfl rfl rfl rfl rfl rfl rfl rfl (by omega) (by omega) ?_
      refine WL.load rfl rfl rfl rfl rfl rfl hk ?_
      repeat (first | ((with_reducible refine WL.topT ?_ ?_); omega) | ((with_reducible refine WL.topF ?_ ?_); omega) | ((with_reducible refine WL.top64 ?_ ?_); omega) | refine WC.seq ?_ | refine WC.block ?_ | refine WC.region ?_ | refine WL.nil ?_ | refine WC.skip ?_ | refine WC.exit ?_ | refine WC.ret ?_ | refine WQ.then rfl ?_ | refine WQ.thenExit ?_ | refine WQ.thenRet ?_ | refine WQ.blk ?_ | refine WQ.blkRet ?_ | refine WQ.blkHere rfl ?_ | refine WQ.blkOther rfl ?_ | refine WL.pure rfl rfl rfl rfl ?_ | refine WL.on rfl rfl ?_ | refine WL.off rfl rfl rfl ?_ | refine WC.condTrue rfl ?_ | refine WC.condFalse rfl ?_)
      refine WQ.again ⟨none, dp + 1, 0⟩ ⟨rfl, rfl, rfl, trivial⟩ ⟨rfl, by show dp + 1 + 0 = X; omega, .inl ⟨rfl, rfl⟩⟩ (by show 0 < 0 + 1; omega)
    | succ d =>
      obtain ⟨b, ks⟩ := t
      cases ks with
      | nil => rcases hc with e | e; cases e; simp [cnt] at e
      | cons s ks =>
        have hsm : 4 ≤ cnt d s ∧ Mn d s := hmn.2 s (List.Mem.head _)
        have hk : wr.cell? ⟨blk (d + 1) (b, s :: ks), 18, none⟩ = some (.pointer (some ⟨blk d s, 0, none⟩)) := kidR vb (i := 0) (q := blk d s) (by omega) rfl
        obtain ⟨nxs, hls⟩ := Lnk_mem (l := s :: ks) hln s (by simp)
        repeat (first | ((with_reducible refine WL.topT ?_ ?_); omega) | ((with_reducible refine WL.topF ?_ ?_); omega) | ((with_reducible refine WL.top64 ?_ ?_); omega) | refine WC.seq ?_ | refine WC.block ?_ | refine WC.region ?_ | refine WL.nil ?_ | refine WC.skip ?_ | refine WC.exit ?_ | refine WC.ret ?_ | refine WQ.then rfl ?_ | refine WQ.thenExit ?_ | refine WQ.thenRet ?_ | refine WQ.blk ?_ | refine WQ.blkRet ?_ | refine WQ.blkHere rfl ?_ | refine WQ.blkOther rfl ?_ | refine WL.pure rfl rfl rfl rfl ?_ | refine WL.on rfl rfl ?_ | refine WL.off rfl rfl rfl ?_ | refine WC.condTrue rfl ?_ | refine WC.condFalse rfl ?_)
        refine WL.idxA 0 18 rfl rfl rfl rfl rfl rfl rfl rfl (by omega) (by omega) ?_
        refine WL.load rfl rfl rfl rfl rfl rfl hk ?_
        repeat (first | ((with_reducible refine WL.topT ?_ ?_); omega) | ((with_reducible refine WL.topF ?_ ?_); omega) | ((with_reducible refine WL.top64 ?_ ?_); omega) | refine WC.seq ?_ | refine WC.block ?_ | refine WC.region ?_ | refine WL.nil ?_ | refine WC.skip ?_ | refine WC.exit ?_ | refine WC.ret ?_ | refine WQ.then rfl ?_ | refine WQ.thenExit ?_ | refine WQ.thenRet ?_ | refine WQ.blk ?_ | refine WQ.blkRet ?_ | refine WQ.blkHere rfl ?_ | refine WQ.blkOther rfl ?_ | refine WL.pure rfl rfl rfl rfl ?_ | refine WL.on rfl rfl ?_ | refine WL.off rfl rfl rfl ?_ | refine WC.condTrue rfl ?_ | refine WC.condFalse rfl ?_)
        refine WQ.again ⟨some (blk d s), dp + 1, d + 1⟩ ⟨rfl, rfl, rfl, trivial⟩ ⟨rfl, by show dp + 1 + (d + 1) = X; omega, .inr ⟨d, s, nxs, rfl, hr.2 s (List.Mem.head _), hls, .inr (by omega), hsm.2, rfl⟩⟩ (by show d + 1 < d + 1 + 1; omega)
def digs : Nat → Nat → Nat
  | 0, _ => 0
  | f + 1, n => if n = 0 then 0 else digs f (n / 2) + 1
theorem digs_ge : ∀ (f n d : Nat), n < 2 ^ f → 2 ^ d ≤ n → d + 1 ≤ digs f n
  | 0, n, d, h, h2 => by have : 0 < 2 ^ d := Nat.two_pow_pos d; simp at h; omega
  | f + 1, n, d, h, h2 => by
    have hp : 0 < 2 ^ d := Nat.two_pow_pos d
    unfold digs
    rw [if_neg (by omega)]
    cases d with
    | zero => omega
    | succ d =>
      have := digs_ge f (n / 2) d (by rw [Nat.pow_succ] at h; omega) (by rw [Nat.pow_succ] at h2; omega)
      omega
set_option maxRecDepth 20000 in
set_option maxHeartbeats 2000000 in
theorem shaped_any {w : World} {st : St} {tb : Nat} {l : List KV} (h : IsT w st tb l) (hl : l.length < 1000000000) : Calls Try.prog 15 #[.pointer (some ⟨tb, 0, none⟩)] w fun e w' => e = .returned (.bool true) ∧ Below w.heap.size w w' := by
  refine enter (args := [.pointer (some ⟨tb, 0, none⟩)]) Try.func15 rfl Try.ntmps15 rfl ?_
  repeat (first | ((with_reducible refine WL.topT ?_ ?_); omega) | ((with_reducible refine WL.topF ?_ ?_); omega) | ((with_reducible refine WL.top64 ?_ ?_); omega) | refine WC.seq ?_ | refine WC.block ?_ | refine WC.region ?_ | refine WL.nil ?_ | refine WC.skip ?_ | refine WC.exit ?_ | refine WC.ret ?_ | refine WQ.then rfl ?_ | refine WQ.thenExit ?_ | refine WQ.thenRet ?_ | refine WQ.blk ?_ | refine WQ.blkRet ?_ | refine WQ.blkHere rfl ?_ | refine WQ.blkOther rfl ?_ | refine WL.pure rfl rfl rfl rfl ?_ | refine WL.on rfl rfl ?_ | refine WL.off rfl rfl rfl ?_ | refine WC.condTrue rfl ?_ | refine WC.condFalse rfl ?_)
  refine WL.call rfl rfl rfl rfl rfl Try.func23 rfl (by kernel_rfl) (tshape_any h hl) ?_
  rintro _ w1 ⟨dp, nn, rfl, hs, hb1⟩
  refine ⟨_, rfl, ?_⟩
  replace h := h.below hb1
  repeat (first | ((with_reducible refine WL.topT ?_ ?_); omega) | ((with_reducible refine WL.topF ?_ ?_); omega) | ((with_reducible refine WL.top64 ?_ ?_); omega) | refine WC.seq ?_ | refine WC.block ?_ | refine WC.region ?_ | refine WL.nil ?_ | refine WC.skip ?_ | refine WC.exit ?_ | refine WC.ret ?_ | refine WQ.then rfl ?_ | refine WQ.thenExit ?_ | refine WQ.thenRet ?_ | refine WQ.blk ?_ | refine WQ.blkRet ?_ | refine WQ.blkHere rfl ?_ | refine WQ.blkOther rfl ?_ | refine WL.pure rfl rfl rfl rfl ?_ | refine WL.on rfl rfl ?_ | refine WL.off rfl rfl rfl ?_ | refine WC.condTrue rfl ?_ | refine WC.condFalse rfl ?_)
  refine WL.call rfl rfl rfl rfl rfl Try.func17 rfl (by kernel_rfl) (tlen_any h) ?_
  rintro _ w2 ⟨rfl, hw⟩
  subst hw
  refine ⟨_, rfl, ?_⟩
  repeat (first | ((with_reducible refine WL.topT ?_ ?_); omega) | ((with_reducible refine WL.topF ?_ ?_); omega) | ((with_reducible refine WL.top64 ?_ ?_); omega) | refine WC.seq ?_ | refine WC.block ?_ | refine WC.region ?_ | refine WL.nil ?_ | refine WC.skip ?_ | refine WC.exit ?_ | refine WC.ret ?_ | refine WQ.then rfl ?_ | refine WQ.thenExit ?_ | refine WQ.thenRet ?_ | refine WQ.blk ?_ | refine WQ.blkRet ?_ | refine WQ.blkHere rfl ?_ | refine WQ.blkOther rfl ?_ | refine WL.pure rfl rfl rfl rfl ?_ | refine WL.on rfl rfl ?_ | refine WL.off rfl rfl rfl ?_ | refine WC.condTrue rfl ?_ | refine WC.condFalse rfl ?_)
  obtain ⟨R, hR⟩ : ∃ R, digs 30 l.length = R := ⟨_, rfl⟩
  have hR30 : ∀ f n, digs f n ≤ f := by
    intro f
    induction f with
    | zero => intro n; exact Nat.le_refl _
    | succ f ih => intro n; unfold digs; split; omega; have := ih (n / 2); omega
  refine WC.loop (fun x : Nat × Nat => [(0, .pointer (some ⟨tb, 0, none⟩)), (3, .int .i64 dp), (4, .int .i64 nn), (5, .int .i64 x.1), (6, .int .i64 x.2)])
    (fun x w' => w' = w2 ∧ x.1 + digs (30 - x.1) x.2 = R ∧ x.1 ≤ 30 ∧ x.2 < 2 ^ (30 - x.1) ∧ x.2 ≤ l.length) (fun x => x.2) (0, l.length) ⟨rfl, rfl, rfl, rfl, rfl, trivial⟩ ⟨rfl, by simpa using hR, by simp, by show l.length < 2 ^ 30; omega, Nat.le_refl _⟩ ?_
  rintro ⟨c, x⟩ wr ⟨hw, hc, hc30, hx, hxl⟩
  subst hw
  simp only at hc hc30 hx hxl
  by_cases hx0 : x = 0
  · subst hx0
    have hcR : c = R := by
      have : digs (30 - c) 0 = 0 := by cases 30 - c <;> rfl
      omega
    subst hcR
    have hdp : dp ≤ c ∧ nn ≤ l.length ∧ (0 < dp ↔ 0 < l.length) ∧ (0 < nn ↔ 0 < l.length) := by
      rcases hs with ⟨rfl, rfl, rfl⟩ | ⟨h1, h2, h3, h4, h5⟩
      · simp
      · have := digs_ge 30 l.length (dp - 1) (by omega) h5
        have hp := List.length_pos_iff.2 h1
        omega
    have tl := tlen_any h
    by_cases hl0 : 0 < l.length
    · repeat (first | ((with_reducible refine WL.topT ?_ ?_); omega) | ((with_reducible refine WL.topF ?_ ?_); omega) | ((with_reducible refine WL.top64 ?_ ?_); omega) | refine WC.seq ?_ | refine WC.block ?_ | refine WC.region ?_ | refine WL.nil ?_ | refine WC.skip ?_ | refine WC.exit ?_ | refine WC.ret ?_ | refine WQ.then rfl ?_ | refine WQ.thenExit ?_ | refine WQ.thenRet ?_ | refine WQ.blk ?_ | refine WQ.blkRet ?_ | refine WQ.blkHere rfl ?_ | refine WQ.blkOther rfl ?_ | refine WL.pure rfl rfl rfl rfl ?_ | refine WL.on rfl rfl ?_ | refine WL.off rfl rfl rfl ?_ | refine WC.condTrue rfl ?_ | refine WC.condFalse rfl ?_)
      refine WL.call rfl rfl rfl rfl rfl Try.func17 rfl (by kernel_rfl) tl ?_
      rintro _ _ ⟨rfl, rfl⟩
      refine ⟨_, rfl, ?_⟩
      repeat (first | ((with_reducible refine WL.topT ?_ ?_); omega) | ((with_reducible refine WL.topF ?_ ?_); omega) | ((with_reducible refine WL.top64 ?_ ?_); omega) | refine WC.seq ?_ | refine WC.block ?_ | refine WC.region ?_ | refine WL.nil ?_ | refine WC.skip ?_ | refine WC.exit ?_ | refine WC.ret ?_ | refine WQ.then rfl ?_ | refine WQ.thenExit ?_ | refine WQ.thenRet ?_ | refine WQ.blk ?_ | refine WQ.blkRet ?_ | refine WQ.blkHere rfl ?_ | refine WQ.blkOther rfl ?_ | refine WL.pure rfl rfl rfl rfl ?_ | refine WL.on rfl rfl ?_ | refine WL.off rfl rfl rfl ?_ | refine WC.condTrue rfl ?_ | refine WC.condFalse rfl ?_)
      refine WL.call rfl rfl rfl rfl rfl Try.func17 rfl (by kernel_rfl) tl ?_
      rintro _ _ ⟨rfl, rfl⟩
      refine ⟨_, rfl, ?_⟩
      repeat (first | ((with_reducible refine WL.topT ?_ ?_); omega) | ((with_reducible refine WL.topF ?_ ?_); omega) | ((with_reducible refine WL.top64 ?_ ?_); omega) | refine WC.seq ?_ | refine WC.block ?_ | refine WC.region ?_ | refine WL.nil ?_ | refine WC.skip ?_ | refine WC.exit ?_ | refine WC.ret ?_ | refine WQ.then rfl ?_ | refine WQ.thenExit ?_ | refine WQ.thenRet ?_ | refine WQ.blk ?_ | refine WQ.blkRet ?_ | refine WQ.blkHere rfl ?_ | refine WQ.blkOther rfl ?_ | refine WL.pure rfl rfl rfl rfl ?_ | refine WL.on rfl rfl ?_ | refine WL.off rfl rfl rfl ?_ | refine WC.condTrue rfl ?_ | refine WC.condFalse rfl ?_)
      refine WL.call rfl rfl rfl rfl rfl Try.func17 rfl (by kernel_rfl) tl ?_
      rintro _ _ ⟨rfl, rfl⟩
      refine ⟨_, rfl, ?_⟩
      repeat (first | ((with_reducible refine WL.topT ?_ ?_); omega) | ((with_reducible refine WL.topF ?_ ?_); omega) | ((with_reducible refine WL.top64 ?_ ?_); omega) | refine WC.seq ?_ | refine WC.block ?_ | refine WC.region ?_ | refine WL.nil ?_ | refine WC.skip ?_ | refine WC.exit ?_ | refine WC.ret ?_ | refine WQ.then rfl ?_ | refine WQ.thenExit ?_ | refine WQ.thenRet ?_ | refine WQ.blk ?_ | refine WQ.blkRet ?_ | refine WQ.blkHere rfl ?_ | refine WQ.blkOther rfl ?_ | refine WL.pure rfl rfl rfl rfl ?_ | refine WL.on rfl rfl ?_ | refine WL.off rfl rfl rfl ?_ | refine WC.condTrue rfl ?_ | refine WC.condFalse rfl ?_)
      exact WQ.ret1 rfl rfl ⟨rfl, hb1⟩
    · repeat (first | ((with_reducible refine WL.topT ?_ ?_); omega) | ((with_reducible refine WL.topF ?_ ?_); omega) | ((with_reducible refine WL.top64 ?_ ?_); omega) | refine WC.seq ?_ | refine WC.block ?_ | refine WC.region ?_ | refine WL.nil ?_ | refine WC.skip ?_ | refine WC.exit ?_ | refine WC.ret ?_ | refine WQ.then rfl ?_ | refine WQ.thenExit ?_ | refine WQ.thenRet ?_ | refine WQ.blk ?_ | refine WQ.blkRet ?_ | refine WQ.blkHere rfl ?_ | refine WQ.blkOther rfl ?_ | refine WL.pure rfl rfl rfl rfl ?_ | refine WL.on rfl rfl ?_ | refine WL.off rfl rfl rfl ?_ | refine WC.condTrue rfl ?_ | refine WC.condFalse rfl ?_)
      refine WL.call rfl rfl rfl rfl rfl Try.func17 rfl (by kernel_rfl) tl ?_
      rintro _ _ ⟨rfl, rfl⟩
      refine ⟨_, rfl, ?_⟩
      repeat (first | ((with_reducible refine WL.topT ?_ ?_); omega) | ((with_reducible refine WL.topF ?_ ?_); omega) | ((with_reducible refine WL.top64 ?_ ?_); omega) | refine WC.seq ?_ | refine WC.block ?_ | refine WC.region ?_ | refine WL.nil ?_ | refine WC.skip ?_ | refine WC.exit ?_ | refine WC.ret ?_ | refine WQ.then rfl ?_ | refine WQ.thenExit ?_ | refine WQ.thenRet ?_ | refine WQ.blk ?_ | refine WQ.blkRet ?_ | refine WQ.blkHere rfl ?_ | refine WQ.blkOther rfl ?_ | refine WL.pure rfl rfl rfl rfl ?_ | refine WL.on rfl rfl ?_ | refine WL.off rfl rfl rfl ?_ | refine WC.condTrue rfl ?_ | refine WC.condFalse rfl ?_)
      refine WL.call rfl rfl rfl rfl rfl Try.func17 rfl (by kernel_rfl) tl ?_
      rintro _ _ ⟨rfl, rfl⟩
      refine ⟨_, rfl, ?_⟩
      repeat (first | ((with_reducible refine WL.topT ?_ ?_); omega) | ((with_reducible refine WL.topF ?_ ?_); omega) | ((with_reducible refine WL.top64 ?_ ?_); omega) | refine WC.seq ?_ | refine WC.block ?_ | refine WC.region ?_ | refine WL.nil ?_ | refine WC.skip ?_ | refine WC.exit ?_ | refine WC.ret ?_ | refine WQ.then rfl ?_ | refine WQ.thenExit ?_ | refine WQ.thenRet ?_ | refine WQ.blk ?_ | refine WQ.blkRet ?_ | refine WQ.blkHere rfl ?_ | refine WQ.blkOther rfl ?_ | refine WL.pure rfl rfl rfl rfl ?_ | refine WL.on rfl rfl ?_ | refine WL.off rfl rfl rfl ?_ | refine WC.condTrue rfl ?_ | refine WC.condFalse rfl ?_)
      refine WL.call rfl rfl rfl rfl rfl Try.func17 rfl (by kernel_rfl) tl ?_
      rintro _ _ ⟨rfl, rfl⟩
      refine ⟨_, rfl, ?_⟩
      repeat (first | ((with_reducible refine WL.topT ?_ ?_); omega) | ((with_reducible refine WL.topF ?_ ?_); omega) | ((with_reducible refine WL.top64 ?_ ?_); omega) | refine WC.seq ?_ | refine WC.block ?_ | refine WC.region ?_ | refine WL.nil ?_ | refine WC.skip ?_ | refine WC.exit ?_ | refine WC.ret ?_ | refine WQ.then rfl ?_ | refine WQ.thenExit ?_ | refine WQ.thenRet ?_ | refine WQ.blk ?_ | refine WQ.blkRet ?_ | refine WQ.blkHere rfl ?_ | refine WQ.blkOther rfl ?_ | refine WL.pure rfl rfl rfl rfl ?_ | refine WL.on rfl rfl ?_ | refine WL.off rfl rfl rfl ?_ | refine WC.condTrue rfl ?_ | refine WC.condFalse rfl ?_)
      exact WQ.ret1 rfl rfl ⟨rfl, hb1⟩
  · have hlt30 : c < 30 := by
      rcases Nat.lt_or_ge c 30 with h | h
      · exact h
      · rw [show 30 - c = 0 by omega] at hx; simp at hx; omega
    have hq : ((x : Int).tdiv 2) = ((x / 2 : Nat) : Int) := rfl
    repeat (first | ((with_reducible refine WL.topT ?_ ?_); omega) | ((with_reducible refine WL.topF ?_ ?_); omega) | ((with_reducible refine WL.top64 ?_ ?_); omega) | refine WC.seq ?_ | refine WC.block ?_ | refine WC.region ?_ | refine WL.nil ?_ | refine WC.skip ?_ | refine WC.exit ?_ | refine WC.ret ?_ | refine WQ.then rfl ?_ | refine WQ.thenExit ?_ | refine WQ.thenRet ?_ | refine WQ.blk ?_ | refine WQ.blkRet ?_ | refine WQ.blkHere rfl ?_ | refine WQ.blkOther rfl ?_ | refine WL.pure rfl rfl rfl rfl ?_ | refine WL.on rfl rfl ?_ | refine WL.off rfl rfl rfl ?_ | refine WC.condTrue rfl ?_ | refine WC.condFalse rfl ?_)
    refine WQ.as 6 (.int .i64 ((x / 2 : Nat) : Int)) rfl (congrArg (Value.int .i64) (by show IntKind.wrap .i64 ((x : Int).tdiv 2) = _; rw [hq]; exact IntWalk.i64_in _ (by omega))) ?_
    refine WQ.again (c + 1, x / 2) ⟨rfl, rfl, rfl, rfl, rfl, trivial⟩ ⟨rfl, ?_, by show c + 1 ≤ 30; omega, ?_, by show x / 2 ≤ l.length; omega⟩ (by show x / 2 < x; omega)
    · show c + 1 + digs (30 - (c + 1)) (x / 2) = R
      rw [← hc, show 30 - c = (30 - (c + 1)) + 1 by omega]
      conv => rhs; unfold digs
      rw [if_neg hx0]
      omega
    · show x / 2 < 2 ^ (30 - (c + 1))
      rw [show 30 - c = (30 - (c + 1)) + 1 by omega, Nat.pow_succ] at hx
      omega
end K
end Go.Proofs.Ytilmfnlaenneeaa

/- How arguments that came in read. -/
namespace Go.Proofs.Ytilmfnlaenneeaa
open Go.ChangeShapes Go.WideShapes Go.ChangeAt Go.RowKit

theorem Try.ownKnob : ownKnob Try.prog.godebug = none := by kernel_rfl
theorem Try.laid : laidOutB Try.prog = true := by kernel_rfl

/-- What a slice of integers that came in reads as: nil, or a row of cells. -/
def IsRow (k : IntKind) (w : World) (a : Option Addr) (len cap : Nat) (zs : List Int) : Prop :=
  (a = none ∧ len = 0 ∧ cap = 0 ∧ zs = []) ∨
  ∃ x, a = some x ∧ len ≤ cap ∧ cap ≤ maxLen ∧ zs.length = cap ∧ (∀ i, i < zs.length → w.cell? (x.add i) = some (.int k (zs.getD i 0))) ∧ ∀ n ∈ zs, (Lit.int k n).wf = true

theorem cell_spot {w : World} {x : Addr} {v : Value} (h : w.cell? x = some v) : x.spot = none := by
  unfold World.cell? at h
  split at h
  · cases hs : x.spot with
    | none => rfl
    | some _ => simp [hs] at h
  · cases h
theorem IsRow.sl {k : IntKind} {w : World} {a : Option Addr} {len cap : Nat} {zs : List Int} (h : IsRow k w a len cap zs) :
    ∃ l : List Int, l.length = len ∧ Sl k w (.slice a len cap) l ∧ ∀ n ∈ l, (Lit.int k n).wf = true := by
  rcases h with ⟨rfl, rfl, rfl, rfl⟩ | ⟨x, rfl, h1, h2, h3, h4, h5⟩
  · exact ⟨[], rfl, Sl.nil k w, by simp⟩
  · have hl : (zs.take len).length = len := by rw [List.length_take]; omega
    refine ⟨zs.take len, hl, ⟨some x, cap, by rw [hl], by omega, by unfold maxLen at h2; exact h2, fun h0 => ?_, fun h => by cases h⟩, fun n hn => h5 n (List.mem_of_mem_take hn)⟩
    have h40 := h4 0 (by omega)
    have hx0 : x.add 0 = x := rfl
    rw [hx0] at h40
    have hsp := cell_spot h40
    obtain ⟨b, o, s⟩ := x
    simp only at hsp
    subst hsp
    refine ⟨b, o, rfl, block_lt_of_cell h40, fun j hj => ?_⟩
    have := h4 j (by omega)
    rw [addr_add] at this
    rw [this]
    have hj2 : j < len := by omega
    simp [nth, hj2]

/-- A slice of integers that came in. -/
theorem open_sl {H : Type} {enc : TypeId × Value → H} {P : Program} {W : World} {base b0 : Nat} {held : Bool} {r : Reach} {t e : TypeId} {k : IntKind} {v : Value} {d : DataW H} {p : List MemPlace}
    (hu : P.underlying t = some (.slice e)) (he : P.underlying e = some (.int k)) (hc : P.cellsOf e = 1)
    (hval : Value.okWide P W r b0 t v) (h : DataW.Trod enc P W base (fun _ => true) held t v d p) :
    ∃ l : List Int, Sl k W v l ∧ ∀ n ∈ l, (Lit.int k n).wf = true := by
  obtain ⟨a, len, cap, rfl⟩ := okWide_slice hu hval
  obtain ⟨fuel, hf⟩ := h
  have key : ∃ zs, IsRow k W a len cap zs := by
    rcases open_ints hu he hc hf with ⟨hcs, _⟩ | ⟨x, l, c, zs, hcs, _, hl, hm, hz, _, hcell, hwz⟩
    · simp [Value.cells] at hcs
      obtain ⟨rfl, rfl, rfl⟩ := hcs
      exact ⟨[], .inl ⟨rfl, rfl, rfl, rfl⟩⟩
    · simp [Value.cells] at hcs
      obtain ⟨rfl, rfl, rfl⟩ := hcs
      exact ⟨zs, .inr ⟨_, rfl, hl, hm, by simpa using hz, hcell, hwz⟩⟩
  obtain ⟨zs, hz⟩ := key
  obtain ⟨l, -, h1, h2⟩ := hz.sl
  exact ⟨l, h1, h2⟩

/-- The number in a cell. -/
def numOf : Option Value → Int
  | some (.int _ q) => q
  | _ => 0

/-- An array of integers that came in, by value. -/
theorem open_arr {H : Type} {enc : TypeId × Value → H} {P : Program} {W : World} {base b0 : Nat} {spare : Nat → Bool} {held : Bool} {r : Reach} {t e : TypeId} {n : Nat} {k : IntKind} {v : Value} {d : DataW H} {p : List MemPlace}
    (hu : P.underlying t = some (.array n e)) (he : P.underlying e = some (.int k)) (hc : P.cellsOf e = 1) (hct : P.cellsOf t = n)
    (hval : Value.okWide P W r b0 t v) (h : DataW.Trod enc P W base spare held t v d p) :
    ∃ l : List Int, v = .agg (l.map (Value.int k)).toArray ∧ l.length = n ∧ ∀ x ∈ l, (Lit.int k x).wf = true := by
  simp only [Value.okWide, hu] at hval
  obtain ⟨cs, rfl, hsz, -⟩ := hval
  obtain ⟨fuel, hf⟩ := h
  obtain ⟨xs, m, -, -, -, hxl, hx⟩ := DataW.trod_array hu hf
  have hel : ∀ i, i < n → ∃ q, cs[i]? = some (.int k q) ∧ (Lit.int k q).wf = true := by
    intro i hi
    have h1 := hx i hi
    rw [hc, Nat.mul_one, List.getElem?_eq_getElem (by omega)] at h1
    obtain ⟨q, e1, -, e2⟩ := DataW.trod_int he h1
    refine ⟨q, ?_, e2⟩
    have h2 : ((Value.agg cs).cells.toList.drop i)[0]? = some (.int k q) := by
      have := congrArg (fun l => l[0]?) e1
      simpa using this
    simpa [Value.cells] using h2
  refine ⟨(List.range n).map fun i => numOf cs[i]?, ?_, by simp, ?_⟩
  · congr 1
    apply Array.ext
    · simp; omega
    · intro i h1 h2
      have hi : i < n := by omega
      obtain ⟨q, e1, -⟩ := hel i hi
      have e2 : cs[i] = .int k q := by simpa [Array.getElem?_eq_getElem h1] using e1
      simp [e2, numOf, h1]
  · intro x hx'
    obtain ⟨i, hi, rfl⟩ := List.mem_map.1 hx'
    obtain ⟨q, e1, e2⟩ := hel i (List.mem_range.1 hi)
    rw [e1]; exact e2

end Go.Proofs.Ytilmfnlaenneeaa

/- What comes in: sizes; a slice, opened at each place. -/
namespace Go.Proofs.Ytilmfnlaenneeaa
open Go.ChangeShapes Go.WideShapes Go.ChangeAt Go.RowKit
namespace K

section
variable {H : Type} {P : Program}
/-- All weights are within reach. -/
def WOk (P : Program) (t : TypeId) (d : DataW H) : Prop := ∀ n ∈ d.weights P t, n ≤ reachBytes
theorem weightsAll_mem {e : TypeId} : ∀ {ds : List (DataW H)} {d : DataW H} {n : Nat}, d ∈ ds → n ∈ d.weights P e → n ∈ DataW.weightsAll P e ds
  | d0 :: ds, d, n, hd, hn => by
    rw [DataW.weightsAll, List.mem_append]
    rcases List.mem_cons.1 hd with rfl | hd
    · exact .inl hn
    · exact .inr (weightsAll_mem hd hn)
theorem WOk.slice {t e : TypeId} {elems spare : List (DataW H)} (hu : P.underlying t = some (.slice e)) (h : WOk P t (.slice elems spare)) : (elems.length + spare.length) * P.bytesOf e ≤ reachBytes ∧ ∀ d ∈ elems, WOk P e d := by
  unfold WOk at h
  rw [DataW.weights, hu] at h
  simp only [List.mem_cons, List.mem_append] at h
  exact ⟨h _ (.inl rfl), fun d hd n hn => h n (.inr (.inl (weightsAll_mem hd hn)))⟩
theorem WOk.agg {t : TypeId} {fs : Array Field} {parts : List (DataW H)} (hu : P.underlying t = some (.struct fs)) (h : WOk P t (.agg parts)) {i : Nat} {f : Field} {d : DataW H} (hf : fs[i]? = some f) (hd : parts[i]? = some d) : WOk P f.type d := by
  unfold WOk at h
  rw [DataW.weights, hu] at h
  exact fun n hn => h n (DataW.weights_mem_each (j := i) (by simp [hf]) hd n hn)
theorem WOk.string {t : TypeId} {l : List UInt8} (h : WOk P t (.lit (.string l) : DataW H)) : l.length ≤ reachBytes := h _ (by simp [DataW.weights])
end

section
variable {H : Type} {enc : TypeId × Value → H} {W : World} {base : Nat} {held : Bool}
theorem reach_le {n : Nat} (h : n ≤ reachBytes) : n ≤ 140737488355328 := Nat.le_trans h (by decide)

/-- A slice, opened at each place. -/
theorem open_sl2 {t e : TypeId} {fuel : Nat} {v : Value} {x : DataW H × List MemPlace} (m : Nat) (hm0 : 0 < m) (hu : Try.prog.underlying t = some (.slice e)) (hce : Try.prog.cellsOf e = m) (h : DataW.trod enc Try.prog W base (fun _ => true) held fuel t [v] = some x) :
    ∃ sp len cap, v = .slice sp len cap ∧ len ≤ cap ∧ cap ≤ 9223372036854775807 ∧ ∃ n elems rest, n < fuel ∧ (x.1 = .slice (elems.map (·.1)) rest ∨ (x.1 = .nil ∧ elems = [])) ∧ elems.length = len ∧
      ∀ i, i < len → ∃ (b o : Nat) (cs : List Value) (y : DataW H × List MemPlace), sp = some ⟨b, o, none⟩ ∧ b < W.heap.size ∧ cs.length = m ∧ W.rangeAt b (o + i * m) cs ∧ elems[i]? = some y ∧ DataW.trod enc Try.prog W base (fun _ => true) held n e cs = some y := by
  rcases DataW.trod_slice hu h with ⟨hcs, rfl⟩ | ⟨a, len, cap, elems, rest, n, rfl, hcs, rfl, hb, hl, hcap, hlen, hel, -, -⟩
  · obtain rfl : v = .slice none 0 0 := by simpa using hcs
    cases fuel with
    | zero => simp [DataW.trod] at h
    | succ f => exact ⟨none, 0, 0, rfl, Nat.le_refl _, by omega, f, [], [], by omega, .inr ⟨rfl, rfl⟩, rfl, fun i hi => absurd hi (by omega)⟩
  · obtain rfl : v = .slice (some a) len cap := by simpa using hcs
    refine ⟨some a, len, cap, rfl, hl, by unfold maxLen at hcap; exact hcap, n, elems, rest.map (·.1), by omega, .inl rfl, hlen, fun i hi => ?_⟩
    have h1 := hel i hi
    rw [hce] at h1
    obtain ⟨y, hy⟩ : ∃ y, elems[i]? = some y := ⟨elems[i], List.getElem?_eq_getElem (by omega)⟩
    rw [hy] at h1
    obtain ⟨cs, hc1, hc2⟩ := Option.bind_eq_some_iff.1 h1
    obtain ⟨-, hcl, hat⟩ := World.cells?_some hc1
    have h00 := hel 0 (by omega)
    rw [hce] at h00
    obtain ⟨y0, hy0⟩ : ∃ y, elems[0]? = some y := ⟨elems[0], List.getElem?_eq_getElem (by omega)⟩
    rw [hy0] at h00
    obtain ⟨cs0, hc01, -⟩ := Option.bind_eq_some_iff.1 h00
    obtain ⟨-, hcl0, hat0⟩ := World.cells?_some hc01
    have hx0 := hat0 0 hm0
    have e0 : (a.add (0 * m)).add 0 = a := by rw [Nat.zero_mul]; rfl
    rw [e0, List.getElem?_eq_getElem (by omega)] at hx0
    have hsp := cell_spot hx0
    obtain ⟨b, o, s⟩ := a
    simp only at hsp
    subst hsp
    refine ⟨b, o, cs, y, rfl, block_lt_of_cell hx0, hcl, fun j u hj => ?_, hy, hc2⟩
    have hjl : j < m := by
      rcases Nat.lt_or_ge j m with h | h
      · exact h
      · rw [List.getElem?_eq_none (by omega)] at hj; cases hj
    have := hat j hjl
    rw [addr_add, addr_add] at this
    rw [this]; exact hj
theorem take1 {l : List Value} {o : Nat} {v : Value} (h : (l.drop o).take 1 = [v]) : l[o]? = some v := by
  have : ((l.drop o).take 1)[0]? = some v := by rw [h]; rfl
  simpa using this
end
end K
end Go.Proofs.Ytilmfnlaenneeaa

/- Scripts that come in (chapter 13). -/
namespace Go.Proofs.Ytilmfnlaenneeaa
open Go.ChangeShapes Go.WideShapes Go.ChangeAt Go.RowKit
namespace K
/-- A step of a script. -/
structure Stp where
  kind : Int
  n : Int
  key : ByteArray
  fin : ByteArray
def noStp : Stp := ⟨0, 0, ByteArray.empty, ByteArray.empty⟩
def stpC (s : Stp) : List Value := [.int .i64 s.kind, .int .i64 s.n, .string s.key, .string s.fin]
/-- A row of steps. -/
def IsSteps (w : World) (v : Value) (l : List Stp) : Prop :=
  ∃ sp cap, v = .slice sp l.length cap ∧ l.length ≤ cap ∧ cap ≤ 9223372036854775807 ∧ (∀ j, j < l.length → (l.getD j noStp).key.size ≤ 140737488355328 ∧ (l.getD j noStp).fin.size ≤ 140737488355328 ∧ (-9223372036854775808 ≤ (l.getD j noStp).n ∧ (l.getD j noStp).n ≤ 9223372036854775807)) ∧
    (0 < l.length → ∃ b o, sp = some ⟨b, o, none⟩ ∧ b < w.heap.size ∧ ∀ j, j < l.length → w.rangeAt b (o + j * 4) (stpC (l.getD j noStp)))
theorem IsSteps.below {w w' : World} {v : Value} {l : List Stp} (h : IsSteps w v l) (hb : Below w.heap.size w w') : IsSteps w' v l := by
  obtain ⟨sp, cap, h1, h2, h3, h4, h5⟩ := h
  refine ⟨sp, cap, h1, h2, h3, h4, fun h0 => ?_⟩
  obtain ⟨b, o, e, hlt, hr⟩ := h5 h0
  exact ⟨b, o, e, Nat.lt_of_lt_of_le hlt hb.size, fun k hk j u hu => by rw [hb.cell (p := ⟨b, o + k * 4 + j, none⟩) hlt]; exact hr k hk j u hu⟩
section
variable {H : Type} {enc : TypeId × Value → H} {W : World} {base : Nat} {held : Bool}
set_option maxRecDepth 100000 in
theorem open_stp {fuel : Nat} {cs : List Value} {x : DataW H × List MemPlace} (h : DataW.trod enc Try.prog W base (fun _ => true) held fuel 30 cs = some x) (hz : WOk Try.prog 30 x.1) :
    ∃ s : Stp, cs = stpC s ∧ s.key.size ≤ 140737488355328 ∧ s.fin.size ≤ 140737488355328 ∧ (-9223372036854775808 ≤ s.n ∧ s.n ≤ 9223372036854775807) := by
  obtain ⟨xs, n, rfl, rfl, hl, hxl, hx⟩ := DataW.trod_struct Try.underlying30 h
  have hxl' : xs.length = 4 := hxl
  have hcl : cs.length = 4 := hl.trans (by kernel_rfl)
  have e : ∀ i, i < 4 → ∃ y, xs[i]? = some y := fun i hi => ⟨xs[i], List.getElem?_eq_getElem (by omega)⟩
  obtain ⟨x0, e0⟩ := e 0 (by omega)
  obtain ⟨x1, e1⟩ := e 1 (by omega)
  obtain ⟨x2, e2⟩ := e 2 (by omega)
  obtain ⟨x3, e3⟩ := e 3 (by omega)
  have h0 := hx 0 _ rfl
  have h1 := hx 1 _ rfl
  have h2 := hx 2 _ rfl
  have h3 := hx 3 _ rfl
  rw [e0] at h0; rw [e1] at h1; rw [e2] at h2; rw [e3] at h3
  have z : ∀ {i : Nat} {f : Field} {y : DataW H × List MemPlace}, _ → xs[i]? = some y → WOk Try.prog f.type y.1 := fun {i f y} hf hy => WOk.agg Try.underlying30 hz (i := i) (f := f) hf (by rw [List.getElem?_map, hy]; rfl)
  have z2 : WOk Try.prog 9 x2.1 := z (i := 2) rfl e2
  have z3 : WOk Try.prog 9 x3.1 := z (i := 3) rfl e3
  obtain ⟨a, ha, -, -⟩ := DataW.trod_int Try.underlying3 h0
  obtain ⟨b, hb, -, wb⟩ := DataW.trod_int Try.underlying3 h1
  obtain ⟨s, hs, hs2, -⟩ := DataW.trod_string Try.underlying9 h2
  obtain ⟨t, ht, ht2, -⟩ := DataW.trod_string Try.underlying9 h3
  have ci : Try.prog.cellsOf 3 = 1 := by kernel_rfl
  have cS : Try.prog.cellsOf 9 = 1 := by kernel_rfl
  have t0 : cs[0]? = some (.int .i64 a) := take1 (by rw [← ci]; exact ha)
  have t1 : cs[1]? = some (.int .i64 b) := take1 (by rw [← ci]; exact hb)
  have t2 : cs[2]? = some (.string s) := take1 (by rw [← cS]; exact hs)
  have t3 : cs[3]? = some (.string t) := take1 (by rw [← cS]; exact ht)
  have sz : ∀ {u : ByteArray} {y : DataW H}, y = .lit (.string u.data.toList) → WOk Try.prog 9 y → u.size ≤ 140737488355328 := fun {u y} hy hw => by
    rw [hy] at hw
    have := hw.string
    rw [Array.length_toList] at this
    exact reach_le this
  refine ⟨⟨a, b, s, t⟩, ?_, sz (congrArg Prod.fst hs2) z2, sz (congrArg Prod.fst ht2) z3, ?_⟩
  · refine List.ext_getElem? fun i => ?_
    match i with
    | 0 => exact t0
    | 1 => exact t1
    | 2 => exact t2
    | 3 => exact t3
    | i + 4 => rw [List.getElem?_eq_none (by omega), List.getElem?_eq_none (by simp [stpC])]
  · simp [Lit.wf, IntKind.min, IntKind.max, IntKind.bits, IntKind.signed] at wb
    exact wb
set_option maxRecDepth 100000 in
/-- A script that comes in. -/
theorem open_steps {b0 : Nat} {r : Reach} {v : Value} {d : DataW H} {p : List MemPlace} (hval : Value.okWide Try.prog W r b0 22 v) (h : DataW.Trod enc Try.prog W base (fun _ => true) held 22 v d p) :
    (∀ n ∈ d.weights Try.prog 22, n ≤ reachBytes) → ∃ l, IsSteps W v l := by
  intro hz
  obtain ⟨a, len, cap, rfl⟩ := okWide_slice Try.underlying22 hval
  obtain ⟨fuel, hf⟩ := h
  obtain ⟨sp, len', cap', hv, hl, hc, n, elems, rest, -, hx, hlen, hel⟩ := open_sl2 4 (by omega) Try.underlying22 (by kernel_rfl) hf
  injection hv with e1 e2 e3
  subst e1; subst e2; subst e3
  have key : ∀ i, i < len → ∃ s : Stp, (s.key.size ≤ 140737488355328 ∧ s.fin.size ≤ 140737488355328 ∧ (-9223372036854775808 ≤ s.n ∧ s.n ≤ 9223372036854775807)) ∧ ∃ b o, a = some ⟨b, o, none⟩ ∧ b < W.heap.size ∧ W.rangeAt b (o + i * 4) (stpC s) := by
    intro i hi
    obtain ⟨b, o, cs, y, hsp, hb, hcl, hat, hy, ht⟩ := hel i hi
    have hw : WOk Try.prog 30 y.1 := by
      rcases hx with hx | ⟨-, rfl⟩
      · have hz' : WOk Try.prog 22 d := hz
        simp only at hx
        rw [hx] at hz'
        exact (hz'.slice Try.underlying22).2 _ (List.mem_map.2 ⟨y, List.mem_of_getElem? hy, rfl⟩)
      · simp at hy
    obtain ⟨s, hs, h1⟩ := open_stp ht hw
    exact ⟨s, h1, b, o, hsp, hb, hs ▸ hat⟩
  have : Inhabited Stp := ⟨noStp⟩
  obtain ⟨f, hf2⟩ := Deep.choose_lt key
  have hget : ∀ k, k < len → ((List.range len).map f).getD k noStp = f k := fun k hk => by simp [hk]
  refine ⟨(List.range len).map f, a, cap, by simp, by simpa using hl, hc, fun j hj => ?_, fun h0 => ?_⟩
  · rw [hget j (by simpa using hj)]; exact (hf2 j (by simpa using hj)).1
  · obtain ⟨-, b, o, ha, hb, -⟩ := hf2 0 (by simpa using h0)
    refine ⟨b, o, ha, hb, fun j hj => ?_⟩
    rw [hget j (by simpa using hj)]
    obtain ⟨-, b', o', ha', -, hr⟩ := hf2 j (by simpa using hj)
    rw [ha] at ha'
    injection ha' with ha'
    injection ha' with e1 e2 _
    subst e1; subst e2
    exact hr
end
end K
end Go.Proofs.Ytilmfnlaenneeaa
