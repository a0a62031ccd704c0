/-
  For every row of rows of acts the law ViewsVersions answers true, and the arguments read as they did. No condition.
-/
import Derived.Test.YtchgjaaadfjiiaaGreatZVwLh9
import Derived.ChangeMaps5
namespace Go.Proofs.YtchgjaaadfjiiaaGreat
open Go.RowKit Go.Maps
namespace Vw
open K
set_option maxRecDepth 100000
theorem tot_le (LL : List (List Ac)) (i : Nat) : tot (LL.take i) ≤ tot LL := by
  unfold tot; have : (LL.map List.length).sum = ((LL.take i).map List.length).sum + ((LL.drop i).map List.length).sum := by rw [← List.sum_append, ← List.map_append, List.take_append_drop]
  omega
end Vw
end Go.Proofs.YtchgjaaadfjiiaaGreat

namespace Go.Proofs.YtchgjaaadfjiiaaGreat
namespace Vw
open K (En Bk zV formE formE_rng)
open Cat (Tb appC appL tabR)
structure Inw (s : St) : Prop where
  full : ∀ t d : Int, 1 ≤ d → d ≤ cnt t s.rows → Vw.of s.rows (t, d) ≠ []
  dele : ∀ k, ∀ r ∈ ((Vw.of s.rows k).map Rw.del).dropLast, r = false
theorem inw0 : Inw st0 := ⟨fun t d h1 h2 => by have h3 : d ≤ ((0 : Nat) : Int) := h2; omega, (fun _ _ h => by cases h)⟩
theorem of_key {L : List Rw} {k : Int × Int} {r : Rw} (h : r ∈ Vw.of L k) : r.key = k := by
  unfold Vw.of at h
  simpa using (List.mem_filter.1 h).2
theorem Inw.snoc {s : St} (h : Inv s) (g : Inw s) {e : En} {bi k tim : Int} (ht : (tabR s.cat e.table).2.2 = 0) (hfit : fits s e = true) : Inw { s with rows := s.rows ++ [rowOf e bi k tim] } := by
  have hnx : e.ver = 0 → e.doc = (cnt e.table s.rows : Int) + 1 := fun h0 => by
    unfold fits at hfit; rw [if_pos h0] at hfit; have h1 : e.doc = next s e.table := by simpa using hfit
    have : next s e.table = (cnt e.table s.rows : Int) + 1 := by unfold next; rw [if_pos ht]
    omega
  refine ⟨fun t d h1 h2 => ?_, fun x r hr => ?_⟩
  · change d ≤ (cnt t (s.rows ++ [rowOf e bi k tim]) : Nat) at h2
    show Vw.of (s.rows ++ [rowOf e bi k tim]) (t, d) ≠ []
    rw [of_snoc]; rw [cnt_snoc] at h2
    by_cases hd : d ≤ (cnt t s.rows : Int)
    · exact fun q => g.full t d h1 hd (List.append_eq_nil_iff.1 q).1
    · by_cases hc : (rowOf e bi k tim).tab = t ∧ (rowOf e bi k tim).ver = 0
      · rw [if_pos hc] at h2
        have h3 := hnx hc.2; have h4 : e.table = t := hc.1; rw [h4] at h3; rw [if_pos (show (rowOf e bi k tim).key = (t, d) from Prod.ext h4 (by show e.doc = d; omega))]; simp
      · rw [if_neg hc] at h2
        omega
  · change r ∈ ((Vw.of (s.rows ++ [rowOf e bi k tim]) x).map Rw.del).dropLast at hr
    rw [of_snoc] at hr
    by_cases hx : (rowOf e bi k tim).key = x
    · rw [if_pos hx, List.map_append, List.map_singleton, List.dropLast_concat] at hr
      have hx' : (e.table, e.doc) = x := hx; subst hx'
      by_cases h0 : e.ver = 0
      · rw [h.none (.inr (by have := hnx h0; omega))] at hr
        cases hr
      · unfold fits at hfit
        rw [if_neg h0] at hfit; cases hl : (Vw.of s.rows (e.table, e.doc)).getLast? with
        | none => rw [hl] at hfit; simp at hfit
        | some q =>
          rw [hl] at hfit; simp at hfit
          have hs : Vw.of s.rows (e.table, e.doc) = (Vw.of s.rows (e.table, e.doc)).dropLast ++ [q] := by
            obtain ⟨ys, hys⟩ := List.getLast?_eq_some_iff.1 hl; rw [hys]; simp
          have hd := g.dele (e.table, e.doc); rw [hs, List.map_append, List.mem_append] at hr; rcases hr with hr | hr
          · exact hd r (by rw [← List.map_dropLast]; exact hr)
          · simp at hr; rw [hr]; exact hfit.1
    · rw [if_neg hx, List.append_nil] at hr
      exact g.dele x r hr
theorem Inw.shut {s : St} (g : Inw s) {i : Nat} (hi : i < s.rows.length) (f : Int × Int → Bool) : Inw { s with rows := s.rows.set i (shut (s.rows.getD i noR)), red := f } := by
  obtain ⟨A, B, e, -, hs⟩ := set_split hi; generalize s.rows.getD i noR = r at e hs; have h1 := g.full; have h2 := g.dele; rw [hs]; rw [e] at h1 h2; have hm : ∀ k, (Vw.of (A ++ Vw.shut r :: B) k).map Rw.del = (Vw.of (A ++ r :: B) k).map Rw.del := fun k => by
    rw [of_split, of_split]
    by_cases q : r.key = k
    · rw [if_pos q, if_pos (show (Vw.shut r).key = k from q)]; simp [Vw.shut]
    · rw [if_neg q, if_neg (show ¬ (Vw.shut r).key = k from q)]
  refine ⟨fun t d q1 q2 => ?_, fun k x hx => ?_⟩
  · change d ≤ (cnt t (A ++ Vw.shut r :: B) : Nat) at q2
    show Vw.of (A ++ Vw.shut r :: B) (t, d) ≠ []
    rw [cnt_split] at q2; have := h1 t d q1 q2; intro q; have := congrArg List.length (hm (t, d)); rw [q, List.length_map, List.length_map] at this; exact h1 t d q1 q2 (List.eq_nil_of_length_eq_zero this.symm)
  · change x ∈ ((Vw.of (A ++ Vw.shut r :: B) k).map Rw.del).dropLast at hx
    rw [hm] at hx; exact h2 k x hx
theorem entR_inw {s : St} (h : Inv s) (g : Inw s) {e : En} {bi k tim : Int} (h0 : (entR s e bi k tim).1 = 0) : Inw (entR s e bi k tim).2 := by
  revert h0
  unfold entR
  split
  · intro _; exact g
  · split
    · rename_i hk
      split
      · intro q; exact absurd q (show ¬ (3 : Int) = 0 by decide)
      · rename_i hc
        intro _; have hc' : (tabR s.cat e.table).2.2 = 0 ∧ fits s e = true := by
          refine ⟨Decidable.byContradiction fun q => hc (.inl q), ?_⟩; cases hq : fits s e with
          | true => rfl
          | false => exact absurd (.inr (.inr hq)) hc
        exact Inw.snoc h g hc'.1 hc'.2
    · split
      · split
        · rename_i i hi
          intro _; obtain ⟨hl, -, -, -⟩ := hit_some hi; exact g.shut hl _
        · intro q; exact absurd q (show ¬ (3 : Int) = 0 by decide)
      · intro _
        exact ⟨g.full, g.dele⟩
theorem runR_inw (b : Bk) : ∀ (l : List En) (k : Nat) (s : St), Inv s → Und s b.index k → Inw s → (∀ e ∈ l, formE e) → (runR b l k s).1 = 0 → Inw (runR b l k s).2
  | [], _, _, _, _, g, _, _ => g
  | e :: r, k, s, h, hu, g, hf, h0 => by
    unfold runR at h0 ⊢
    by_cases hc : (entR s e b.index k b.time).1 = 0
    · rw [if_pos hc] at h0 ⊢
      obtain ⟨h1, h2⟩ := entR_inv h hu (hf e (List.mem_cons_self ..)) hc; exact runR_inw b r (k + 1) _ h1 h2 (entR_inw h g hc) (fun x hx => hf x (List.mem_cons_of_mem _ hx)) h0
    · rw [if_neg hc] at h0
      exact absurd h0 hc
theorem appR_inw {s : St} (h : InvN s) (g : Inw s) (b : Bk) : Inw (appR s b).2 := by
  classical
  unfold appR
  split
  · exact g
  · rename_i hi
    split
    · exact g
    · rename_i hc
      obtain ⟨hf, -, -, -⟩ := chk_form (Decidable.byContradiction hc)
      split
      · rename_i h0
        have hu : Und s b.index 0 := fun r hr => .inl (by have := h.2 r hr; omega); have := runR_inw b b.ents 0 s h.1 hu g hf h0; exact ⟨this.full, this.dele⟩
      · exact g
def VerOk (h : List Rw) : Prop := ∀ i, i < h.length → (i = 0 ∧ (h.getD i noR).ver = 0 ∧ (h.getD i noR).doc = 1) ∨
  (0 < i ∧ (h.getD (i - 1) noR).doc ≠ (h.getD i noR).doc ∧ (h.getD i noR).ver = 0 ∧ (h.getD i noR).doc = (h.getD (i - 1) noR).doc + 1) ∨
  (0 < i ∧ (h.getD (i - 1) noR).doc = (h.getD i noR).doc ∧ (h.getD i noR).ver = (h.getD (i - 1) noR).ver + 1 ∧ (h.getD (i - 1) noR).del = false)
theorem getD_left {A B : List Rw} {i : Nat} (h : i < A.length) : (A ++ B).getD i noR = A.getD i noR := by
  rw [List.getD_eq_getElem?_getD, List.getD_eq_getElem?_getD, List.getElem?_append_left h]
theorem getD_right {A B : List Rw} {i : Nat} (h : A.length ≤ i) : (A ++ B).getD i noR = B.getD (i - A.length) noR := by
  rw [List.getD_eq_getElem?_getD, List.getD_eq_getElem?_getD, List.getElem?_append_right h]
theorem getD_mem {A : List Rw} {i : Nat} (h : i < A.length) : A.getD i noR ∈ A := by rw [getD_lt h]; exact List.getElem_mem h
theorem hist_ver {s : St} (h : Inv s) (g : Inw s) (t : Int) : VerOk (histR s t) := by
  have key : ∀ n, n ≤ cnt t s.rows → VerOk ((List.range n).flatMap fun (i : Nat) => Vw.of s.rows (t, (i : Int) + 1)) ∧ (n = 0 → (List.range n).flatMap (fun (i : Nat) => Vw.of s.rows (t, (i : Int) + 1)) = []) ∧
      (0 < n → 0 < ((List.range n).flatMap fun (i : Nat) => Vw.of s.rows (t, (i : Int) + 1)).length ∧ (((List.range n).flatMap fun (i : Nat) => Vw.of s.rows (t, (i : Int) + 1)).getD (((List.range n).flatMap fun (i : Nat) => Vw.of s.rows (t, (i : Int) + 1)).length - 1) noR).doc = n) := fun n => by
    induction n with
    | zero => exact fun _ => ⟨fun i hi => by simp at hi, fun _ => rfl, fun q => by omega⟩
    | succ n ih =>
      intro hn; obtain ⟨i1, i2, i3⟩ := ih (by omega); rw [List.range_succ, List.flatMap_append]; simp only [List.flatMap_cons, List.flatMap_nil, List.append_nil]; generalize (List.range n).flatMap (fun (i : Nat) => Vw.of s.rows (t, (i : Int) + 1)) = A at i1 i2 i3; have f1 := g.full t ((n : Int) + 1) (by omega) (by omega); have f2 := g.dele (t, (n : Int) + 1); have f3 := h.ver (t, (n : Int) + 1); have f4 : ∀ r ∈ Vw.of s.rows (t, (n : Int) + 1), r.doc = (n : Int) + 1 := fun r hr => congrArg Prod.snd (of_key hr); generalize Vw.of s.rows (t, (n : Int) + 1) = G at f1 f2 f3 f4; have hG : 0 < G.length := List.length_pos_iff.2 f1; have hver : ∀ j, j < G.length → (G.getD j noR).ver = j := fun j hj => by
        have := congrArg (fun l => l[j]?) f3; simp only [List.getElem?_map, List.getElem?_range hj, List.getElem?_eq_getElem hj, Option.map_some, Option.some.injEq] at this; rw [getD_lt hj]; exact this
      have hdel : ∀ j, j + 1 < G.length → (G.getD j noR).del = false := fun j hj => by
        refine f2 _ ?_; rw [← List.map_dropLast, getD_lt (show j < G.length by omega)]; refine List.mem_map.2 ⟨G[j], ?_, rfl⟩; rw [List.mem_iff_getElem]; exact ⟨j, by rw [List.length_dropLast]; omega, by rw [List.getElem_dropLast]⟩
      refine ⟨fun i hi => ?_, fun q => by omega, fun _ => ⟨by rw [List.length_append]; omega, ?_⟩⟩
      · rw [List.length_append] at hi
        by_cases hA : i < A.length
        · rw [getD_left hA, getD_left (show i - 1 < A.length by omega)]
          exact i1 i hA
        · rw [getD_right (show A.length ≤ i by omega)]
          by_cases h0 : i = A.length
          · subst h0
            rw [Nat.sub_self]; have d0 := f4 _ (getD_mem hG); have v0 := hver 0 hG; rcases Nat.eq_zero_or_pos n with hn0 | hn0
            · have hA0 := i2 hn0
              left
              subst hn0; exact ⟨by rw [hA0]; rfl, v0, by rw [d0]; rfl⟩
            · obtain ⟨j1, j2⟩ := i3 hn0
              right; left
              rw [getD_left (show A.length - 1 < A.length by omega), j2, d0]; exact ⟨j1, by omega, v0, rfl⟩
          · right; right
            rw [getD_right (show A.length ≤ i - 1 by omega), show i - 1 - A.length = i - A.length - 1 by omega]; have e1 := f4 _ (getD_mem (show i - A.length < G.length by omega)); have e2 := f4 _ (getD_mem (show i - A.length - 1 < G.length by omega)); have e3 := hver (i - A.length) (by omega); have e4 := hver (i - A.length - 1) (by omega); exact ⟨by omega, by rw [e1, e2], by omega, hdel _ (by omega)⟩
      · rw [List.length_append, getD_right (show A.length ≤ A.length + G.length - 1 by omega)]
        have := f4 _ (getD_mem (show A.length + G.length - 1 - A.length < G.length by omega)); rw [this]; rfl
  exact (key _ (Nat.le_refl _)).1
end Vw
end Go.Proofs.YtchgjaaadfjiiaaGreat

namespace Go.Proofs.YtchgjaaadfjiiaaGreat
open Go.RowKit Go.Maps
namespace Vw
open K
set_option maxRecDepth 100000
set_option maxHeartbeats 16000000 in
theorem versions_law {w : World} {f : Nat} {v : Value} {LL : List (List Ac)} (h : IsActss (fun b => b < w.heap.size) (f + 1) w v LL) (hLL : LL.length ≤ 140737488355328) : Calls Tryz.prog 5 #[v] w fun e w' => e = .returned (.bool true) ∧ Below w.heap.size w w' := by
  obtain ⟨spv, capv, rfl, hc1, hc2, hc3, hrow⟩ := id h; refine enter (args := [.slice spv LL.length capv]) Tryz.func5 rfl Tryz.ntmps5 rfl ?_; refine K.kgo ?_; refine WL.call rfl rfl rfl rfl rfl Tryz.func8 rfl (by kernel_rfl) (heavy_any h) ?_; rintro _ w1 ⟨b1, hv, rfl, hlite⟩; refine ⟨_, rfl, ?_⟩; cases hv with
  | true =>
    refine K.kgo ?_; refine WL.call rfl rfl rfl rfl rfl Tryz.func9 rfl (by kernel_rfl) known_any ?_; rintro _ w2 ⟨rfl, b2⟩; refine ⟨_, rfl, ?_⟩; refine K.kgo ?_; exact WQ.ret1 rfl rfl ⟨rfl, b1.trans (b2.mono b1.size)⟩
  | false =>
  obtain ⟨hl60, htot, hlt⟩ := hlite rfl; refine K.kgo ?_; refine WL.call rfl rfl rfl rfl rfl Tryz.func10 rfl (by kernel_rfl) (pnew_any (f := f + 1)) ?_; rintro _ w2 ⟨vb0, M1, rfl, hp2, b2, m1⟩; refine ⟨_, rfl, ?_⟩; refine K.kgo ?_; refine WL.nilP rfl rfl rfl rfl rfl rfl (by kernel_rfl) ?_; refine K.kgo ?_; refine WL.call rfl rfl rfl rfl rfl Tryz.func11 rfl (by kernel_rfl) (rnew_any (f := f + 1)) ?_; rintro _ w3 ⟨rb, M2, rfl, hr3, b3, m2⟩; refine ⟨_, rfl, ?_⟩; have z1 := b1.size; have z2 := b2.size; have hlt1 := hp2.lt; have h3 : Duo w.heap.size w3 vb0 rb M1 (fun _ => False) M2 (fun _ => False) f st0 st0 0 := ⟨hp2.below b3, hr3, fun x hx => ⟨by have := m1 x hx; omega, fun hh => by have := m2 x hh; have := hlt1 x (.inl hx); omega, fun hh => hh⟩, fun x hx => ⟨by have := m2 x hx; omega, fun hh => hh⟩⟩; have c3 : Below w.heap.size w w3 := (b1.trans (b2.mono z1)).trans (b3.mono (by omega)); clear hp2 hr3 hlt1 m1 m2 b1 b2 b3 z1 z2; refine K.kgo ?_; refine WC.loop (fun i : Nat => [(0, .slice spv LL.length capv), (3, .pointer (some ⟨vb0, 0, none⟩)), (4, .pointer (some ⟨rb, 0, none⟩)), (5, .int .i64 i)])
    (fun i wx => i ≤ LL.length ∧ Below w.heap.size w wx ∧ ∃ s M D M' D', Duo w.heap.size wx vb0 rb M D M' D' f s s (5 * tot (LL.take i) + 2 * i) ∧ InvN s ∧ Inw s) (fun i => LL.length - i) 0 ⟨rfl, rfl, rfl, rfl, trivial⟩
    ⟨Nat.zero_le _, c3, st0, _, _, _, _, h3, inv0, inw0⟩ ?_
  clear h3 c3; rintro i wl ⟨hi, bl, s, M, D, M', D', hD, hI, hW⟩
  by_cases hik : i < LL.length
  case pos =>
    have zl := bl.size; obtain ⟨bq, oq, rfl, hbq, hOq, hcells⟩ := hrow (by omega); obtain ⟨cs, -, ⟨u, rfl, hu⟩, hat⟩ := hcells i hik; have hts := tot_snoc LL hik; have htl := tot_le LL (i + 1); have hlL : ∀ x ∈ LL.getD i [], Lite (f + 1) x := hlt _ (by rw [List.getD_eq_getElem?_getD, List.getElem?_eq_getElem hik]; exact List.getElem_mem hik); generalize LL.getD i [] = L at hu hts hlL; have hcu : wl.cell? ⟨bq, oq + i * 1, none⟩ = some u := (bl.cell (p := ⟨bq, oq + i * 1, none⟩) hbq).trans (hat 0 _ rfl); obtain ⟨spu, capu, rfl, -⟩ := id hu; refine K.kgl ?_; refine WL.idx i (oq + i * 1) rfl rfl rfl rfl rfl rfl rfl rfl hik rfl ?_; refine K.kgl ?_; refine WL.call rfl rfl rfl rfl rfl Tryz.func12 rfl (by kernel_rfl) (made_any hD.r hI.1.copy (fun x hx => by omega) (hu.below bl) hlL (by omega)) ?_; rintro _ w5 ⟨b5, bc, rfl, hbo⟩; refine ⟨_, rfl, ?_⟩; have hsm : BkSm (f + 1) (madeR s L) := madeR_sm hlL (by omega); have hel : (madeR s L).ents.length = L.length := actsR_len _ _ _ _; have hbl := hbo.len; have ltM := hD.p.lt; have ltR := hD.r.lt; have hD5 := hD.below b5; have z5 := b5.size; refine WL.alloc (z := .agg (bkC noB (.slice none 0 0)).toArray) rfl rfl rfl rfl (fun _ => by kernel_rfl) fun g8 w6 f6 => ?_; refine WL.storeRow rfl rfl rfl rfl rfl rfl f6.blk hbl rfl hbo.one ?_; obtain ⟨v8, b8, -, e8⟩ := rowed bc (Below.refl w5.heap.size w5) f6; generalize w6.setRow g8 _ = w7 at v8 b8 ⊢; clear f6; have hD7 := hD5.below b8; have hb7 := IsBo.there (IsBo.below hbo b8); have c7 : Below w.heap.size w w7 := (bl.trans (b5.mono zl)).trans (b8.mono (by omega)); have z8 := b8.size; clear hbo hD5; refine K.kgo ?_; refine WC.drawn 6 (fun wx => VBlk bkT wx g8 bc) fun wa hdr => ?_; have dra : Below w7.heap.size w7 wa := hdr.below _; have hS : VBlk bkT wa g8 bc := VBlk.below v8 dra (VBlk.lt v8); clear hdr; refine K.fr [0] hS ?_; refine K.wm 1 [2, 3, 6, 7, 8] rfl rfl rfl rfl rfl rfl rfl (fun wx hx => VBlk.rangeAt hx) hbl hS ?_; refine K.fr [4] hS ?_; refine K.wm 5 [6, 7, 8] rfl rfl rfl rfl rfl rfl rfl (fun wx hx => VBlk.rangeAt hx) hbl hS ?_; refine K.wo 2 ?_; have hDa := hD7.below dra; have hba := IsBo.below hb7 dra; have ca : Below w.heap.size w wa := c7.trans (dra.mono c7.size); have za := dra.size; refine WL.call rfl rfl rfl rfl rfl Tryz.func13 rfl (by kernel_rfl) (papply_any hDa.p hI (fun x hx => by omega) hba hsm (by omega)) ?_; rintro _ w9 hp9; obtain ⟨rfl, k9, M3, D3, hD9⟩ := hDa.pres hp9 (by omega) (by omega) ca.size; refine ⟨_, rfl, ?_⟩; have z9 := k9.size; have hS9 : VBlk bkT w9 g8 bc := hS.keep k9 ⟨by have := VBlk.lt hS; omega, fun hm => by have := ltM g8 (.inl hm); omega⟩; have hb9 := IsBo.keep hba k9 fun x hx _ => ⟨by omega, fun hm => by have := ltM x (.inl hm); have := (hD.a1 x hm).1; omega⟩; have c9 : Below w.heap.size w w9 := ((Keep.of_below ca).trans (k9.mono fun x (hx : x < w.heap.size) => ⟨by have := ca.size; omega, fun hm => by have := (hD.a1 x hm).1; omega⟩)).below; refine K.di hS9 ?_; replace hS := hS9; refine K.fr [3] hS ?_; refine K.wo 6 ?_; refine WL.call rfl rfl rfl rfl rfl Tryz.func14 rfl (by kernel_rfl) (rapply15_any hD9.r (fun x hx => by omega) hb9 hsm (by omega) hI.1.copy) ?_; rintro _ w10 hp10; obtain ⟨rfl, k10, M4, D4, hD10⟩ := hD9.rres (N'' := 5 * tot (LL.take (i + 1)) + 2 * (i + 1)) hp10 (by omega) (by omega) (by omega) (by have := c9.size; omega); refine ⟨_, rfl, ?_⟩; have z10 := k10.size; have c10 : Below w.heap.size w w10 := ((Keep.of_below c9).trans (k10.mono fun x (hx : x < w.heap.size) => ⟨by have := c9.size; omega, fun hm => by have := (hD9.a2 x hm).1; omega⟩)).below; have hI2 := appR_inv hI (madeR s L); have hW2 := appR_inw hI hW (madeR s L); clear hp9 hp10 k9 k10 hb9 hba hDa hD9 hD7 hS hS9 hb7 hsm; generalize hA : appR s (madeR s L) = A at hD10 hI2 hW2 ⊢; obtain ⟨ac, s2⟩ := A; simp only at hD10 hI2 hW2 ⊢; refine K.dl ?_
    (refine K.fzl 7 rfl (q := ?_))
    refine K.wo 8 ?_; refine WL.pure rfl rfl rfl rfl ?_; generalize decide (ac = 0) = qac; cases qac
    all_goals
      refine K.dl ?_; refine WD.done (by kernel_rfl) ?_; refine K.kgo ?_; exact WQ.again (i + 1) ⟨rfl, rfl, rfl, rfl, trivial⟩ ⟨hik, c10, s2, _, _, _, _, hD10, hI2, hW2⟩ (by omega)
  case neg =>
  obtain rfl : i = LL.length := by omega
  rw [List.take_length] at hD; have hNN : 5 * tot LL + 2 * LL.length ≤ 100000 := by omega
  generalize 5 * tot LL + 2 * LL.length = NN at hD hNN; have hI1 := hI.1; obtain ⟨rcp, rOc, rv, mb, rk, rr⟩ := id hD.r; obtain ⟨tv, cells, hrc⟩ := id rr.cat; have d0 := rr.vb.cell 0 (by simp); simp only [List.getD_cons_zero] at d0; have lrb := rr.lt rb (.inl rr.mrb); have lrcp := hrc.lt rcp hrc.rc; have hgl : s.cat.length ≤ 64 := hrc.good.len; have e0 := hrc.vb.cell 0 (by simp); simp only [List.getD_cons_zero] at e0; obtain ⟨spt, cpt, rfl⟩ : ∃ spt cpt, tv = .slice spt s.cat.length cpt := by
    obtain ⟨-, -, x1, x2, x3, -⟩ := hrc.own.slV; exact ⟨x1, x2, x3⟩
  refine K.kgo ?_; refine WC.loop (fun t : Nat => [(3, .pointer (some ⟨vb0, 0, none⟩)), (4, .pointer (some ⟨rb, 0, none⟩)), (7, .int .i64 t)]) (fun t wx => 1 ≤ t ∧ t ≤ s.cat.length + 1 ∧ Below wl.heap.size wl wx) (fun t => s.cat.length + 1 - t) 1 ⟨rfl, rfl, rfl, trivial⟩ ⟨Nat.le_refl _, by omega, Below.refl _ _⟩ ?_; rintro t wt ⟨ht1, ht2, bt⟩; have d0t := (bt.cell (p := ⟨rb, 0, none⟩) lrb).trans d0; have e0t := (bt.cell (p := ⟨rcp, 0, none⟩) lrcp).trans e0; have blt := bl.trans (bt.mono bl.size)
  by_cases htl : t ≤ s.cat.length
  case neg =>
    refine K.kgl ?_; refine WL.call rfl rfl rfl rfl rfl Tryz.func9 rfl (by kernel_rfl) known_any ?_; rintro _ wk ⟨rfl, bk⟩; refine ⟨_, rfl, ?_⟩; refine K.kgo ?_; exact WQ.ret1 rfl rfl ⟨rfl, blt.trans (bk.mono blt.size)⟩
  case pos =>
  have rt : R64 (t : Int) := ⟨by omega, by omega⟩; refine K.kgl ?_; refine WL.call rfl rfl rfl rfl rfl Tryz.func18 rfl (by kernel_rfl) (phist_any (hD.p.below bt) hNN rt) ?_; rintro _ wh ⟨bh, vh, rfl, xh⟩; refine ⟨_, rfl, ?_⟩; have hver := hist_ver hI1 hW (t : Int); have bth := bt.trans (bh.mono bt.size); generalize histR s (t : Int) = H at xh hver; obtain ⟨sph, cph, rfl, hq1, hq2, -⟩ := id xh; refine K.kgo ?_; refine WC.loop (fun i : Nat => [(3, .pointer (some ⟨vb0, 0, none⟩)), (4, .pointer (some ⟨rb, 0, none⟩)), (7, .int .i64 t), (8, .slice sph H.length cph), (9, .int .i64 i)]) (fun i wx => i ≤ H.length ∧ Below wh.heap.size wh wx) (fun i => H.length - i) 0 ⟨rfl, rfl, rfl, rfl, rfl, trivial⟩ ⟨Nat.zero_le _, Below.refl _ _⟩ ?_; clear d0t e0t; rintro i wi ⟨hii, bi⟩
  by_cases hlt : i < H.length
  case neg =>
    obtain rfl : i = H.length := by omega
    refine K.kgo ?_; exact WQ.again (t + 1) ⟨rfl, rfl, rfl, trivial⟩ ⟨by omega, by omega, bth.trans (bi.mono bth.size)⟩ (by omega)
  case pos =>
  obtain ⟨b, o, cap', dc, es, hb0, -, R0, -, hrok, -⟩ := els_at xh hlt; obtain ⟨rfl, rfl⟩ : sph = some ⟨b, o, none⟩ ∧ cph = cap' := by simpa using es
  clear es; have hb : b < wi.heap.size := Nat.lt_of_lt_of_le hb0 bi.size; have R := R0.below (Keep.of_below bi) hb0; have x1 := R.doc; have x2 := R.ver; have hrd := hrok.doc; have hrv := hrok.ver; have hS : Below wi.heap.size wi wi := Below.refl _ _; have hvi := hver i hlt; obtain ⟨b', o', cap', dc', es, -, -, P0, -, hpok, -⟩ := els_at xh (show i - 1 < H.length by omega); obtain ⟨rfl, rfl, rfl⟩ : b = b' ∧ o = o' ∧ cph = cap' := by simp at es; exact ⟨es.1.1, es.1.2, es.2⟩
  clear es; have P := P0.below (Keep.of_below bi) hb0; have y1 := P.doc; have y2 := P.ver; have yd := P.del; have hpd := hpok.doc; have hpv := hpok.ver; generalize H.getD i noR = r at R x1 x2 hrd hrv hvi; generalize H.getD (i - 1) noR = p at P y1 y2 yd hpd hpv hvi; refine K.kgo ?_; rcases hvi with ⟨h0, hv0, hd1⟩ | ⟨h0, hne, hv0, hd1⟩ | ⟨h0, heq, hv1, hdl⟩
  · refine WC.drawn 16 (fun wx => Below wi.heap.size wi wx) fun wa hdr => ?_
    replace hS : Below wi.heap.size wi wa := hS.trans ((hdr.below _).mono hS.size); clear hdr; refine K.fr [0, 1, 2, 3, 4, 5, 6, 7, 8, 9, 10, 11, 12, 13, 14, 15] hS ?_; refine K.wo 16 ?_; refine WL.pure rfl rfl rfl rfl ?_; refine K.dl ?_; refine WD.done (by kernel_rfl) ?_; refine K.kgo ?_; refine WC.drawn 39 (fun wx => Below wi.heap.size wi wx) fun wa hdr => ?_; replace hS : Below wi.heap.size wi wa := hS.trans ((hdr.below _).mono hS.size); clear hdr; refine K.fr [0, 1, 2, 3] hS ?_; refine K.wi 4 (i) (o + (i) * 14) rfl rfl rfl rfl rfl rfl rfl rfl rfl hlt rfl (.inr hS) ?_; refine K.fr [5] hS ?_; refine K.wl 6 [7, 8, 9, 10, 11, 12, 13, 14, 15, 16, 17, 18, 19, 20, 21, 22, 23, 24, 25, 26, 27, 28, 29, 30, 31, 32, 33, 34, 35, 36, 37, 38, 39] rfl rfl rfl rfl rfl rfl rfl (fun wx hx => (hx.cell (p := ⟨b, o + (i) * 14 + 2, none⟩) hb).trans x2) hS ?_; refine K.fr [7, 8, 9, 10, 11, 12, 13, 14, 15, 16, 17, 18, 19, 20, 21, 22, 23, 24, 25, 26, 27, 28, 29, 30, 31, 32] hS ?_; refine K.wi 33 (i) (o + (i) * 14) rfl rfl rfl rfl rfl rfl rfl rfl rfl hlt rfl (.inr hS) ?_; refine K.fr [34] hS ?_; refine K.wl 35 [36, 37, 38, 39] rfl rfl rfl rfl rfl rfl rfl (fun wx hx => (hx.cell (p := ⟨b, o + (i) * 14 + 1, none⟩) hb).trans x1) hS ?_; refine K.fr [36, 37, 38] hS ?_; refine K.wo 39 ?_; refine WL.pure rfl rfl rfl rfl ?_; refine K.dl ?_; refine WD.done (by kernel_rfl) ?_; refine K.kgo ?_; refine WC.drawn 24 (fun wx => Below wi.heap.size wi wx) fun wa hdr => ?_; replace hS : Below wi.heap.size wi wa := hS.trans ((hdr.below _).mono hS.size); clear hdr; refine K.fr [0, 1, 2, 3, 4, 5, 6, 7, 8, 9, 10, 11, 12, 13, 14, 15, 16, 17, 18, 19, 20, 21, 22, 23] hS ?_; refine K.wo 24 ?_; refine WL.pure rfl rfl rfl rfl ?_; refine K.dl ?_; refine WD.done (by kernel_rfl) ?_; refine K.kgo ?_; exact WQ.again (i + 1) ⟨rfl, rfl, rfl, rfl, rfl, trivial⟩ ⟨hlt, bi.trans (hS.mono bi.size)⟩ (by omega)
  · refine WC.drawn 16 (fun wx => Below wi.heap.size wi wx) fun wa hdr => ?_
    replace hS : Below wi.heap.size wi wa := hS.trans ((hdr.below _).mono hS.size); clear hdr; refine K.fr [0, 1, 2, 3, 4, 5] hS ?_; refine K.wi 6 (i - 1) (o + (i - 1) * 14) rfl rfl rfl rfl rfl rfl rfl rfl (by omega) (by omega) rfl (.inr hS) ?_; refine K.fr [7] hS ?_; refine K.wl 8 [14, 15, 16] rfl rfl rfl rfl rfl rfl rfl (fun wx hx => (hx.cell (p := ⟨b, o + (i - 1) * 14 + 1, none⟩) hb).trans y1) hS ?_; refine K.fr [9, 10] hS ?_; refine K.wi 11 (i) (o + (i) * 14) rfl rfl rfl rfl rfl rfl rfl rfl rfl hlt rfl (.inr hS) ?_; refine K.fr [12] hS ?_; refine K.wl 13 [14, 15, 16] rfl rfl rfl rfl rfl rfl rfl (fun wx hx => (hx.cell (p := ⟨b, o + (i) * 14 + 1, none⟩) hb).trans x1) hS ?_; refine K.fr [14, 15] hS ?_; refine K.wo 16 ?_; refine WL.pure rfl rfl rfl rfl ?_; refine K.dl ?_; refine WD.done (by kernel_rfl) ?_; refine K.kgo ?_; refine WC.drawn 39 (fun wx => Below wi.heap.size wi wx) fun wa hdr => ?_; replace hS : Below wi.heap.size wi wa := hS.trans ((hdr.below _).mono hS.size); clear hdr; refine K.fr [0, 1, 2, 3] hS ?_; refine K.wi 4 (i) (o + (i) * 14) rfl rfl rfl rfl rfl rfl rfl rfl rfl hlt rfl (.inr hS) ?_; refine K.fr [5] hS ?_; refine K.wl 6 [7, 8, 9, 10, 11, 12, 13, 14, 15, 16, 17, 18, 19, 20, 21, 22, 23, 24, 25, 26, 27, 28, 29, 30, 31, 32, 33, 34, 35, 36, 37, 38, 39] rfl rfl rfl rfl rfl rfl rfl (fun wx hx => (hx.cell (p := ⟨b, o + (i) * 14 + 2, none⟩) hb).trans x2) hS ?_; refine K.fr [7, 8, 9, 10, 11, 12, 13] hS ?_; refine K.wi 14 (i) (o + (i) * 14) rfl rfl rfl rfl rfl rfl rfl rfl rfl hlt rfl (.inr hS) ?_; refine K.fr [15] hS ?_; refine K.wl 16 [24, 25, 26, 27, 28, 29, 30, 31, 32, 33, 34, 35, 36, 37, 38, 39] rfl rfl rfl rfl rfl rfl rfl (fun wx hx => (hx.cell (p := ⟨b, o + (i) * 14 + 1, none⟩) hb).trans x1) hS ?_; refine K.fr [17, 18, 19] hS ?_; refine K.wi 20 (i - 1) (o + (i - 1) * 14) rfl rfl rfl rfl rfl rfl rfl rfl (by omega) (by omega) rfl (.inr hS) ?_; refine K.fr [21] hS ?_; refine K.wl 22 [23, 24, 25, 26, 27, 28, 29, 30, 31, 32, 33, 34, 35, 36, 37, 38, 39] rfl rfl rfl rfl rfl rfl rfl (fun wx hx => (hx.cell (p := ⟨b, o + (i - 1) * 14 + 1, none⟩) hb).trans y1) hS ?_; refine K.fr [23, 24, 25, 26, 27, 28, 29, 30, 31, 32, 33, 34, 35, 36, 37, 38] hS ?_; refine K.wo 39 ?_; refine WL.pure rfl rfl rfl rfl ?_; refine K.dl ?_; refine WD.done (by kernel_rfl) ?_; refine K.kgo ?_; refine WC.drawn 24 (fun wx => Below wi.heap.size wi wx) fun wa hdr => ?_; replace hS : Below wi.heap.size wi wa := hS.trans ((hdr.below _).mono hS.size); clear hdr; refine K.fr [0, 1, 2, 3, 4, 5, 6, 7, 8, 9, 10, 11, 12, 13, 14, 15, 16, 17, 18, 19, 20, 21, 22, 23] hS ?_; refine K.wo 24 ?_; refine WL.pure rfl rfl rfl rfl ?_; refine K.dl ?_; refine WD.done (by kernel_rfl) ?_; refine K.kgo ?_; exact WQ.again (i + 1) ⟨rfl, rfl, rfl, rfl, rfl, trivial⟩ ⟨hlt, bi.trans (hS.mono bi.size)⟩ (by omega)
  · rw [hdl] at yd
    refine WC.drawn 16 (fun wx => Below wi.heap.size wi wx) fun wa hdr => ?_; replace hS : Below wi.heap.size wi wa := hS.trans ((hdr.below _).mono hS.size); clear hdr; refine K.fr [0, 1, 2, 3, 4, 5] hS ?_; refine K.wi 6 (i - 1) (o + (i - 1) * 14) rfl rfl rfl rfl rfl rfl rfl rfl (by omega) (by omega) rfl (.inr hS) ?_; refine K.fr [7] hS ?_; refine K.wl 8 [14, 15, 16] rfl rfl rfl rfl rfl rfl rfl (fun wx hx => (hx.cell (p := ⟨b, o + (i - 1) * 14 + 1, none⟩) hb).trans y1) hS ?_; refine K.fr [9, 10] hS ?_; refine K.wi 11 (i) (o + (i) * 14) rfl rfl rfl rfl rfl rfl rfl rfl rfl hlt rfl (.inr hS) ?_; refine K.fr [12] hS ?_; refine K.wl 13 [14, 15, 16] rfl rfl rfl rfl rfl rfl rfl (fun wx hx => (hx.cell (p := ⟨b, o + (i) * 14 + 1, none⟩) hb).trans x1) hS ?_; refine K.fr [14, 15] hS ?_; refine K.wo 16 ?_; refine WL.pure rfl rfl rfl rfl ?_; refine K.dl ?_; refine WD.done (by kernel_rfl) ?_; refine K.kgo ?_; refine WC.drawn 39 (fun wx => Below wi.heap.size wi wx) fun wa hdr => ?_; replace hS : Below wi.heap.size wi wa := hS.trans ((hdr.below _).mono hS.size); clear hdr; refine K.fr [0, 1, 2, 3, 4, 5, 6, 7, 8, 9, 10, 11, 12, 13, 14, 15, 16, 17, 18, 19, 20, 21, 22, 23, 24, 25, 26, 27, 28, 29, 30, 31, 32, 33, 34, 35, 36, 37, 38] hS ?_; refine K.wo 39 ?_; refine WL.pure rfl rfl rfl rfl ?_; refine K.dl ?_; refine WD.done (by kernel_rfl) ?_; refine K.kgo ?_; refine WC.drawn 24 (fun wx => Below wi.heap.size wi wx) fun wa hdr => ?_; replace hS : Below wi.heap.size wi wa := hS.trans ((hdr.below _).mono hS.size); clear hdr; refine K.fr [0, 1, 2, 3, 4] hS ?_; refine K.wi 5 (i) (o + (i) * 14) rfl rfl rfl rfl rfl rfl rfl rfl rfl hlt rfl (.inr hS) ?_; refine K.fr [6] hS ?_; refine K.wl 7 [15, 16, 17, 18, 19, 20, 21, 22, 23, 24] rfl rfl rfl rfl rfl rfl rfl (fun wx hx => (hx.cell (p := ⟨b, o + (i) * 14 + 2, none⟩) hb).trans x2) hS ?_; refine K.fr [8, 9, 10] hS ?_; refine K.wi 11 (i - 1) (o + (i - 1) * 14) rfl rfl rfl rfl rfl rfl rfl rfl (by omega) (by omega) rfl (.inr hS) ?_; refine K.fr [12] hS ?_; refine K.wl 13 [14, 15, 16, 17, 18, 19, 20, 21, 22, 23, 24] rfl rfl rfl rfl rfl rfl rfl (fun wx hx => (hx.cell (p := ⟨b, o + (i - 1) * 14 + 2, none⟩) hb).trans y2) hS ?_; refine K.fr [14, 15, 16, 17, 18, 19] hS ?_; refine K.wi 20 (i - 1) (o + (i - 1) * 14) rfl rfl rfl rfl rfl rfl rfl rfl (by omega) (by omega) rfl (.inr hS) ?_; refine K.fr [21] hS ?_; refine K.wl 22 [23, 24] rfl rfl rfl rfl rfl rfl rfl (fun wx hx => (hx.cell (p := ⟨b, o + (i - 1) * 14 + 10, none⟩) hb).trans yd) hS ?_; refine K.fr [23] hS ?_; refine K.wo 24 ?_; refine WL.pure rfl rfl rfl rfl ?_; refine K.dl ?_; refine WD.done (by kernel_rfl) ?_; refine K.kgo ?_; exact WQ.again (i + 1) ⟨rfl, rfl, rfl, rfl, rfl, trivial⟩ ⟨hlt, bi.trans (hS.mono bi.size)⟩ (by omega)
end Vw
end Go.Proofs.YtchgjaaadfjiiaaGreat

namespace Go.Proofs.YtchgjaaadfjiiaaGreat.viewsVersions
open Go.ChangeShapes Go.WideShapes Go.ChangeAt Go.RowKit
open Go.ChangeMaps (open_string shut_string)
open Go.Proofs.YtchgjaaadfjiiaaGreat

set_option maxRecDepth 100000 in
theorem lifted (os : Os) (started : os.Started) (H : Type) (enc : TypeId × Value → H) :
    ReturnsInHanded {} Tryz.checked os 5 .any (Rows.viewsVersionsSpec.pre6 enc Tryz.prog Tryz.f5 Rows.viewsVersionsRow.domain false) (Rows.viewsVersionsSpec.post enc Tryz.prog Tryz.f5 false true false false) := by
  refine returnsInHanded_of_change_sized (C := Tryz.checked) Tryz.ownKnob started (by kernel_rfl) Tryz.func5
    (ChangeSpec.witness6 (enc := enc) (C := Tryz.checked) false ⟨#[], #[.slice none 0 0], []⟩ 8 (by kernel_rfl) (by kernel_rfl) (by kernel_rfl) (by kernel_rfl)) ?_
  intro W base args ds gs before hval0 hW hcnd hsz _; have hval : ∀ (j : Nat) t v, Tryz.f5.params[j]? = some t → args[j]? = some v → Value.okWide Tryz.prog W .any base t v := hval0; have hW' := hW; obtain ⟨p, q, hA0, hV, rfl, hfz, hnd⟩ := hW; have hA : DataW.TrodAll enc Tryz.prog W 0 (fun _ => true) true Tryz.f5.params.toList args.toList ds p := hA0; rw [Tryz.params5] at hA hval; obtain ⟨v0, vs0, d0, ds0, p0, q0, hargs, rfl, rfl, h0, r0⟩ := trodAll_cons hA; obtain ⟨rfl, rfl, rfl⟩ := trodAll_nil r0; obtain rfl : args = #[v0] := by cases args; simp_all
  obtain ⟨rfl, rfl⟩ := trodVars_none hV; have k0 := h0; have lt0 : ∀ x ∈ p0, x.block < W.heap.size := by obtain ⟨m, hm⟩ := k0; exact DataW.trod_lt m _ _ _ hm
  obtain ⟨f0, l0, is0, ln0⟩ := Vw.open_actss (hval 0 22 v0 rfl rfl) h0 (fun n hn => by have := List.all_eq_true.1 hsz n (DataW.weights_mem_each (j := 0) rfl rfl n hn); simpa using this); clear hA0 hval0; refine (Vw.versions_law is0 ln0).mono fun e W' ⟨he, bel⟩ => ?_; subst he; exact ⟨_, rfl, _, _, _, [], _, [], hW', trodAll_mk1 (shut_bool Tryz.underlying4 _), (trodAll_cons_mk (Below.trod Tryz.laid (by kernel_rfl) (of_decide_eq_true (by kernel_rfl)) k0 bel lt0) trodAll_mk0), rfl, bel.frame _, fun h => by cases h⟩

theorem over : Rows.viewsVersionsRow.holds Tryz.pinned (OpenSpec.ofChange Rows.viewsVersionsSpec) :=
  OpenClaim.holds_of_wide 5 Tryz.f5 rfl rfl rfl rfl rfl rfl rfl ⟨rfl, rfl, rfl, rfl, rfl⟩ rfl rfl rfl rfl rfl (by kernel_rfl) Tryz.func5 (by kernel_rfl)
    (of_decide_eq_true (by kernel_rfl)) (by unfold Func.isWrapper; first | (rw [if_pos (by decide +kernel)]; kernel_rfl) | (rw [if_neg (by decide +kernel)]; exact ⟨rfl, rfl⟩))
    (fun os started H enc _ => lifted os started H enc)

theorem proved : Rows.ViewsVersionsSaid := over
end Go.Proofs.YtchgjaaadfjiiaaGreat.viewsVersions
