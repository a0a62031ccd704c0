/-
  For every row of rows of acts the law ViewsLast answers true, and the arguments read as they did. No condition.
-/
import Derived.Test.YtchgjaaadfjiiaaGreatZVwLh9
import Derived.ChangeMaps5
namespace Go.Proofs.YtchgjaaadfjiiaaGreat
open Go.RowKit Go.Maps
namespace Vw
open K
set_option maxRecDepth 100000
theorem tot_le (LL : List (List Ac)) (i : Nat) : tot (LL.take i) ≤ tot LL := by
  unfold tot; have : (LL.map List.length).sum = ((LL.take i).map List.length).sum + ((LL.drop i).map List.length).sum := by rw [← List.sum_append, ← List.map_append, List.take_append_drop]
  omega
end Vw
end Go.Proofs.YtchgjaaadfjiiaaGreat

namespace Go.Proofs.YtchgjaaadfjiiaaGreat
namespace Vw
open K (En Bk zV formE formE_rng)
open Cat (Tb appC appL tabR)
structure Inw (s : St) : Prop where
  full : ∀ t d : Int, 1 ≤ d → d ≤ cnt t s.rows → Vw.of s.rows (t, d) ≠ []
  dele : ∀ k, ∀ r ∈ ((Vw.of s.rows k).map Rw.del).dropLast, r = false
theorem inw0 : Inw st0 := ⟨fun t d h1 h2 => by have h3 : d ≤ ((0 : Nat) : Int) := h2; omega, (fun _ _ h => by cases h)⟩
theorem of_key {L : List Rw} {k : Int × Int} {r : Rw} (h : r ∈ Vw.of L k) : r.key = k := by
  unfold Vw.of at h
  simpa using (List.mem_filter.1 h).2
theorem Inw.snoc {s : St} (h : Inv s) (g : Inw s) {e : En} {bi k tim : Int} (ht : (tabR s.cat e.table).2.2 = 0) (hfit : fits s e = true) : Inw { s with rows := s.rows ++ [rowOf e bi k tim] } := by
  have hnx : e.ver = 0 → e.doc = (cnt e.table s.rows : Int) + 1 := fun h0 => by
    unfold fits at hfit; rw [if_pos h0] at hfit; have h1 : e.doc = next s e.table := by simpa using hfit
    have : next s e.table = (cnt e.table s.rows : Int) + 1 := by unfold next; rw [if_pos ht]
    omega
  refine ⟨fun t d h1 h2 => ?_, fun x r hr => ?_⟩
  · change d ≤ (cnt t (s.rows ++ [rowOf e bi k tim]) : Nat) at h2
    show Vw.of (s.rows ++ [rowOf e bi k tim]) (t, d) ≠ []
    rw [of_snoc]; rw [cnt_snoc] at h2
    by_cases hd : d ≤ (cnt t s.rows : Int)
    · exact fun q => g.full t d h1 hd (List.append_eq_nil_iff.1 q).1
    · by_cases hc : (rowOf e bi k tim).tab = t ∧ (rowOf e bi k tim).ver = 0
      · rw [if_pos hc] at h2
        have h3 := hnx hc.2; have h4 : e.table = t := hc.1; rw [h4] at h3; rw [if_pos (show (rowOf e bi k tim).key = (t, d) from Prod.ext h4 (by show e.doc = d; omega))]; simp
      · rw [if_neg hc] at h2
        omega
  · change r ∈ ((Vw.of (s.rows ++ [rowOf e bi k tim]) x).map Rw.del).dropLast at hr
    rw [of_snoc] at hr
    by_cases hx : (rowOf e bi k tim).key = x
    · rw [if_pos hx, List.map_append, List.map_singleton, List.dropLast_concat] at hr
      have hx' : (e.table, e.doc) = x := hx; subst hx'
      by_cases h0 : e.ver = 0
      · rw [h.none (.inr (by have := hnx h0; omega))] at hr
        cases hr
      · unfold fits at hfit
        rw [if_neg h0] at hfit; cases hl : (Vw.of s.rows (e.table, e.doc)).getLast? with
        | none => rw [hl] at hfit; simp at hfit
        | some q =>
          rw [hl] at hfit; simp at hfit
          have hs : Vw.of s.rows (e.table, e.doc) = (Vw.of s.rows (e.table, e.doc)).dropLast ++ [q] := by
            obtain ⟨ys, hys⟩ := List.getLast?_eq_some_iff.1 hl; rw [hys]; simp
          have hd := g.dele (e.table, e.doc); rw [hs, List.map_append, List.mem_append] at hr; rcases hr with hr | hr
          · exact hd r (by rw [← List.map_dropLast]; exact hr)
          · simp at hr; rw [hr]; exact hfit.1
    · rw [if_neg hx, List.append_nil] at hr
      exact g.dele x r hr
theorem Inw.shut {s : St} (g : Inw s) {i : Nat} (hi : i < s.rows.length) (f : Int × Int → Bool) : Inw { s with rows := s.rows.set i (shut (s.rows.getD i noR)), red := f } := by
  obtain ⟨A, B, e, -, hs⟩ := set_split hi; generalize s.rows.getD i noR = r at e hs; have h1 := g.full; have h2 := g.dele; rw [hs]; rw [e] at h1 h2; have hm : ∀ k, (Vw.of (A ++ Vw.shut r :: B) k).map Rw.del = (Vw.of (A ++ r :: B) k).map Rw.del := fun k => by
    rw [of_split, of_split]
    by_cases q : r.key = k
    · rw [if_pos q, if_pos (show (Vw.shut r).key = k from q)]; simp [Vw.shut]
    · rw [if_neg q, if_neg (show ¬ (Vw.shut r).key = k from q)]
  refine ⟨fun t d q1 q2 => ?_, fun k x hx => ?_⟩
  · change d ≤ (cnt t (A ++ Vw.shut r :: B) : Nat) at q2
    show Vw.of (A ++ Vw.shut r :: B) (t, d) ≠ []
    rw [cnt_split] at q2; have := h1 t d q1 q2; intro q; have := congrArg List.length (hm (t, d)); rw [q, List.length_map, List.length_map] at this; exact h1 t d q1 q2 (List.eq_nil_of_length_eq_zero this.symm)
  · change x ∈ ((Vw.of (A ++ Vw.shut r :: B) k).map Rw.del).dropLast at hx
    rw [hm] at hx; exact h2 k x hx
theorem entR_inw {s : St} (h : Inv s) (g : Inw s) {e : En} {bi k tim : Int} (h0 : (entR s e bi k tim).1 = 0) : Inw (entR s e bi k tim).2 := by
  revert h0
  unfold entR
  split
  · intro _; exact g
  · split
    · rename_i hk
      split
      · intro q; exact absurd q (show ¬ (3 : Int) = 0 by decide)
      · rename_i hc
        intro _; have hc' : (tabR s.cat e.table).2.2 = 0 ∧ fits s e = true := by
          refine ⟨Decidable.byContradiction fun q => hc (.inl q), ?_⟩; cases hq : fits s e with
          | true => rfl
          | false => exact absurd (.inr (.inr hq)) hc
        exact Inw.snoc h g hc'.1 hc'.2
    · split
      · split
        · rename_i i hi
          intro _; obtain ⟨hl, -, -, -⟩ := hit_some hi; exact g.shut hl _
        · intro q; exact absurd q (show ¬ (3 : Int) = 0 by decide)
      · intro _
        exact ⟨g.full, g.dele⟩
theorem runR_inw (b : Bk) : ∀ (l : List En) (k : Nat) (s : St), Inv s → Und s b.index k → Inw s → (∀ e ∈ l, formE e) → (runR b l k s).1 = 0 → Inw (runR b l k s).2
  | [], _, _, _, _, g, _, _ => g
  | e :: r, k, s, h, hu, g, hf, h0 => by
    unfold runR at h0 ⊢
    by_cases hc : (entR s e b.index k b.time).1 = 0
    · rw [if_pos hc] at h0 ⊢
      obtain ⟨h1, h2⟩ := entR_inv h hu (hf e (List.mem_cons_self ..)) hc; exact runR_inw b r (k + 1) _ h1 h2 (entR_inw h g hc) (fun x hx => hf x (List.mem_cons_of_mem _ hx)) h0
    · rw [if_neg hc] at h0
      exact absurd h0 hc
theorem appR_inw {s : St} (h : InvN s) (g : Inw s) (b : Bk) : Inw (appR s b).2 := by
  classical
  unfold appR
  split
  · exact g
  · rename_i hi
    split
    · exact g
    · rename_i hc
      obtain ⟨hf, -, -, -⟩ := chk_form (Decidable.byContradiction hc)
      split
      · rename_i h0
        have hu : Und s b.index 0 := fun r hr => .inl (by have := h.2 r hr; omega); have := runR_inw b b.ents 0 s h.1 hu g hf h0; exact ⟨this.full, this.dele⟩
      · exact g
theorem getD_left {A B : List Rw} {i : Nat} (h : i < A.length) : (A ++ B).getD i noR = A.getD i noR := by
  rw [List.getD_eq_getElem?_getD, List.getD_eq_getElem?_getD, List.getElem?_append_left h]
theorem getD_right {A B : List Rw} {i : Nat} (h : A.length ≤ i) : (A ++ B).getD i noR = B.getD (i - A.length) noR := by
  rw [List.getD_eq_getElem?_getD, List.getD_eq_getElem?_getD, List.getElem?_append_right h]
theorem getD_mem {A : List Rw} {i : Nat} (h : i < A.length) : A.getD i noR ∈ A := by rw [getD_lt h]; exact List.getElem_mem h
end Vw
end Go.Proofs.YtchgjaaadfjiiaaGreat

namespace Go.Proofs.YtchgjaaadfjiiaaGreat
open Go.RowKit Go.Maps
namespace Vw
open K
set_option maxRecDepth 100000
end Vw
end Go.Proofs.YtchgjaaadfjiiaaGreat

namespace Go.Proofs.YtchgjaaadfjiiaaGreat
namespace Vw
def lst (H : List Rw) (i : Nat) : Bool := decide (i + 1 = H.length) || decide ((H.getD (i + 1) noR).doc ≠ (H.getD i noR).doc)
def kp (drp : Bool) (H : List Rw) (i : Nat) : Bool := lst H i && !(H.getD i noR).del && !(H.getD i noR).gone && !drp
def wnt (drp : Bool) (H : List Rw) (j : Nat) : List Rw := ((List.range j).filter (kp drp H)).map fun i => H.getD i noR
theorem wnt_step (drp : Bool) (H : List Rw) (j : Nat) : wnt drp H (j + 1) = wnt drp H j ++ if kp drp H j = true then [H.getD j noR] else [] := by
  unfold wnt; rw [List.range_succ, List.filter_append, List.map_append]
  congr 1
  simp only [List.filter_cons, List.filter_nil]
  split <;> simp
theorem wnt_len (drp : Bool) (H : List Rw) (j : Nat) : (wnt drp H j).length ≤ j := by
  unfold wnt; rw [List.length_map]; have := List.length_filter_le (kp drp H) (List.range j)
  rwa [List.length_range] at this
theorem wnt_congr {drp : Bool} {H H' : List Rw} {j : Nat} (h1 : ∀ i, i < j → H.getD i noR = H'.getD i noR) (h2 : ∀ i, i < j → lst H i = lst H' i) : wnt drp H j = wnt drp H' j := by
  induction j with
  | zero => rfl
  | succ j ih =>
    rw [wnt_step, wnt_step, ih (fun i hi => h1 i (by omega)) (fun i hi => h2 i (by omega))]; unfold kp; rw [h1 j (by omega), h2 j (by omega)]
theorem wnt_tail {drp : Bool} {H : List Rw} : ∀ (n a : Nat), (∀ j, j < n → lst H (a + j) = false) → wnt drp H (a + n) = wnt drp H a
  | 0, _, _ => rfl
  | n + 1, a, h => by
    rw [← Nat.add_assoc, wnt_step, wnt_tail n a fun j hj => h j (by omega)]; unfold kp; rw [h n (by omega)]; simp
theorem wnt_docs {s : St} (g : Inw s) {t : Int} (ht : (Cat.tabR s.cat t).2.2 = 0) : wnt (Cat.tabR s.cat t).2.1.dropped (histR s t) (histR s t).length = docsR s t := by
  have key : ∀ n, n ≤ cnt t s.rows → ∀ A, A = ((List.range n).flatMap fun (i : Nat) => Vw.of s.rows (t, (i : Int) + 1)) →
      wnt (Cat.tabR s.cat t).2.1.dropped A A.length = (List.range n).filterMap (fun (i : Nat) => liveR s (t, (i : Int) + 1)) ∧ (∀ r ∈ A, r.doc ≤ n) := fun n => by
    induction n with
    | zero => exact fun _ A hA => by rw [hA]; exact ⟨rfl, (fun _ h => by cases h)⟩
    | succ n ih =>
      intro hn B hB; rw [List.range_succ, List.flatMap_append] at hB; simp only [List.flatMap_cons, List.flatMap_nil, List.append_nil] at hB; obtain ⟨i1, i2⟩ := ih (by omega) _ rfl; generalize (List.range n).flatMap (fun (i : Nat) => Vw.of s.rows (t, (i : Int) + 1)) = A at hB i1 i2; rw [docs_step, ← i1]; have f1 := g.full t ((n : Int) + 1) (by omega) (by omega); have f4 : ∀ r ∈ Vw.of s.rows (t, (n : Int) + 1), r.doc = (n : Int) + 1 := fun r hr => congrArg Prod.snd (of_key hr); have hlv : liveR s (t, (n : Int) + 1) = if (Cat.tabR s.cat t).2.1.dropped = false ∧ ((Vw.of s.rows (t, (n : Int) + 1)).getD ((Vw.of s.rows (t, (n : Int) + 1)).length - 1) noR).del = false ∧ ((Vw.of s.rows (t, (n : Int) + 1)).getD ((Vw.of s.rows (t, (n : Int) + 1)).length - 1) noR).gone = false then some ((Vw.of s.rows (t, (n : Int) + 1)).getD ((Vw.of s.rows (t, (n : Int) + 1)).length - 1) noR) else none := by
        unfold liveR opn; rw [decide_eq_true ht, Bool.true_and]; generalize Vw.of s.rows (t, (n : Int) + 1) = G at f1; have hG : 0 < G.length := List.length_pos_iff.2 f1; have hl : G.getLast? = some (G.getD (G.length - 1) noR) := by rw [List.getLast?_eq_getElem?, getD_lt (show G.length - 1 < G.length by omega), List.getElem?_eq_getElem]
        rw [hl]
        show (if (!(Cat.tabR s.cat t).2.1.dropped) = true then _ else _) = _
        cases (Cat.tabR s.cat t).2.1.dropped
        · simp
        · simp
      rw [hlv]; generalize Vw.of s.rows (t, (n : Int) + 1) = G at hB f1 f4; have hG : 0 < G.length := List.length_pos_iff.2 f1; obtain ⟨m, hm⟩ : ∃ m, G.length = m + 1 := ⟨G.length - 1, by omega⟩; have hBl : B.length = A.length + m + 1 := by rw [hB, List.length_append, hm]; omega
      have bl : ∀ i, i < A.length → B.getD i noR = A.getD i noR := fun i hi => by rw [hB]; exact getD_left hi
      have br : ∀ j, B.getD (A.length + j) noR = G.getD j noR := fun j => by rw [hB, getD_right (by omega), Nat.add_sub_cancel_left]
      have hla : ∀ i, i < A.length → lst B i = lst A i := fun i hi => by
        unfold lst; rw [bl i hi, decide_eq_false (show ¬ i + 1 = B.length by omega), Bool.false_or]
        by_cases hi1 : i + 1 = A.length
        · rw [decide_eq_true hi1, Bool.true_or]
          refine decide_eq_true ?_; have e1 := br 0; rw [Nat.add_zero] at e1; rw [hi1, e1, f4 _ (getD_mem hG)]; have := i2 _ (getD_mem hi); omega
        · rw [decide_eq_false hi1, Bool.false_or, bl (i + 1) (by omega)]
      have hlb : ∀ j, j < m → lst B (A.length + j) = false := fun j hj => by
        unfold lst; rw [decide_eq_false (show ¬ A.length + j + 1 = B.length by omega), Bool.false_or]; refine decide_eq_false (fun q => q ?_); rw [Nat.add_assoc, br, br, f4 _ (getD_mem (by omega)), f4 _ (getD_mem (by omega))]
      have hll : lst B (A.length + m) = true := by
        unfold lst; rw [decide_eq_true (show A.length + m + 1 = B.length by omega), Bool.true_or]
      refine ⟨?_, fun r hr => ?_⟩
      · rw [hBl, wnt_step, wnt_tail m A.length hlb, wnt_congr bl hla]
        congr 1
        unfold kp; rw [hll, br, hm, Nat.add_sub_cancel]; generalize (Cat.tabR s.cat t).2.1.dropped = drp; generalize G.getD m noR = r; cases h1 : r.del <;> cases h2 : r.gone <;> cases drp <;> simp
      · rw [hB] at hr
        rcases List.mem_append.1 hr with q | q
        · have := i2 r q; omega
        · rw [f4 r q]; omega
  exact (key _ (Nat.le_refl _) _ rfl).1
theorem docs_at {s : St} {t : Int} {r : Rw} (h : r ∈ docsR s t) : liveR s (t, r.doc) = some r := by
  unfold docsR at h; obtain ⟨i, -, hi⟩ := List.mem_filterMap.1 h; have hk : r.doc = (i : Int) + 1 := by
    unfold liveR at hi
    split at hi
    · split at hi
      · rename_i q hq
        split at hi
        · cases hi
          exact congrArg Prod.snd (of_key (List.mem_of_getLast? hq))
        · cases hi
      · cases hi
    · cases hi
  rw [hk]; exact hi
end Vw
end Go.Proofs.YtchgjaaadfjiiaaGreat

namespace Go.Proofs.YtchgjaaadfjiiaaGreat
open Go.RowKit Go.Maps
namespace Vw
open K
set_option maxRecDepth 100000
def RowS (r : Rw) (cs : List Value) : Prop := ∃ dc, cs = rwC r dc ∧ dc.length = 6
theorem lst_last {H : List Rw} {i : Nat} (h : i + 1 = H.length) : lst H i = true := by unfold lst; rw [decide_eq_true h]; rfl
theorem lst_ne {H : List Rw} {i : Nat} (h : (H.getD (i + 1) noR).doc ≠ (H.getD i noR).doc) : lst H i = true := by unfold lst; rw [decide_eq_true h, Bool.or_true]
theorem lst_eq {H : List Rw} {i : Nat} (h0 : i + 1 ≠ H.length) (h : (H.getD (i + 1) noR).doc = (H.getD i noR).doc) : lst H i = false := by unfold lst; rw [decide_eq_false h0, decide_eq_false (fun q => q h)]; rfl
set_option maxHeartbeats 16000000 in
theorem last_law {w : World} {f : Nat} {v : Value} {LL : List (List Ac)} (h : IsActss (fun b => b < w.heap.size) (f + 1) w v LL) (hLL : LL.length ≤ 140737488355328) : Calls Tryz.prog 7 #[v] w fun e w' => e = .returned (.bool true) ∧ Below w.heap.size w w' := by
  obtain ⟨spv, capv, rfl, hc1, hc2, hc3, hrow⟩ := id h; refine enter (args := [.slice spv LL.length capv]) Tryz.func7 rfl Tryz.ntmps7 rfl ?_; refine K.kgo ?_; refine WL.call rfl rfl rfl rfl rfl Tryz.func8 rfl (by kernel_rfl) (heavy_any h) ?_; rintro _ w1 ⟨b1, hv, rfl, hlite⟩; refine ⟨_, rfl, ?_⟩; cases hv with
  | true =>
    refine K.kgo ?_; refine WL.call rfl rfl rfl rfl rfl Tryz.func9 rfl (by kernel_rfl) known_any ?_; rintro _ w2 ⟨rfl, b2⟩; refine ⟨_, rfl, ?_⟩; refine K.kgo ?_; exact WQ.ret1 rfl rfl ⟨rfl, b1.trans (b2.mono b1.size)⟩
  | false =>
  obtain ⟨hl60, htot, hlt⟩ := hlite rfl; refine K.kgo ?_; refine WL.call rfl rfl rfl rfl rfl Tryz.func10 rfl (by kernel_rfl) (pnew_any (f := f + 1)) ?_; rintro _ w2 ⟨vb0, M1, rfl, hp2, b2, m1⟩; refine ⟨_, rfl, ?_⟩; refine K.kgo ?_; refine WL.nilP rfl rfl rfl rfl rfl rfl (by kernel_rfl) ?_; refine K.kgo ?_; refine WL.call rfl rfl rfl rfl rfl Tryz.func11 rfl (by kernel_rfl) (rnew_any (f := f + 1)) ?_; rintro _ w3 ⟨rb, M2, rfl, hr3, b3, m2⟩; refine ⟨_, rfl, ?_⟩; have z1 := b1.size; have z2 := b2.size; have hlt1 := hp2.lt; have h3 : Duo w.heap.size w3 vb0 rb M1 (fun _ => False) M2 (fun _ => False) f st0 st0 0 := ⟨hp2.below b3, hr3, fun x hx => ⟨by have := m1 x hx; omega, fun hh => by have := m2 x hh; have := hlt1 x (.inl hx); omega, fun hh => hh⟩, fun x hx => ⟨by have := m2 x hx; omega, fun hh => hh⟩⟩; have c3 : Below w.heap.size w w3 := (b1.trans (b2.mono z1)).trans (b3.mono (by omega)); clear hp2 hr3 hlt1 m1 m2 b1 b2 b3 z1 z2; refine K.kgo ?_; refine WC.loop (fun i : Nat => [(0, .slice spv LL.length capv), (3, .pointer (some ⟨vb0, 0, none⟩)), (4, .pointer (some ⟨rb, 0, none⟩)), (5, .int .i64 i)])
    (fun i wx => i ≤ LL.length ∧ Below w.heap.size w wx ∧ ∃ s M D M' D', Duo w.heap.size wx vb0 rb M D M' D' f s s (5 * tot (LL.take i) + 2 * i) ∧ InvN s ∧ Inw s) (fun i => LL.length - i) 0 ⟨rfl, rfl, rfl, rfl, trivial⟩
    ⟨Nat.zero_le _, c3, st0, _, _, _, _, h3, inv0, inw0⟩ ?_
  clear h3 c3; rintro i wl ⟨hi, bl, s, M, D, M', D', hD, hI, hW⟩
  by_cases hik : i < LL.length
  case pos =>
    have zl := bl.size; obtain ⟨bq, oq, rfl, hbq, hOq, hcells⟩ := hrow (by omega); obtain ⟨cs, -, ⟨u, rfl, hu⟩, hat⟩ := hcells i hik; have hts := tot_snoc LL hik; have htl := tot_le LL (i + 1); have hlL : ∀ x ∈ LL.getD i [], Lite (f + 1) x := hlt _ (by rw [List.getD_eq_getElem?_getD, List.getElem?_eq_getElem hik]; exact List.getElem_mem hik); generalize LL.getD i [] = L at hu hts hlL; have hcu : wl.cell? ⟨bq, oq + i * 1, none⟩ = some u := (bl.cell (p := ⟨bq, oq + i * 1, none⟩) hbq).trans (hat 0 _ rfl); obtain ⟨spu, capu, rfl, -⟩ := id hu; refine K.kgl ?_; refine WL.idx i (oq + i * 1) rfl rfl rfl rfl rfl rfl rfl rfl hik rfl ?_; refine K.kgl ?_; refine WL.call rfl rfl rfl rfl rfl Tryz.func12 rfl (by kernel_rfl) (made_any hD.r hI.1.copy (fun x hx => by omega) (hu.below bl) hlL (by omega)) ?_; rintro _ w5 ⟨b5, bc, rfl, hbo⟩; refine ⟨_, rfl, ?_⟩; have hsm : BkSm (f + 1) (madeR s L) := madeR_sm hlL (by omega); have hel : (madeR s L).ents.length = L.length := actsR_len _ _ _ _; have hbl := hbo.len; have ltM := hD.p.lt; have ltR := hD.r.lt; have hD5 := hD.below b5; have z5 := b5.size; refine WL.alloc (z := .agg (bkC noB (.slice none 0 0)).toArray) rfl rfl rfl rfl (fun _ => by kernel_rfl) fun g8 w6 f6 => ?_; refine WL.storeRow rfl rfl rfl rfl rfl rfl f6.blk hbl rfl hbo.one ?_; obtain ⟨v8, b8, -, e8⟩ := rowed bc (Below.refl w5.heap.size w5) f6; generalize w6.setRow g8 _ = w7 at v8 b8 ⊢; clear f6; have hD7 := hD5.below b8; have hb7 := IsBo.there (IsBo.below hbo b8); have c7 : Below w.heap.size w w7 := (bl.trans (b5.mono zl)).trans (b8.mono (by omega)); have z8 := b8.size; clear hbo hD5; refine K.kgo ?_; refine WC.drawn 5 (fun wx => VBlk bkT wx g8 bc) fun wa hdr => ?_; have dra : Below w7.heap.size w7 wa := hdr.below _; have hS : VBlk bkT wa g8 bc := VBlk.below v8 dra (VBlk.lt v8); clear hdr; refine K.fr [0] hS ?_; refine K.wm 1 [2, 5, 6] rfl rfl rfl rfl rfl rfl rfl (fun wx hx => VBlk.rangeAt hx) hbl hS ?_; refine K.fr [3] hS ?_; refine K.wm 4 [5, 6] rfl rfl rfl rfl rfl rfl rfl (fun wx hx => VBlk.rangeAt hx) hbl hS ?_; refine K.wo 2 ?_; have hDa := hD7.below dra; have hba := IsBo.below hb7 dra; have ca : Below w.heap.size w wa := c7.trans (dra.mono c7.size); have za := dra.size; refine WL.call rfl rfl rfl rfl rfl Tryz.func13 rfl (by kernel_rfl) (papply_any hDa.p hI (fun x hx => by omega) hba hsm (by omega)) ?_; rintro _ w9 hp9; obtain ⟨rfl, k9, M3, D3, hD9⟩ := hDa.pres hp9 (by omega) (by omega) ca.size; refine ⟨_, rfl, ?_⟩; have z9 := k9.size; have hS9 : VBlk bkT w9 g8 bc := hS.keep k9 ⟨by have := VBlk.lt hS; omega, fun hm => by have := ltM g8 (.inl hm); omega⟩; have hb9 := IsBo.keep hba k9 fun x hx _ => ⟨by omega, fun hm => by have := ltM x (.inl hm); have := (hD.a1 x hm).1; omega⟩; have c9 : Below w.heap.size w w9 := ((Keep.of_below ca).trans (k9.mono fun x (hx : x < w.heap.size) => ⟨by have := ca.size; omega, fun hm => by have := (hD.a1 x hm).1; omega⟩)).below; refine K.di hS9 ?_; replace hS := hS9; refine K.wo 5 ?_; refine WL.call rfl rfl rfl rfl rfl Tryz.func14 rfl (by kernel_rfl) (rapply15_any hD9.r (fun x hx => by omega) hb9 hsm (by omega) hI.1.copy) ?_; rintro _ w10 hp10; obtain ⟨rfl, k10, M4, D4, hD10⟩ := hD9.rres (N'' := 5 * tot (LL.take (i + 1)) + 2 * (i + 1)) hp10 (by omega) (by omega) (by omega) (by have := c9.size; omega); refine ⟨_, rfl, ?_⟩; have z10 := k10.size; have c10 : Below w.heap.size w w10 := ((Keep.of_below c9).trans (k10.mono fun x (hx : x < w.heap.size) => ⟨by have := c9.size; omega, fun hm => by have := (hD9.a2 x hm).1; omega⟩)).below; have hI2 := appR_inv hI (madeR s L); have hW2 := appR_inw hI hW (madeR s L); clear hp9 hp10 k9 k10 hb9 hba hDa hD9 hD7 hS hS9 hb7 hsm; generalize hA : appR s (madeR s L) = A at hD10 hI2 hW2 ⊢; obtain ⟨ac, s2⟩ := A; simp only at hD10 hI2 hW2 ⊢; refine K.dl ?_; refine K.wo 6 ?_
    (refine WL.pure rfl rfl rfl rfl ?_; try (first | ((with_reducible refine WL.topT ?_ ?_); omega) | ((with_reducible refine WL.topF ?_ ?_); omega) | ((with_reducible refine WL.top64 ?_ ?_); omega)))
    refine K.dl ?_; refine WD.done (by kernel_rfl) ?_; refine K.kgo ?_; exact WQ.again (i + 1) ⟨rfl, rfl, rfl, rfl, trivial⟩ ⟨hik, c10, s2, _, _, _, _, hD10, hI2, hW2⟩ (by omega)
  case neg =>
  obtain rfl : i = LL.length := by omega
  rw [List.take_length] at hD; have hNN : 5 * tot LL + 2 * LL.length ≤ 100000 := by omega
  generalize 5 * tot LL + 2 * LL.length = NN at hD hNN; have hI1 := hI.1; obtain ⟨rcp, rOc, rv, mb, rk, rr⟩ := id hD.r; obtain ⟨tv, cells, hrc⟩ := id rr.cat; have d0 := rr.vb.cell 0 (by simp); simp only [List.getD_cons_zero] at d0; have lrb := rr.lt rb (.inl rr.mrb); have lrcp := hrc.lt rcp hrc.rc; have hgl : s.cat.length ≤ 64 := hrc.good.len; have e0 := hrc.vb.cell 0 (by simp); simp only [List.getD_cons_zero] at e0; obtain ⟨spt, cpt, rfl⟩ : ∃ spt cpt, tv = .slice spt s.cat.length cpt := by
    obtain ⟨-, -, x1, x2, x3, -⟩ := hrc.own.slV; exact ⟨x1, x2, x3⟩
  refine K.kgo ?_; refine WC.loop (fun t : Nat => [(3, .pointer (some ⟨vb0, 0, none⟩)), (4, .pointer (some ⟨rb, 0, none⟩)), (7, .int .i64 t)]) (fun t wx => 1 ≤ t ∧ t ≤ s.cat.length + 1 ∧ Below wl.heap.size wl wx) (fun t => s.cat.length + 1 - t) 1 ⟨rfl, rfl, rfl, trivial⟩ ⟨Nat.le_refl _, by omega, Below.refl _ _⟩ ?_; rintro t wt ⟨ht1, ht2, bt⟩; have d0t := (bt.cell (p := ⟨rb, 0, none⟩) lrb).trans d0; have e0t := (bt.cell (p := ⟨rcp, 0, none⟩) lrcp).trans e0; have blt := bl.trans (bt.mono bl.size)
  by_cases htl : t ≤ s.cat.length
  case neg =>
    refine K.kgl ?_; refine WL.call rfl rfl rfl rfl rfl Tryz.func9 rfl (by kernel_rfl) known_any ?_; rintro _ wk ⟨rfl, bk⟩; refine ⟨_, rfl, ?_⟩; refine K.kgo ?_; exact WQ.ret1 rfl rfl ⟨rfl, blt.trans (bk.mono blt.size)⟩
  case pos =>
  have rt : R64 (t : Int) := ⟨by omega, by omega⟩; have htab : (Cat.tabR s.cat (t : Int)).2.2 = 0 := by unfold Cat.tabR; rw [if_pos (by omega)]
  refine K.kgl ?_; refine WL.call rfl rfl rfl rfl rfl Tryz.func25 rfl (by kernel_rfl) (Cr.rtable_any (rr.below bt).cat (t : Int)) ?_; rintro _ wa ⟨fv, rfl, ho, ba⟩; refine ⟨_, rfl, ?_⟩; refine K.kgo ?_; refine WL.alloc (z := .agg Cr.zTab.toArray) rfl rfl rfl rfl Cr.zeroRT fun g8 wb fb => ?_; refine WL.storeRow rfl rfl rfl rfl rfl rfl fb.blk rfl rfl (Cr.ones4 (Cr.OwnV.one ho)) ?_; obtain ⟨v8, bb, -, e8⟩ := rowed [Value.int .i64 (Cat.tabR s.cat (t : Int)).1, .string (Cat.tabR s.cat (t : Int)).2.1.name, .bool (Cat.tabR s.cat (t : Int)).2.1.dropped, fv] (Below.refl wa.heap.size wa) fb; generalize wb.setRow g8 _ = wc at v8 bb ⊢; clear fb; have bc := bt.trans ((ba.mono bt.size).trans (bb.mono (by have := bt.size; have := ba.size; omega))); clear d0t e0t ho; have cd8 := v8.cell 2 (by simp); simp only [List.getD_cons_succ, List.getD_cons_zero] at cd8; have l8 := VBlk.lt v8; refine K.kgo ?_; refine WL.call rfl rfl rfl rfl rfl Tryz.func18 rfl (by kernel_rfl) (phist_any (hD.p.below bc) hNN rt) ?_; rintro _ wh ⟨bh, vh, rfl, xh⟩; refine ⟨_, rfl, ?_⟩; have hwd := wnt_docs hW htab; have bth := bc.trans (bh.mono bc.size); have cdh := (bh.cell (p := ⟨g8, 2, none⟩) l8).trans cd8; have l8h : g8 < wh.heap.size := Nat.lt_of_lt_of_le l8 bh.size; have hHl : (histR s (t : Int)).length ≤ 10000000000 := by
    have h1 := hist_len s (t : Int); have h2 : s.rows.length ≤ 100000 := by have := rr.ok; omega
    have h3 : s.rows.length * s.rows.length ≤ 100000 * 100000 := Nat.mul_le_mul h2 h2; omega
  generalize histR s (t : Int) = H at xh hwd hHl; generalize (Cat.tabR s.cat (t : Int)).2.1.dropped = drp at cdh hwd; clear cd8 v8; obtain ⟨sph, cph, rfl, hq1, hq2, -⟩ := id xh; refine K.kgo ?_; refine WC.loop (fun q : Nat × Value => [(3, .pointer (some ⟨vb0, 0, none⟩)), (4, .pointer (some ⟨rb, 0, none⟩)), (7, .int .i64 t), (8, .pointer (some ⟨g8, 0, none⟩)), (10, .slice sph H.length cph), (11, q.2), (12, .int .i64 q.1)]) (fun q wx => q.1 ≤ H.length ∧ Below wh.heap.size wh wx ∧ OwnE prT 14 noR RowS (fun g => wh.heap.size ≤ g) wx q.2 (wnt drp H q.1)) (fun q => H.length - q.1) (0, .slice none 0 0) ⟨rfl, rfl, rfl, rfl, rfl, rfl, rfl, trivial⟩ ⟨Nat.zero_le _, Below.refl _ _, K.OwnE.nil _ _ _ _ _ _⟩ ?_; rintro ⟨i, vw⟩ wi ⟨hii, bi, hoE⟩; simp only at hii hoE ⊢
  by_cases hlt : i < H.length
  case pos =>
    obtain ⟨b, o, cap', dc, es, hb0, -, R0, hdv, hrok, -⟩ := els_at xh hlt; obtain ⟨rfl, rfl⟩ : sph = some ⟨b, o, none⟩ ∧ cph = cap' := by simpa using es
    clear es; have hb : b < wi.heap.size := Nat.lt_of_lt_of_le hb0 bi.size; have R := R0.below (Keep.of_below bi) hb0; have x1 := R.doc; have hS : Below wi.heap.size wi wi := Below.refl _ _; have cdi := (bi.cell (p := ⟨g8, 2, none⟩) l8h).trans cdh; have hstep := wnt_step drp H i; have hwl := wnt_len drp H i; have fin : ∀ {wx : World}, Below wi.heap.size wi wx → kp drp H i = false → i + 1 ≤ H.length ∧ Below wh.heap.size wh wx ∧ OwnE prT 14 noR RowS (fun g => wh.heap.size ≤ g) wx vw (wnt drp H (i + 1)) := fun {wx} hx hk => by
      rw [hstep, hk, if_neg (by simp), List.append_nil]; exact ⟨hlt, bi.trans (hx.mono bi.size), K.OwnE.keep hoE (Keep.of_below hx) (fun g hg => K.OwnE.lt hoE hg) (fun _ h => h) fun _ _ h => h⟩
    have kpe : kp drp H i = (lst H i && !(H.getD i noR).del && !(H.getD i noR).gone && !drp) := rfl
    by_cases hlast : lst H i = true
    case pos =>
      rw [hlast, Bool.true_and] at kpe; have hcase : i + 1 = H.length ∨ (i + 1 < H.length ∧ (H.getD (i + 1) noR).doc ≠ (H.getD i noR).doc) := by
        by_cases q : i + 1 = H.length
        · exact .inl q
        · refine .inr ⟨by omega, fun e => ?_⟩
          rw [lst_eq q e] at hlast; cases hlast
      refine K.kgo ?_; refine WC.mid (fun _ : Unit => [(3, .pointer (some ⟨vb0, 0, none⟩)), (4, .pointer (some ⟨rb, 0, none⟩)), (7, .int .i64 t), (8, .pointer (some ⟨g8, 0, none⟩)), (10, .slice (some ⟨b, o, none⟩) H.length cph), (11, vw), (12, .int .i64 i), (13, .bool true)]) (fun _ wx => Below wi.heap.size wi wx) rfl ?_ ?_
      · rcases hcase with hcl | ⟨hcl, hcd⟩
        · refine K.kgn ?_
          refine WC.drawn 19 (fun wx => Below wi.heap.size wi wx) fun wa hdr => ?_; replace hS : Below wi.heap.size wi wa := hS.trans ((hdr.below _).mono hS.size); clear hdr; refine K.fr [0, 1, 2, 3, 4, 5, 6, 7, 8, 9, 10, 11, 12, 13, 14, 15, 16, 17, 18] hS ?_; refine K.wo 19 ?_; refine WL.pure rfl rfl rfl rfl ?_; refine K.dl ?_; refine WD.done (by kernel_rfl) ?_; refine K.kgo ?_; exact WQ.meet () ⟨rfl, rfl, rfl, rfl, rfl, rfl, rfl, rfl, trivial⟩ hS
        · obtain ⟨b', o', cap', dc', es, -, -, P0, -, hpok, -⟩ := els_at xh hcl
          obtain ⟨rfl, rfl, rfl⟩ : b = b' ∧ o = o' ∧ cph = cap' := by simp at es; exact ⟨es.1.1, es.1.2, es.2⟩
          clear es; have P := P0.below (Keep.of_below bi) hb0; have y1 := P.doc; generalize (H.getD i noR).doc = rd at x1 hcd; generalize (H.getD (i + 1) noR).doc = pd at y1 hcd; refine K.kgn ?_; refine WC.drawn 19 (fun wx => Below wi.heap.size wi wx) fun wa hdr => ?_; replace hS : Below wi.heap.size wi wa := hS.trans ((hdr.below _).mono hS.size); clear hdr; refine K.fr [0, 1, 2, 3, 4, 5, 6, 7, 8] hS ?_; refine K.wi 9 (i + 1) (o + (i + 1) * 14) rfl rfl rfl rfl rfl rfl rfl rfl (by omega) hcl rfl (.inr hS) ?_; refine K.fr [10] hS ?_; refine K.wl 11 [17, 18, 19] rfl rfl rfl rfl rfl rfl rfl (fun wx hx => (hx.cell (p := ⟨b, o + (i + 1) * 14 + 1, none⟩) hb).trans y1) hS ?_; refine K.fr [12, 13] hS ?_; refine K.wi 14 (i) (o + (i) * 14) rfl rfl rfl rfl rfl rfl rfl rfl rfl hlt rfl (.inr hS) ?_; refine K.fr [15] hS ?_; refine K.wl 16 [17, 18, 19] rfl rfl rfl rfl rfl rfl rfl (fun wx hx => (hx.cell (p := ⟨b, o + (i) * 14 + 1, none⟩) hb).trans x1) hS ?_; refine K.fr [17, 18] hS ?_; refine K.wo 19 ?_; refine WL.pure rfl rfl rfl rfl ?_; refine K.dl ?_; refine WD.done (by kernel_rfl) ?_; refine K.kgo ?_; exact WQ.meet () ⟨rfl, rfl, rfl, rfl, rfl, rfl, rfl, rfl, trivial⟩ hS
      rintro _ wj hj; have hjd := (hj.cell (p := ⟨g8, 2, none⟩) (show g8 < wi.heap.size by have := bi.size; omega)).trans cdi; have xd := (hj.cell (p := ⟨b, o + i * 14 + 10, none⟩) hb).trans R.del; have xg := (hj.cell (p := ⟨b, o + i * 14 + 9, none⟩) hb).trans R.gone; have hall : wj.rangeAt b (o + i * 14) (rwC (H.getD i noR) dc) := fun q u hu => (hj.cell (p := ⟨b, o + i * 14 + q, none⟩) hb).trans (R.all q u hu); generalize hRR : H.getD i noR = r at *; generalize r.del = q1 at kpe xd; generalize r.gone = q2 at kpe xg; cases q1 with
      | true =>
        refine K.kgl ?_; refine WL.idx i (o + i * 14) rfl rfl rfl rfl rfl rfl rfl rfl hlt rfl ?_; refine K.kgl ?_; exact WQ.again (i + 1, vw) ⟨rfl, rfl, rfl, rfl, rfl, rfl, rfl, trivial⟩ (fin hj (by rw [kpe]; simp)) (by show H.length - (i + 1) < H.length - i; omega)
      | false =>
      cases q2 with
      | true =>
        refine K.kgl ?_; refine WL.idx i (o + i * 14) rfl rfl rfl rfl rfl rfl rfl rfl hlt rfl ?_; refine K.kgl ?_; refine WL.idx i (o + i * 14) rfl rfl rfl rfl rfl rfl rfl rfl hlt rfl ?_; refine K.kgl ?_; exact WQ.again (i + 1, vw) ⟨rfl, rfl, rfl, rfl, rfl, rfl, rfl, trivial⟩ (fin hj (by rw [kpe]; simp)) (by show H.length - (i + 1) < H.length - i; omega)
      | false =>
      cases drp with
      | true =>
        refine K.kgl ?_; refine WL.idx i (o + i * 14) rfl rfl rfl rfl rfl rfl rfl rfl hlt rfl ?_; refine K.kgl ?_; refine WL.idx i (o + i * 14) rfl rfl rfl rfl rfl rfl rfl rfl hlt rfl ?_; refine K.kgl ?_; exact WQ.again (i + 1, vw) ⟨rfl, rfl, rfl, rfl, rfl, rfl, rfl, trivial⟩ (fin hj (by rw [kpe]; simp)) (by show H.length - (i + 1) < H.length - i; omega)
      | false =>
        refine K.kgl ?_; refine WL.idx i (o + i * 14) rfl rfl rfl rfl rfl rfl rfl rfl hlt rfl ?_; refine K.kgl ?_; refine WL.idx i (o + i * 14) rfl rfl rfl rfl rfl rfl rfl rfl hlt rfl ?_; refine K.kgl ?_; refine WL.idx i (o + i * 14) rfl rfl rfl rfl rfl rfl rfl rfl hlt rfl ?_; refine WL.loadMid rfl rfl rfl rfl rfl rfl hall (rwC_len hdv.len) ?_; refine WL.lit1 rfl rfl rfl rfl rfl rfl rfl (rwC_len hdv.len) ⟨by omega, by omega⟩ (by kernel_rfl) fun g7 w7 f7 => ?_; have hj7 := hj.trans (f7.below.mono hj.size); have hoE7 : OwnE prT 14 noR RowS (fun g => wh.heap.size ≤ g) w7 vw (wnt false H i) := K.OwnE.keep hoE (Keep.of_below hj7) (fun g hg => K.OwnE.lt hoE hg) (fun _ h => h) fun _ _ h => h; refine WL.snoc (y := r) rfl rfl rfl rfl elemPR rfl hoE7 rfl f7.blk (rwC_one hdv.one) (rwC_len hdv.len) ⟨dc, rfl, hdv.len⟩ (by omega) (by omega) fun vw2 w8 o8 gr8 => ?_; have bi7 := bi.trans (hj7.mono bi.size); have b8 : Below wh.heap.size wh w8 := bi7.trans (gr8.old (by have := bi7.size; omega) fun g hg => K.OwnE.own hoE7 hg); refine K.kgo ?_; refine WQ.again (i + 1, vw2) ⟨rfl, rfl, rfl, rfl, rfl, rfl, rfl, trivial⟩ ⟨hlt, b8, ?_⟩ (by show H.length - (i + 1) < H.length - i; omega)
        show OwnE _ _ _ _ _ _ _ (wnt false H (i + 1))
        rw [hstep, kpe, if_pos (by rfl)]; exact K.OwnE.keep o8 (Keep.refl (fun _ => True) w8) (fun _ _ => trivial) (fun g hg => hg.elim id fun e => by have := bi7.size; omega) fun _ _ h => h
    case neg =>
      have hcl : i + 1 < H.length := Nat.lt_of_le_of_ne hlt fun q => hlast (lst_last q); have hcd : (H.getD (i + 1) noR).doc = (H.getD i noR).doc := Decidable.byContradiction fun q => hlast (lst_ne q); obtain ⟨b', o', cap', dc', es, -, -, P0, -, hpok, -⟩ := els_at xh hcl; obtain ⟨rfl, rfl, rfl⟩ : b = b' ∧ o = o' ∧ cph = cap' := by simp at es; exact ⟨es.1.1, es.1.2, es.2⟩
      clear es; have P := P0.below (Keep.of_below bi) hb0; have y1 := P.doc; rw [Bool.not_eq_true] at hlast; have kpf : kp drp H i = false := by rw [kpe, hlast]; rfl
      generalize (H.getD i noR).doc = rd at x1 hcd; generalize (H.getD (i + 1) noR).doc = pd at y1 hcd; refine K.kgo ?_; refine WC.drawn 19 (fun wx => Below wi.heap.size wi wx) fun wa hdr => ?_; replace hS : Below wi.heap.size wi wa := hS.trans ((hdr.below _).mono hS.size); clear hdr; refine K.fr [0, 1, 2, 3, 4, 5, 6, 7, 8] hS ?_; refine K.wi 9 (i + 1) (o + (i + 1) * 14) rfl rfl rfl rfl rfl rfl rfl rfl (by omega) hcl rfl (.inr hS) ?_; refine K.fr [10] hS ?_; refine K.wl 11 [17, 18, 19] rfl rfl rfl rfl rfl rfl rfl (fun wx hx => (hx.cell (p := ⟨b, o + (i + 1) * 14 + 1, none⟩) hb).trans y1) hS ?_; refine K.fr [12, 13] hS ?_; refine K.wi 14 (i) (o + (i) * 14) rfl rfl rfl rfl rfl rfl rfl rfl rfl hlt rfl (.inr hS) ?_; refine K.fr [15] hS ?_; refine K.wl 16 [17, 18, 19] rfl rfl rfl rfl rfl rfl rfl (fun wx hx => (hx.cell (p := ⟨b, o + (i) * 14 + 1, none⟩) hb).trans x1) hS ?_; refine K.fr [17, 18] hS ?_; refine K.wo 19 ?_; refine WL.pure rfl rfl rfl rfl ?_; refine K.dl ?_; refine WD.done (by kernel_rfl) ?_; refine K.kgo ?_; exact WQ.again (i + 1, vw) ⟨rfl, rfl, rfl, rfl, rfl, rfl, rfl, trivial⟩ (fin hS kpf) (by show H.length - (i + 1) < H.length - i; omega)
  case neg =>
  obtain rfl : i = H.length := by omega
  rw [hwd] at hoE; have btl := bth.trans (bi.mono bth.size); have hel := K.OwnE.els hoE; clear hoE; refine K.kgo ?_; refine WL.call rfl rfl rfl rfl rfl Tryz.func22 rfl (by kernel_rfl) (pdocs_any (hD.p.below btl) rt) ?_; rintro _ wd ⟨bd, vd, rfl, xd⟩; refine ⟨_, rfl, ?_⟩; have btd := btl.trans (bd.mono btl.size); have hda : ∀ r ∈ docsR s (t : Int), liveR s ((t : Int), r.doc) = some r := fun r hr => docs_at hr; generalize docsR s (t : Int) = DL at xd hel hda; obtain ⟨spd, cpd, rfl, hd1, hd2, -⟩ := id xd; obtain ⟨spw, cpw, rfl, hw1, hw2, -, hwrow⟩ := id hel; refine K.kgo ?_; refine WC.loop (fun i : Nat => [(3, .pointer (some ⟨vb0, 0, none⟩)), (4, .pointer (some ⟨rb, 0, none⟩)), (7, .int .i64 t), (11, .slice spw DL.length cpw), (14, .slice spd DL.length cpd), (15, .int .i64 i)]) (fun i wx => i ≤ DL.length ∧ Below wd.heap.size wd wx) (fun i => DL.length - i) 0 ⟨rfl, rfl, rfl, rfl, rfl, rfl, trivial⟩ ⟨Nat.zero_le _, Below.refl _ _⟩ ?_; rintro i we ⟨hie, be⟩
  by_cases hlt : i < DL.length
  case neg =>
    obtain rfl : i = DL.length := by omega
    refine K.kgo ?_; exact WQ.again (t + 1) ⟨rfl, rfl, rfl, trivial⟩ ⟨by omega, by omega, btd.trans (be.mono btd.size)⟩ (by omega)
  case pos =>
  obtain ⟨b, o, cap', dc, es, hb0, -, R0, -, hrok, -⟩ := els_at xd hlt; obtain ⟨rfl, rfl⟩ : spd = some ⟨b, o, none⟩ ∧ cpd = cap' := by simpa using es
  clear es; obtain ⟨b2, o2, rfl, hb20, -, hrow2⟩ := hwrow (by omega); obtain ⟨cs2, -, ⟨dc2, rfl, hdl2⟩, hat2⟩ := hrow2 i hlt; have Q0 := RwAt.of hat2 hdl2; have hlv := hda _ (getD_mem hlt); generalize DL.getD i noR = r at R0 hrok Q0 hlv; have R := R0.below (Keep.of_below be) hb0; have x1 := R.doc; have btw := btd.trans (be.mono btd.size); refine K.kgl ?_; refine WL.idx i (o + i * 14) rfl rfl rfl rfl rfl rfl rfl rfl hlt rfl ?_; refine K.kgl ?_; refine WL.call rfl rfl rfl rfl rfl Tryz.func19 rfl (by kernel_rfl) (pdoc_any (hD.p.below btw) rt hrok.doc) ?_; rintro _ wf ⟨bf, r', dc', bb', rfl, hdv', hm⟩; rw [hlv] at hm; obtain ⟨rfl, rfl⟩ := hm; refine ⟨_, rfl, ?_⟩; refine K.kgo ?_; refine WL.alloc (z := .agg (rwC noR zCells).toArray) rfl rfl rfl rfl (fun _ => by kernel_rfl) fun g16 wg fg => ?_; refine WL.storeRow rfl rfl rfl rfl rfl rfl fg.blk (rwC_len hdv'.len) rfl (rwC_one hdv'.one) ?_; obtain ⟨v16, b16, -, -⟩ := rowed (rwC r' dc') (Below.refl wf.heap.size wf) fg; generalize wg.setRow g16 _ = wl2 at v16 b16 ⊢; clear fg; have bl2 := be.trans ((bf.mono be.size).trans (b16.mono (by have := be.size; have := bf.size; omega))); have S16 := RwAt.of (VBlk.rangeAt v16) hdv'.len; have l16 := VBlk.lt v16; have R2 := R0.below (Keep.of_below bl2) hb0; have hb20d : b2 < wd.heap.size := Nat.lt_of_lt_of_le hb20 bd.size; have Q2 := (Q0.below (Keep.of_below bd) hb20).below (Keep.of_below bl2) hb20d; have hb : b < wl2.heap.size := Nat.lt_of_lt_of_le hb0 bl2.size; have hb2 : b2 < wl2.heap.size := Nat.lt_of_lt_of_le hb20d bl2.size; have cd1 := R2.doc; have cd2 := R2.ver; have cd3 := R2.blk; have cw1 := Q2.doc; have cw2 := Q2.ver; have cw3 := Q2.blk; have cy2 : wl2.cell? ⟨g16, 2, none⟩ = some (.int .i64 r'.ver) := S16.ver; have hS : Below wl2.heap.size wl2 wl2 := Below.refl _ _; refine K.kgo ?_; refine WC.drawn 50 (fun wx => Below wl2.heap.size wl2 wx) fun wa hdr => ?_; replace hS : Below wl2.heap.size wl2 wa := hS.trans ((hdr.below _).mono hS.size); clear hdr; refine K.fr [0, 1] hS ?_; refine K.wi 2 (i) (o + (i) * 14) rfl rfl rfl rfl rfl rfl rfl rfl rfl hlt rfl (.inr hS) ?_; refine K.fr [3] hS ?_; refine K.wl 4 [10, 11, 12, 13, 14, 15, 16, 17, 18, 19, 20, 21, 22, 23, 24, 25, 26, 27, 28, 29, 30, 31, 32, 33, 34, 35, 36, 37, 38, 39, 40, 41, 42, 43, 44, 45, 46, 47, 48, 49, 50] rfl rfl rfl rfl rfl rfl rfl (fun wx hx => (hx.cell (p := ⟨b, o + (i) * 14 + 1, none⟩) hb).trans cd1) hS ?_; refine K.fr [5, 6] hS ?_; refine K.wi 7 (i) (o2 + (i) * 14) rfl rfl rfl rfl rfl rfl rfl rfl rfl hlt rfl (.inr hS) ?_; refine K.fr [8] hS ?_; refine K.wl 9 [10, 11, 12, 13, 14, 15, 16, 17, 18, 19, 20, 21, 22, 23, 24, 25, 26, 27, 28, 29, 30, 31, 32, 33, 34, 35, 36, 37, 38, 39, 40, 41, 42, 43, 44, 45, 46, 47, 48, 49, 50] rfl rfl rfl rfl rfl rfl rfl (fun wx hx => (hx.cell (p := ⟨b2, o2 + i * 14 + 1, none⟩) hb2).trans cw1) hS ?_; refine K.fr [10, 11, 12, 13] hS ?_; refine K.wi 14 (i) (o + (i) * 14) rfl rfl rfl rfl rfl rfl rfl rfl rfl hlt rfl (.inr hS) ?_; refine K.fr [15] hS ?_; refine K.wl 16 [22, 23, 24, 25, 26, 27, 28, 29, 30, 31, 32, 33, 34, 35, 36, 37, 38, 39, 40, 41, 42, 43, 44, 45, 46, 47, 48, 49, 50] rfl rfl rfl rfl rfl rfl rfl (fun wx hx => (hx.cell (p := ⟨b, o + (i) * 14 + 2, none⟩) hb).trans cd2) hS ?_; refine K.fr [17, 18] hS ?_; refine K.wi 19 (i) (o2 + (i) * 14) rfl rfl rfl rfl rfl rfl rfl rfl rfl hlt rfl (.inr hS) ?_; refine K.fr [20] hS ?_; refine K.wl 21 [22, 23, 24, 25, 26, 27, 28, 29, 30, 31, 32, 33, 34, 35, 36, 37, 38, 39, 40, 41, 42, 43, 44, 45, 46, 47, 48, 49, 50] rfl rfl rfl rfl rfl rfl rfl (fun wx hx => (hx.cell (p := ⟨b2, o2 + i * 14 + 2, none⟩) hb2).trans cw2) hS ?_; refine K.fr [22, 23, 24, 25, 26] hS ?_; refine K.wi 27 (i) (o + (i) * 14) rfl rfl rfl rfl rfl rfl rfl rfl rfl hlt rfl (.inr hS) ?_; refine K.fr [28] hS ?_; refine K.wl 29 [35, 36, 37, 38, 39, 40, 41, 42, 43, 44, 45, 46, 47, 48, 49, 50] rfl rfl rfl rfl rfl rfl rfl (fun wx hx => (hx.cell (p := ⟨b, o + (i) * 14 + 11, none⟩) hb).trans cd3) hS ?_; refine K.fr [30, 31] hS ?_; refine K.wi 32 (i) (o2 + (i) * 14) rfl rfl rfl rfl rfl rfl rfl rfl rfl hlt rfl (.inr hS) ?_; refine K.fr [33] hS ?_; refine K.wl 34 [35, 36, 37, 38, 39, 40, 41, 42, 43, 44, 45, 46, 47, 48, 49, 50] rfl rfl rfl rfl rfl rfl rfl (fun wx hx => (hx.cell (p := ⟨b2, o2 + i * 14 + 11, none⟩) hb2).trans cw3) hS ?_; refine K.fr [35, 36, 37, 38, 39, 40, 41, 42] hS ?_; refine K.wl 43 [49, 50] rfl rfl rfl rfl rfl rfl rfl (fun wx hx => (hx.cell (p := ⟨g16, 2, none⟩) l16).trans cy2) hS ?_; refine K.fr [44, 45] hS ?_; refine K.wi 46 (i) (o + (i) * 14) rfl rfl rfl rfl rfl rfl rfl rfl rfl hlt rfl (.inr hS) ?_; refine K.fr [47] hS ?_; refine K.wl 48 [49, 50] rfl rfl rfl rfl rfl rfl rfl (fun wx hx => (hx.cell (p := ⟨b, o + (i) * 14 + 2, none⟩) hb).trans cd2) hS ?_; refine K.fr [49] hS ?_; refine K.wo 50 ?_; refine WL.pure rfl rfl rfl rfl ?_; refine K.dl ?_; refine WD.done (by kernel_rfl) ?_; refine K.kgo ?_; exact WQ.again (i + 1) ⟨rfl, rfl, rfl, rfl, rfl, rfl, trivial⟩ ⟨hlt, bl2.trans (hS.mono bl2.size)⟩ (by omega)
end Vw
end Go.Proofs.YtchgjaaadfjiiaaGreat

namespace Go.Proofs.YtchgjaaadfjiiaaGreat.viewsLast
open Go.ChangeShapes Go.WideShapes Go.ChangeAt Go.RowKit
open Go.ChangeMaps (open_string shut_string)
open Go.Proofs.YtchgjaaadfjiiaaGreat

set_option maxRecDepth 100000 in
theorem lifted (os : Os) (started : os.Started) (H : Type) (enc : TypeId × Value → H) :
    ReturnsInHanded {} Tryz.checked os 7 .any (Rows.viewsLastSpec.pre6 enc Tryz.prog Tryz.f7 Rows.viewsLastRow.domain false) (Rows.viewsLastSpec.post enc Tryz.prog Tryz.f7 false true false false) := by
  refine returnsInHanded_of_change_sized (C := Tryz.checked) Tryz.ownKnob started (by kernel_rfl) Tryz.func7
    (ChangeSpec.witness6 (enc := enc) (C := Tryz.checked) false ⟨#[], #[.slice none 0 0], []⟩ 8 (by kernel_rfl) (by kernel_rfl) (by kernel_rfl) (by kernel_rfl)) ?_
  intro W base args ds gs before hval0 hW hcnd hsz _; have hval : ∀ (j : Nat) t v, Tryz.f7.params[j]? = some t → args[j]? = some v → Value.okWide Tryz.prog W .any base t v := hval0; have hW' := hW; obtain ⟨p, q, hA0, hV, rfl, hfz, hnd⟩ := hW; have hA : DataW.TrodAll enc Tryz.prog W 0 (fun _ => true) true Tryz.f7.params.toList args.toList ds p := hA0; rw [Tryz.params7] at hA hval; obtain ⟨v0, vs0, d0, ds0, p0, q0, hargs, rfl, rfl, h0, r0⟩ := trodAll_cons hA; obtain ⟨rfl, rfl, rfl⟩ := trodAll_nil r0; obtain rfl : args = #[v0] := by cases args; simp_all
  obtain ⟨rfl, rfl⟩ := trodVars_none hV; have k0 := h0; have lt0 : ∀ x ∈ p0, x.block < W.heap.size := by obtain ⟨m, hm⟩ := k0; exact DataW.trod_lt m _ _ _ hm
  obtain ⟨f0, l0, is0, ln0⟩ := Vw.open_actss (hval 0 22 v0 rfl rfl) h0 (fun n hn => by have := List.all_eq_true.1 hsz n (DataW.weights_mem_each (j := 0) rfl rfl n hn); simpa using this); clear hA0 hval0; refine (Vw.last_law is0 ln0).mono fun e W' ⟨he, bel⟩ => ?_; subst he; exact ⟨_, rfl, _, _, _, [], _, [], hW', trodAll_mk1 (shut_bool Tryz.underlying4 _), (trodAll_cons_mk (Below.trod Tryz.laid (by kernel_rfl) (of_decide_eq_true (by kernel_rfl)) k0 bel lt0) trodAll_mk0), rfl, bel.frame _, fun h => by cases h⟩

theorem over : Rows.viewsLastRow.holds Tryz.pinned (OpenSpec.ofChange Rows.viewsLastSpec) :=
  OpenClaim.holds_of_wide 7 Tryz.f7 rfl rfl rfl rfl rfl rfl rfl ⟨rfl, rfl, rfl, rfl, rfl⟩ rfl rfl rfl rfl rfl (by kernel_rfl) Tryz.func7 (by kernel_rfl)
    (of_decide_eq_true (by kernel_rfl)) (by unfold Func.isWrapper; first | (rw [if_pos (by decide +kernel)]; kernel_rfl) | (rw [if_neg (by decide +kernel)]; exact ⟨rfl, rfl⟩))
    (fun os started H enc _ => lifted os started H enc)

theorem proved : Rows.ViewsLastSaid := over
end Go.Proofs.YtchgjaaadfjiiaaGreat.viewsLast
