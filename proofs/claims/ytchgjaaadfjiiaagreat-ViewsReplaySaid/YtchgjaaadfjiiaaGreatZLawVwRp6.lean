/- Texts for LawVwRp, part 6 of 9. -/
import Derived.Test.YtchgjaaadfjiiaaGreatZLawVwRp5
import Derived.Laws.OwnMore
namespace Go.Proofs.YtchgjaaadfjiiaaGreat
open Go.RowKit
namespace K
open Vl (formC formB_eq okN fields_iff)
theorem chk_bad {m : Nat} {v : V} {x : Int} (h : shp v = x) (h0 : ¬ x = 0) : chk (m + 1) v = x:=by
  unfold chk;rw [if_neg (by rw [h];exact h0)];exact h
theorem shp_form3 {v : V} (h : formB v = false) : shp v = 3:=by unfold shp;rw [if_pos h]
theorem text_ne (v : V) : (!(v.t.toList == (ByteArray.mk #[]).toList)) = !noTextB v:=by
  have h0 : (ByteArray.mk #[]).toList = []:=by decide +kernel
  have hl : v.t.toList.length = v.t.size:=by rw [ByteArray.toList_eq];rfl
  rw [h0];unfold noTextB;cases h : v.t.toList with
  | nil => rw [h] at hl;simp at hl;simp [← hl]
  | cons a r => rw [h] at hl;simp at hl;simp [← hl]
theorem ret_i64 {x y : Int} (h : x = y) : Ending.returned (.int .i64 x) = .returned (.int .i64 y):=by rw [h]
set_option maxRecDepth 100000 in
set_option maxHeartbeats 16000000 in
theorem rchk_k1 {f : Nat} {w : World} {v : V} {cs : List Value} {m : Nat} {d : Int} (hv : IsV (f + 1) w v cs) (q : v.k = 1) (_hd1 : d ≤ 16) (_hd0 : 0 ≤ d) :
    Calls Tryz.prog 105 #[.agg cs.toArray,.int .i64 d] w fun e w' => e = .returned (.int .i64 (chk (m + 1) v)) ∧ Below w.heap.size w w':=by
  obtain ⟨sn,sk,rfl,-,hn64,-,htz,⟨np,nc,rfl,nl,nc2,nsz,nr⟩,⟨sp,cap,rfl,hcap1,hcap2,hrow⟩⟩:=hv;have hn : -9223372036854775808 ≤ v.n ∧ v.n ≤ 9223372036854775807:=by simp [Lit.wf,IntKind.min,IntKind.max,IntKind.bits,IntKind.signed] at hn64;omega
  clear hn64;refine enter (args:=[.agg (six v (.slice np v.names.length nc) (.slice sp v.kids.length cap)).toArray,.int .i64 d]) Tryz.func105 rfl Tryz.ntmps105 rfl ?_;refine K.kgo ?_;refine WL.box rfl rfl rfl rfl rfl fun g w1 hf => ?_;have hR : VBlk 48 w1 g (six v (.slice np v.names.length nc) (.slice sp v.kids.length cap)):=hf.blk;have hbel : Below w.heap.size w w1:=hf.below;have c0 : w1.cell? ⟨g,0,none⟩ = some (.int .i64 v.k):=hR.cell 0 (by simp);have c1 : w1.cell? ⟨g,1,none⟩ = some (.int .i64 v.n):=hR.cell 1 (by simp);have c2 : w1.cell? ⟨g,2,none⟩ = some (.int .i64 v.s):=hR.cell 2 (by simp);have c3 : w1.cell? ⟨g,3,none⟩ = some (.string v.t):=hR.cell 3 (by simp);have c4 : w1.cell? ⟨g,4,none⟩ = some (.slice np v.names.length nc):=hR.cell 4 (by simp);have c5 : w1.cell? ⟨g,5,none⟩ = some (.slice sp v.kids.length cap):=hR.cell 5 (by simp);clear hf;have hfc:=formB_eq v;have hB : bareB v = (decide (v.n = 0) && decide (v.s = 0)):=rfl;have hP : plainB v = (decide (v.names.length = 0) && decide (v.kids.length = 0)):=rfl;have hE:=text_ne v;have bad3 : formB v = false → Ending.returned (.int .i64 3) = .returned (.int .i64 (chk (m + 1) v)) ∧ Below w.heap.size w w1:=fun h => ⟨ret_i64 (chk_bad (shp_form3 h) (by decide)).symm,hbel⟩;refine K.kgb ?_;refine WL.as 5 (.bool (!noTextB v)) rfl (congrArg Value.bool hE) ?_;refine WL.mid (fun _ : Unit => [(1,.int .i64 d),(2,.pointer (some ⟨g,0,none⟩)),(5,.bool (!noTextB v)),(6,.bool (!plainB v))]) (fun _ w' => w1 = w') rfl ?_ ?_
  · by_cases hK : v.kids.length = 0
    · have hK0 : ¬ (0 : Int) < v.kids.length:=by omega
      refine WL.as 19 (.bool false) rfl (congrArg Value.bool (decide_eq_false hK0)) ?_
      by_cases hN : v.names.length = 0
      · refine K.kgl ?_
        exact WQ.meet () ⟨rfl,rfl,rfl,congrArg (fun b => some (Value.bool b)) (by rw [hP];simp [hN,hK]),trivial⟩ rfl
      · refine K.kgl ?_
        exact WQ.meet () ⟨rfl,rfl,rfl,congrArg (fun b => some (Value.bool b)) (by rw [hP];simp [hN]),trivial⟩ rfl
    · have hK0 : (0 : Int) < v.kids.length:=by omega
      refine WL.as 19 (.bool true) rfl (congrArg Value.bool (decide_eq_true hK0)) ?_;refine K.kgl ?_;exact WQ.meet () ⟨rfl,rfl,rfl,congrArg (fun b => some (Value.bool b)) (by rw [hP];simp [hK]),trivial⟩ rfl
  rintro _ _ rfl;have shp5 : formB v = true → (16384 < v.t.size ∨ 200 < v.kids.length) → shp v = 5:=fun h1 h2 => by unfold shp;rw [if_neg (by rw [h1];exact Bool.noConfusion),if_pos h2]
  have shp0 : formB v = true → v.t.size ≤ 16384 → v.kids.length ≤ 200 → (v.k = 9 → fieldsB v = true) → shp v = 0:=fun h1 h2 h3 h4 => by
    unfold shp;rw [if_neg (by rw [h1];exact Bool.noConfusion),if_neg (by omega),if_neg (fun h => by have:=h4 h.1;rw [this] at h;exact Bool.noConfusion h.2)]
  have hEt : noTextB v = true → v.t.size = 0:=fun h => of_decide_eq_true h;have hPk : plainB v = true → v.kids.length = 0:=fun h => by rw [hP] at h;rw [Bool.and_eq_true] at h;exact of_decide_eq_true h.2
  have chk0 : shp v = 0 → v.kids.length = 0 → chk (m + 1) v = 0:=fun h1 h2 => by
    unfold chk;rw [if_pos h1,List.eq_nil_of_length_eq_zero h2]
    rfl
  clear hE hP
  by_cases a1 : v.n = 0
  · skip
    by_cases a2 : v.s = 0
    · skip
      cases hE1 : noTextB v with
      | false =>
        rw [hE1] at hfc;refine K.kgl ?_;exact WQ.ret1 rfl rfl (bad3 (by rw [hfc];simp [formC, *]))
      | true =>
        rw [hE1] at hfc;cases hP1 : plainB v with
        | false =>
          rw [hP1] at hfc;refine K.kgl ?_;exact WQ.ret1 rfl rfl (bad3 (by rw [hfc];simp [formC, *]))
        | true =>
          rw [hP1] at hfc;have h0 : shp v = 0:=shp0 (by rw [hfc];simp [formC, *]) (by have:=hEt hE1;omega) (by have:=hPk hP1;omega) (fun h => by omega);have hk0 : v.kids.length = 0:=hPk hP1;refine K.kgl ?_;refine WC.loop (fun _ : Unit => [(1,.int .i64 d),(2,.pointer (some ⟨g,0,none⟩)),(8,.int .i64 0)]) (fun _ w' => w1 = w') (fun _ => 0) () ⟨rfl,rfl,rfl,trivial⟩ rfl ?_;rintro _ _ rfl;refine K.kgl ?_;exact WQ.ret1 rfl rfl ⟨ret_i64 (chk0 h0 hk0).symm,hbel⟩
    · skip
      refine K.kgl ?_;exact WQ.ret1 rfl rfl (bad3 (by rw [hfc];simp [formC, *]))
  · skip
    refine K.kgl ?_;exact WQ.ret1 rfl rfl (bad3 (by rw [hfc];simp [formC, *]))
set_option maxRecDepth 100000 in
set_option maxHeartbeats 16000000 in
theorem rchk_k2 {f : Nat} {w : World} {v : V} {cs : List Value} {m : Nat} {d : Int} (hv : IsV (f + 1) w v cs) (q : v.k = 2) (_hd1 : d ≤ 16) (_hd0 : 0 ≤ d) :
    Calls Tryz.prog 105 #[.agg cs.toArray,.int .i64 d] w fun e w' => e = .returned (.int .i64 (chk (m + 1) v)) ∧ Below w.heap.size w w':=by
  obtain ⟨sn,sk,rfl,-,hn64,-,htz,⟨np,nc,rfl,nl,nc2,nsz,nr⟩,⟨sp,cap,rfl,hcap1,hcap2,hrow⟩⟩:=hv;have hn : -9223372036854775808 ≤ v.n ∧ v.n ≤ 9223372036854775807:=by simp [Lit.wf,IntKind.min,IntKind.max,IntKind.bits,IntKind.signed] at hn64;omega
  clear hn64;refine enter (args:=[.agg (six v (.slice np v.names.length nc) (.slice sp v.kids.length cap)).toArray,.int .i64 d]) Tryz.func105 rfl Tryz.ntmps105 rfl ?_;refine K.kgo ?_;refine WL.box rfl rfl rfl rfl rfl fun g w1 hf => ?_;have hR : VBlk 48 w1 g (six v (.slice np v.names.length nc) (.slice sp v.kids.length cap)):=hf.blk;have hbel : Below w.heap.size w w1:=hf.below;have c0 : w1.cell? ⟨g,0,none⟩ = some (.int .i64 v.k):=hR.cell 0 (by simp);have c1 : w1.cell? ⟨g,1,none⟩ = some (.int .i64 v.n):=hR.cell 1 (by simp);have c2 : w1.cell? ⟨g,2,none⟩ = some (.int .i64 v.s):=hR.cell 2 (by simp);have c3 : w1.cell? ⟨g,3,none⟩ = some (.string v.t):=hR.cell 3 (by simp);have c4 : w1.cell? ⟨g,4,none⟩ = some (.slice np v.names.length nc):=hR.cell 4 (by simp);have c5 : w1.cell? ⟨g,5,none⟩ = some (.slice sp v.kids.length cap):=hR.cell 5 (by simp);clear hf;have hfc:=formB_eq v;have hB : bareB v = (decide (v.n = 0) && decide (v.s = 0)):=rfl;have hP : plainB v = (decide (v.names.length = 0) && decide (v.kids.length = 0)):=rfl;have hE:=text_ne v;have bad3 : formB v = false → Ending.returned (.int .i64 3) = .returned (.int .i64 (chk (m + 1) v)) ∧ Below w.heap.size w w1:=fun h => ⟨ret_i64 (chk_bad (shp_form3 h) (by decide)).symm,hbel⟩;refine K.kgb ?_;refine WL.as 5 (.bool (!noTextB v)) rfl (congrArg Value.bool hE) ?_;refine WL.mid (fun _ : Unit => [(1,.int .i64 d),(2,.pointer (some ⟨g,0,none⟩)),(5,.bool (!noTextB v)),(6,.bool (!plainB v))]) (fun _ w' => w1 = w') rfl ?_ ?_
  · by_cases hK : v.kids.length = 0
    · have hK0 : ¬ (0 : Int) < v.kids.length:=by omega
      refine WL.as 19 (.bool false) rfl (congrArg Value.bool (decide_eq_false hK0)) ?_
      by_cases hN : v.names.length = 0
      · refine K.kgl ?_
        exact WQ.meet () ⟨rfl,rfl,rfl,congrArg (fun b => some (Value.bool b)) (by rw [hP];simp [hN,hK]),trivial⟩ rfl
      · refine K.kgl ?_
        exact WQ.meet () ⟨rfl,rfl,rfl,congrArg (fun b => some (Value.bool b)) (by rw [hP];simp [hN]),trivial⟩ rfl
    · have hK0 : (0 : Int) < v.kids.length:=by omega
      refine WL.as 19 (.bool true) rfl (congrArg Value.bool (decide_eq_true hK0)) ?_;refine K.kgl ?_;exact WQ.meet () ⟨rfl,rfl,rfl,congrArg (fun b => some (Value.bool b)) (by rw [hP];simp [hK]),trivial⟩ rfl
  rintro _ _ rfl;have shp5 : formB v = true → (16384 < v.t.size ∨ 200 < v.kids.length) → shp v = 5:=fun h1 h2 => by unfold shp;rw [if_neg (by rw [h1];exact Bool.noConfusion),if_pos h2]
  have shp0 : formB v = true → v.t.size ≤ 16384 → v.kids.length ≤ 200 → (v.k = 9 → fieldsB v = true) → shp v = 0:=fun h1 h2 h3 h4 => by
    unfold shp;rw [if_neg (by rw [h1];exact Bool.noConfusion),if_neg (by omega),if_neg (fun h => by have:=h4 h.1;rw [this] at h;exact Bool.noConfusion h.2)]
  have hEt : noTextB v = true → v.t.size = 0:=fun h => of_decide_eq_true h;have hPk : plainB v = true → v.kids.length = 0:=fun h => by rw [hP] at h;rw [Bool.and_eq_true] at h;exact of_decide_eq_true h.2
  have chk0 : shp v = 0 → v.kids.length = 0 → chk (m + 1) v = 0:=fun h1 h2 => by
    unfold chk;rw [if_pos h1,List.eq_nil_of_length_eq_zero h2]
    rfl
  clear hE hP
  by_cases a1 : 0 ≤ v.n
  · skip
    by_cases a2 : v.n ≤ 1
    · skip
      have x2 : v.n / 2 = 0:=by omega
      by_cases a4 : v.s = 0
      · skip
        cases hE1 : noTextB v with
        | false =>
          rw [hE1] at hfc;refine K.kgl ?_;exact WQ.ret1 rfl rfl (bad3 (by rw [hfc];simp [formC, *]))
        | true =>
          rw [hE1] at hfc;cases hP1 : plainB v with
          | false =>
            rw [hP1] at hfc;refine K.kgl ?_;exact WQ.ret1 rfl rfl (bad3 (by rw [hfc];simp [formC, *]))
          | true =>
            rw [hP1] at hfc;have h0 : shp v = 0:=shp0 (by rw [hfc];simp [formC, *]) (by have:=hEt hE1;omega) (by have:=hPk hP1;omega) (fun h => by omega);have hk0 : v.kids.length = 0:=hPk hP1;refine K.kgl ?_;refine WC.loop (fun _ : Unit => [(1,.int .i64 d),(2,.pointer (some ⟨g,0,none⟩)),(8,.int .i64 0)]) (fun _ w' => w1 = w') (fun _ => 0) () ⟨rfl,rfl,rfl,trivial⟩ rfl ?_;rintro _ _ rfl;refine K.kgl ?_;exact WQ.ret1 rfl rfl ⟨ret_i64 (chk0 h0 hk0).symm,hbel⟩
      · skip
        refine K.kgl ?_;exact WQ.ret1 rfl rfl (bad3 (by rw [hfc];simp [formC, *]))
    · skip
      have x2 : ¬ v.n / 2 = 0:=by omega
      refine K.kgl ?_;exact WQ.ret1 rfl rfl (bad3 (by rw [hfc];simp [formC, *]))
  · skip
    have x2 : ¬ v.n / 2 = 0:=by omega
    refine K.kgl ?_;exact WQ.ret1 rfl rfl (bad3 (by rw [hfc];simp [formC, *]))
set_option maxRecDepth 100000 in
set_option maxHeartbeats 16000000 in
theorem rchk_k3 {f : Nat} {w : World} {v : V} {cs : List Value} {m : Nat} {d : Int} (hv : IsV (f + 1) w v cs) (q : v.k = 3) (_hd1 : d ≤ 16) (_hd0 : 0 ≤ d) :
    Calls Tryz.prog 105 #[.agg cs.toArray,.int .i64 d] w fun e w' => e = .returned (.int .i64 (chk (m + 1) v)) ∧ Below w.heap.size w w':=by
  obtain ⟨sn,sk,rfl,-,hn64,-,htz,⟨np,nc,rfl,nl,nc2,nsz,nr⟩,⟨sp,cap,rfl,hcap1,hcap2,hrow⟩⟩:=hv;have hn : -9223372036854775808 ≤ v.n ∧ v.n ≤ 9223372036854775807:=by simp [Lit.wf,IntKind.min,IntKind.max,IntKind.bits,IntKind.signed] at hn64;omega
  clear hn64;refine enter (args:=[.agg (six v (.slice np v.names.length nc) (.slice sp v.kids.length cap)).toArray,.int .i64 d]) Tryz.func105 rfl Tryz.ntmps105 rfl ?_;refine K.kgo ?_;refine WL.box rfl rfl rfl rfl rfl fun g w1 hf => ?_;have hR : VBlk 48 w1 g (six v (.slice np v.names.length nc) (.slice sp v.kids.length cap)):=hf.blk;have hbel : Below w.heap.size w w1:=hf.below;have c0 : w1.cell? ⟨g,0,none⟩ = some (.int .i64 v.k):=hR.cell 0 (by simp);have c1 : w1.cell? ⟨g,1,none⟩ = some (.int .i64 v.n):=hR.cell 1 (by simp);have c2 : w1.cell? ⟨g,2,none⟩ = some (.int .i64 v.s):=hR.cell 2 (by simp);have c3 : w1.cell? ⟨g,3,none⟩ = some (.string v.t):=hR.cell 3 (by simp);have c4 : w1.cell? ⟨g,4,none⟩ = some (.slice np v.names.length nc):=hR.cell 4 (by simp);have c5 : w1.cell? ⟨g,5,none⟩ = some (.slice sp v.kids.length cap):=hR.cell 5 (by simp);clear hf;have hfc:=formB_eq v;have hB : bareB v = (decide (v.n = 0) && decide (v.s = 0)):=rfl;have hP : plainB v = (decide (v.names.length = 0) && decide (v.kids.length = 0)):=rfl;have hE:=text_ne v;have bad3 : formB v = false → Ending.returned (.int .i64 3) = .returned (.int .i64 (chk (m + 1) v)) ∧ Below w.heap.size w w1:=fun h => ⟨ret_i64 (chk_bad (shp_form3 h) (by decide)).symm,hbel⟩;refine K.kgb ?_;refine WL.as 5 (.bool (!noTextB v)) rfl (congrArg Value.bool hE) ?_;refine WL.mid (fun _ : Unit => [(1,.int .i64 d),(2,.pointer (some ⟨g,0,none⟩)),(5,.bool (!noTextB v)),(6,.bool (!plainB v))]) (fun _ w' => w1 = w') rfl ?_ ?_
  · by_cases hK : v.kids.length = 0
    · have hK0 : ¬ (0 : Int) < v.kids.length:=by omega
      refine WL.as 19 (.bool false) rfl (congrArg Value.bool (decide_eq_false hK0)) ?_
      by_cases hN : v.names.length = 0
      · refine K.kgl ?_
        exact WQ.meet () ⟨rfl,rfl,rfl,congrArg (fun b => some (Value.bool b)) (by rw [hP];simp [hN,hK]),trivial⟩ rfl
      · refine K.kgl ?_
        exact WQ.meet () ⟨rfl,rfl,rfl,congrArg (fun b => some (Value.bool b)) (by rw [hP];simp [hN]),trivial⟩ rfl
    · have hK0 : (0 : Int) < v.kids.length:=by omega
      refine WL.as 19 (.bool true) rfl (congrArg Value.bool (decide_eq_true hK0)) ?_;refine K.kgl ?_;exact WQ.meet () ⟨rfl,rfl,rfl,congrArg (fun b => some (Value.bool b)) (by rw [hP];simp [hK]),trivial⟩ rfl
  rintro _ _ rfl;have shp5 : formB v = true → (16384 < v.t.size ∨ 200 < v.kids.length) → shp v = 5:=fun h1 h2 => by unfold shp;rw [if_neg (by rw [h1];exact Bool.noConfusion),if_pos h2]
  have shp0 : formB v = true → v.t.size ≤ 16384 → v.kids.length ≤ 200 → (v.k = 9 → fieldsB v = true) → shp v = 0:=fun h1 h2 h3 h4 => by
    unfold shp;rw [if_neg (by rw [h1];exact Bool.noConfusion),if_neg (by omega),if_neg (fun h => by have:=h4 h.1;rw [this] at h;exact Bool.noConfusion h.2)]
  have hEt : noTextB v = true → v.t.size = 0:=fun h => of_decide_eq_true h;have hPk : plainB v = true → v.kids.length = 0:=fun h => by rw [hP] at h;rw [Bool.and_eq_true] at h;exact of_decide_eq_true h.2
  have chk0 : shp v = 0 → v.kids.length = 0 → chk (m + 1) v = 0:=fun h1 h2 => by
    unfold chk;rw [if_pos h1,List.eq_nil_of_length_eq_zero h2]
    rfl
  clear hE hP
  by_cases a1 : v.s = 0
  · skip
    cases hE1 : noTextB v with
    | false =>
      rw [hE1] at hfc;refine K.kgl ?_;exact WQ.ret1 rfl rfl (bad3 (by rw [hfc];simp [formC, *]))
    | true =>
      rw [hE1] at hfc;cases hP1 : plainB v with
      | false =>
        rw [hP1] at hfc;refine K.kgl ?_;exact WQ.ret1 rfl rfl (bad3 (by rw [hfc];simp [formC, *]))
      | true =>
        rw [hP1] at hfc;have h0 : shp v = 0:=shp0 (by rw [hfc];simp [formC, *]) (by have:=hEt hE1;omega) (by have:=hPk hP1;omega) (fun h => by omega);have hk0 : v.kids.length = 0:=hPk hP1;refine K.kgl ?_;refine WC.loop (fun _ : Unit => [(1,.int .i64 d),(2,.pointer (some ⟨g,0,none⟩)),(8,.int .i64 0)]) (fun _ w' => w1 = w') (fun _ => 0) () ⟨rfl,rfl,rfl,trivial⟩ rfl ?_;rintro _ _ rfl;refine K.kgl ?_;exact WQ.ret1 rfl rfl ⟨ret_i64 (chk0 h0 hk0).symm,hbel⟩
  · skip
    refine K.kgl ?_;exact WQ.ret1 rfl rfl (bad3 (by rw [hfc];simp [formC, *]))
set_option maxRecDepth 100000 in
set_option maxHeartbeats 16000000 in
theorem rchk_k4 {f : Nat} {w : World} {v : V} {cs : List Value} {m : Nat} {d : Int} (hv : IsV (f + 1) w v cs) (q : v.k = 4) (_hd1 : d ≤ 16) (_hd0 : 0 ≤ d) :
    Calls Tryz.prog 105 #[.agg cs.toArray,.int .i64 d] w fun e w' => e = .returned (.int .i64 (chk (m + 1) v)) ∧ Below w.heap.size w w':=by
  obtain ⟨sn,sk,rfl,-,hn64,-,htz,⟨np,nc,rfl,nl,nc2,nsz,nr⟩,⟨sp,cap,rfl,hcap1,hcap2,hrow⟩⟩:=hv;have hn : -9223372036854775808 ≤ v.n ∧ v.n ≤ 9223372036854775807:=by simp [Lit.wf,IntKind.min,IntKind.max,IntKind.bits,IntKind.signed] at hn64;omega
  clear hn64;refine enter (args:=[.agg (six v (.slice np v.names.length nc) (.slice sp v.kids.length cap)).toArray,.int .i64 d]) Tryz.func105 rfl Tryz.ntmps105 rfl ?_;refine K.kgo ?_;refine WL.box rfl rfl rfl rfl rfl fun g w1 hf => ?_;have hR : VBlk 48 w1 g (six v (.slice np v.names.length nc) (.slice sp v.kids.length cap)):=hf.blk;have hbel : Below w.heap.size w w1:=hf.below;have c0 : w1.cell? ⟨g,0,none⟩ = some (.int .i64 v.k):=hR.cell 0 (by simp);have c1 : w1.cell? ⟨g,1,none⟩ = some (.int .i64 v.n):=hR.cell 1 (by simp);have c2 : w1.cell? ⟨g,2,none⟩ = some (.int .i64 v.s):=hR.cell 2 (by simp);have c3 : w1.cell? ⟨g,3,none⟩ = some (.string v.t):=hR.cell 3 (by simp);have c4 : w1.cell? ⟨g,4,none⟩ = some (.slice np v.names.length nc):=hR.cell 4 (by simp);have c5 : w1.cell? ⟨g,5,none⟩ = some (.slice sp v.kids.length cap):=hR.cell 5 (by simp);clear hf;have hfc:=formB_eq v;have hB : bareB v = (decide (v.n = 0) && decide (v.s = 0)):=rfl;have hP : plainB v = (decide (v.names.length = 0) && decide (v.kids.length = 0)):=rfl;have hE:=text_ne v;have bad3 : formB v = false → Ending.returned (.int .i64 3) = .returned (.int .i64 (chk (m + 1) v)) ∧ Below w.heap.size w w1:=fun h => ⟨ret_i64 (chk_bad (shp_form3 h) (by decide)).symm,hbel⟩;refine K.kgb ?_;refine WL.as 5 (.bool (!noTextB v)) rfl (congrArg Value.bool hE) ?_;refine WL.mid (fun _ : Unit => [(1,.int .i64 d),(2,.pointer (some ⟨g,0,none⟩)),(5,.bool (!noTextB v)),(6,.bool (!plainB v))]) (fun _ w' => w1 = w') rfl ?_ ?_
  · by_cases hK : v.kids.length = 0
    · have hK0 : ¬ (0 : Int) < v.kids.length:=by omega
      refine WL.as 19 (.bool false) rfl (congrArg Value.bool (decide_eq_false hK0)) ?_
      by_cases hN : v.names.length = 0
      · refine K.kgl ?_
        exact WQ.meet () ⟨rfl,rfl,rfl,congrArg (fun b => some (Value.bool b)) (by rw [hP];simp [hN,hK]),trivial⟩ rfl
      · refine K.kgl ?_
        exact WQ.meet () ⟨rfl,rfl,rfl,congrArg (fun b => some (Value.bool b)) (by rw [hP];simp [hN]),trivial⟩ rfl
    · have hK0 : (0 : Int) < v.kids.length:=by omega
      refine WL.as 19 (.bool true) rfl (congrArg Value.bool (decide_eq_true hK0)) ?_;refine K.kgl ?_;exact WQ.meet () ⟨rfl,rfl,rfl,congrArg (fun b => some (Value.bool b)) (by rw [hP];simp [hK]),trivial⟩ rfl
  rintro _ _ rfl;have shp5 : formB v = true → (16384 < v.t.size ∨ 200 < v.kids.length) → shp v = 5:=fun h1 h2 => by unfold shp;rw [if_neg (by rw [h1];exact Bool.noConfusion),if_pos h2]
  have shp0 : formB v = true → v.t.size ≤ 16384 → v.kids.length ≤ 200 → (v.k = 9 → fieldsB v = true) → shp v = 0:=fun h1 h2 h3 h4 => by
    unfold shp;rw [if_neg (by rw [h1];exact Bool.noConfusion),if_neg (by omega),if_neg (fun h => by have:=h4 h.1;rw [this] at h;exact Bool.noConfusion h.2)]
  have hEt : noTextB v = true → v.t.size = 0:=fun h => of_decide_eq_true h;have hPk : plainB v = true → v.kids.length = 0:=fun h => by rw [hP] at h;rw [Bool.and_eq_true] at h;exact of_decide_eq_true h.2
  have chk0 : shp v = 0 → v.kids.length = 0 → chk (m + 1) v = 0:=fun h1 h2 => by
    unfold chk;rw [if_pos h1,List.eq_nil_of_length_eq_zero h2]
    rfl
  clear hE hP
  by_cases a1 : 1 ≤ v.s
  · skip
    by_cases a2 : v.s ≤ 18
    · skip
      by_cases a3 : ¬ v.n.tmod 10 = 0
      · skip
        cases hE1 : noTextB v with
        | false =>
          rw [hE1] at hfc;refine K.kgl ?_;exact WQ.ret1 rfl rfl (bad3 (by rw [hfc];simp [formC, *]))
        | true =>
          rw [hE1] at hfc;cases hP1 : plainB v with
          | false =>
            rw [hP1] at hfc;refine K.kgl ?_;exact WQ.ret1 rfl rfl (bad3 (by rw [hfc];simp [formC, *]))
          | true =>
            rw [hP1] at hfc;have h0 : shp v = 0:=shp0 (by rw [hfc];simp [formC, *]) (by have:=hEt hE1;omega) (by have:=hPk hP1;omega) (fun h => by omega);have hk0 : v.kids.length = 0:=hPk hP1;refine K.kgl ?_;refine WC.loop (fun _ : Unit => [(1,.int .i64 d),(2,.pointer (some ⟨g,0,none⟩)),(8,.int .i64 0)]) (fun _ w' => w1 = w') (fun _ => 0) () ⟨rfl,rfl,rfl,trivial⟩ rfl ?_;rintro _ _ rfl;refine K.kgl ?_;exact WQ.ret1 rfl rfl ⟨ret_i64 (chk0 h0 hk0).symm,hbel⟩
      · skip
        refine K.kgl ?_;exact WQ.ret1 rfl rfl (bad3 (by rw [hfc];simp [formC, *]))
    · skip
      refine K.kgl ?_;exact WQ.ret1 rfl rfl (bad3 (by rw [hfc];simp [formC, *]))
  · skip
    refine K.kgl ?_;exact WQ.ret1 rfl rfl (bad3 (by rw [hfc];simp [formC, *]))
set_option maxRecDepth 100000 in
set_option maxHeartbeats 16000000 in
theorem rchk_k5 {f : Nat} {w : World} {v : V} {cs : List Value} {m : Nat} {d : Int} (hv : IsV (f + 1) w v cs) (q : v.k = 5) (_hd1 : d ≤ 16) (_hd0 : 0 ≤ d) :
    Calls Tryz.prog 105 #[.agg cs.toArray,.int .i64 d] w fun e w' => e = .returned (.int .i64 (chk (m + 1) v)) ∧ Below w.heap.size w w':=by
  obtain ⟨sn,sk,rfl,-,hn64,-,htz,⟨np,nc,rfl,nl,nc2,nsz,nr⟩,⟨sp,cap,rfl,hcap1,hcap2,hrow⟩⟩:=hv;have hn : -9223372036854775808 ≤ v.n ∧ v.n ≤ 9223372036854775807:=by simp [Lit.wf,IntKind.min,IntKind.max,IntKind.bits,IntKind.signed] at hn64;omega
  clear hn64;refine enter (args:=[.agg (six v (.slice np v.names.length nc) (.slice sp v.kids.length cap)).toArray,.int .i64 d]) Tryz.func105 rfl Tryz.ntmps105 rfl ?_;refine K.kgo ?_;refine WL.box rfl rfl rfl rfl rfl fun g w1 hf => ?_;have hR : VBlk 48 w1 g (six v (.slice np v.names.length nc) (.slice sp v.kids.length cap)):=hf.blk;have hbel : Below w.heap.size w w1:=hf.below;have c0 : w1.cell? ⟨g,0,none⟩ = some (.int .i64 v.k):=hR.cell 0 (by simp);have c1 : w1.cell? ⟨g,1,none⟩ = some (.int .i64 v.n):=hR.cell 1 (by simp);have c2 : w1.cell? ⟨g,2,none⟩ = some (.int .i64 v.s):=hR.cell 2 (by simp);have c3 : w1.cell? ⟨g,3,none⟩ = some (.string v.t):=hR.cell 3 (by simp);have c4 : w1.cell? ⟨g,4,none⟩ = some (.slice np v.names.length nc):=hR.cell 4 (by simp);have c5 : w1.cell? ⟨g,5,none⟩ = some (.slice sp v.kids.length cap):=hR.cell 5 (by simp);clear hf;have hfc:=formB_eq v;have hB : bareB v = (decide (v.n = 0) && decide (v.s = 0)):=rfl;have hP : plainB v = (decide (v.names.length = 0) && decide (v.kids.length = 0)):=rfl;have hE:=text_ne v;have bad3 : formB v = false → Ending.returned (.int .i64 3) = .returned (.int .i64 (chk (m + 1) v)) ∧ Below w.heap.size w w1:=fun h => ⟨ret_i64 (chk_bad (shp_form3 h) (by decide)).symm,hbel⟩;refine K.kgb ?_;refine WL.as 5 (.bool (!noTextB v)) rfl (congrArg Value.bool hE) ?_;refine WL.mid (fun _ : Unit => [(1,.int .i64 d),(2,.pointer (some ⟨g,0,none⟩)),(5,.bool (!noTextB v)),(6,.bool (!plainB v))]) (fun _ w' => w1 = w') rfl ?_ ?_
  · by_cases hK : v.kids.length = 0
    · have hK0 : ¬ (0 : Int) < v.kids.length:=by omega
      refine WL.as 19 (.bool false) rfl (congrArg Value.bool (decide_eq_false hK0)) ?_
      by_cases hN : v.names.length = 0
      · refine K.kgl ?_
        exact WQ.meet () ⟨rfl,rfl,rfl,congrArg (fun b => some (Value.bool b)) (by rw [hP];simp [hN,hK]),trivial⟩ rfl
      · refine K.kgl ?_
        exact WQ.meet () ⟨rfl,rfl,rfl,congrArg (fun b => some (Value.bool b)) (by rw [hP];simp [hN]),trivial⟩ rfl
    · have hK0 : (0 : Int) < v.kids.length:=by omega
      refine WL.as 19 (.bool true) rfl (congrArg Value.bool (decide_eq_true hK0)) ?_;refine K.kgl ?_;exact WQ.meet () ⟨rfl,rfl,rfl,congrArg (fun b => some (Value.bool b)) (by rw [hP];simp [hK]),trivial⟩ rfl
  rintro _ _ rfl;have shp5 : formB v = true → (16384 < v.t.size ∨ 200 < v.kids.length) → shp v = 5:=fun h1 h2 => by unfold shp;rw [if_neg (by rw [h1];exact Bool.noConfusion),if_pos h2]
  have shp0 : formB v = true → v.t.size ≤ 16384 → v.kids.length ≤ 200 → (v.k = 9 → fieldsB v = true) → shp v = 0:=fun h1 h2 h3 h4 => by
    unfold shp;rw [if_neg (by rw [h1];exact Bool.noConfusion),if_neg (by omega),if_neg (fun h => by have:=h4 h.1;rw [this] at h;exact Bool.noConfusion h.2)]
  have hEt : noTextB v = true → v.t.size = 0:=fun h => of_decide_eq_true h;have hPk : plainB v = true → v.kids.length = 0:=fun h => by rw [hP] at h;rw [Bool.and_eq_true] at h;exact of_decide_eq_true h.2
  have chk0 : shp v = 0 → v.kids.length = 0 → chk (m + 1) v = 0:=fun h1 h2 => by
    unfold chk;rw [if_pos h1,List.eq_nil_of_length_eq_zero h2]
    rfl
  clear hE hP
  by_cases a1 : 0 ≤ v.n
  · skip
    by_cases a2 : v.n ≤ 9007199254740992
    · skip
      by_cases a3 : v.s = 0
      · skip
        cases hE1 : noTextB v with
        | false =>
          rw [hE1] at hfc;refine K.kgl ?_;exact WQ.ret1 rfl rfl (bad3 (by rw [hfc];simp [formC, *]))
        | true =>
          rw [hE1] at hfc;cases hP1 : plainB v with
          | false =>
            rw [hP1] at hfc;refine K.kgl ?_;exact WQ.ret1 rfl rfl (bad3 (by rw [hfc];simp [formC, *]))
          | true =>
            rw [hP1] at hfc;have h0 : shp v = 0:=shp0 (by rw [hfc];simp [formC, *]) (by have:=hEt hE1;omega) (by have:=hPk hP1;omega) (fun h => by omega);have hk0 : v.kids.length = 0:=hPk hP1;refine K.kgl ?_;refine WC.loop (fun _ : Unit => [(1,.int .i64 d),(2,.pointer (some ⟨g,0,none⟩)),(8,.int .i64 0)]) (fun _ w' => w1 = w') (fun _ => 0) () ⟨rfl,rfl,rfl,trivial⟩ rfl ?_;rintro _ _ rfl;refine K.kgl ?_;exact WQ.ret1 rfl rfl ⟨ret_i64 (chk0 h0 hk0).symm,hbel⟩
      · skip
        refine K.kgl ?_;exact WQ.ret1 rfl rfl (bad3 (by rw [hfc];simp [formC, *]))
    · skip
      refine K.kgl ?_;exact WQ.ret1 rfl rfl (bad3 (by rw [hfc];simp [formC, *]))
  · skip
    refine K.kgl ?_;exact WQ.ret1 rfl rfl (bad3 (by rw [hfc];simp [formC, *]))
set_option maxRecDepth 100000 in
set_option maxHeartbeats 16000000 in
theorem rchk_k67 {f : Nat} {w : World} {v : V} {cs : List Value} {m : Nat} {d : Int} (hv : IsV (f + 1) w v cs) (q : v.k = 6 ∨ v.k = 7) (_hd1 : d ≤ 16) (_hd0 : 0 ≤ d) :
    Calls Tryz.prog 105 #[.agg cs.toArray,.int .i64 d] w fun e w' => e = .returned (.int .i64 (chk (m + 1) v)) ∧ Below w.heap.size w w':=by
  obtain ⟨sn,sk,rfl,-,hn64,-,htz,⟨np,nc,rfl,nl,nc2,nsz,nr⟩,⟨sp,cap,rfl,hcap1,hcap2,hrow⟩⟩:=hv;have hn : -9223372036854775808 ≤ v.n ∧ v.n ≤ 9223372036854775807:=by simp [Lit.wf,IntKind.min,IntKind.max,IntKind.bits,IntKind.signed] at hn64;omega
  clear hn64;refine enter (args:=[.agg (six v (.slice np v.names.length nc) (.slice sp v.kids.length cap)).toArray,.int .i64 d]) Tryz.func105 rfl Tryz.ntmps105 rfl ?_;refine K.kgo ?_;refine WL.box rfl rfl rfl rfl rfl fun g w1 hf => ?_;have hR : VBlk 48 w1 g (six v (.slice np v.names.length nc) (.slice sp v.kids.length cap)):=hf.blk;have hbel : Below w.heap.size w w1:=hf.below;have c0 : w1.cell? ⟨g,0,none⟩ = some (.int .i64 v.k):=hR.cell 0 (by simp);have c1 : w1.cell? ⟨g,1,none⟩ = some (.int .i64 v.n):=hR.cell 1 (by simp);have c2 : w1.cell? ⟨g,2,none⟩ = some (.int .i64 v.s):=hR.cell 2 (by simp);have c3 : w1.cell? ⟨g,3,none⟩ = some (.string v.t):=hR.cell 3 (by simp);have c4 : w1.cell? ⟨g,4,none⟩ = some (.slice np v.names.length nc):=hR.cell 4 (by simp);have c5 : w1.cell? ⟨g,5,none⟩ = some (.slice sp v.kids.length cap):=hR.cell 5 (by simp);clear hf;have hfc:=formB_eq v;have hB : bareB v = (decide (v.n = 0) && decide (v.s = 0)):=rfl;have hP : plainB v = (decide (v.names.length = 0) && decide (v.kids.length = 0)):=rfl;have hE:=text_ne v;have bad3 : formB v = false → Ending.returned (.int .i64 3) = .returned (.int .i64 (chk (m + 1) v)) ∧ Below w.heap.size w w1:=fun h => ⟨ret_i64 (chk_bad (shp_form3 h) (by decide)).symm,hbel⟩;refine K.kgb ?_;refine WL.as 5 (.bool (!noTextB v)) rfl (congrArg Value.bool hE) ?_;refine WL.mid (fun _ : Unit => [(1,.int .i64 d),(2,.pointer (some ⟨g,0,none⟩)),(5,.bool (!noTextB v)),(6,.bool (!plainB v))]) (fun _ w' => w1 = w') rfl ?_ ?_
  · by_cases hK : v.kids.length = 0
    · have hK0 : ¬ (0 : Int) < v.kids.length:=by omega
      refine WL.as 19 (.bool false) rfl (congrArg Value.bool (decide_eq_false hK0)) ?_
      by_cases hN : v.names.length = 0
      · refine K.kgl ?_
        exact WQ.meet () ⟨rfl,rfl,rfl,congrArg (fun b => some (Value.bool b)) (by rw [hP];simp [hN,hK]),trivial⟩ rfl
      · refine K.kgl ?_
        exact WQ.meet () ⟨rfl,rfl,rfl,congrArg (fun b => some (Value.bool b)) (by rw [hP];simp [hN]),trivial⟩ rfl
    · have hK0 : (0 : Int) < v.kids.length:=by omega
      refine WL.as 19 (.bool true) rfl (congrArg Value.bool (decide_eq_true hK0)) ?_;refine K.kgl ?_;exact WQ.meet () ⟨rfl,rfl,rfl,congrArg (fun b => some (Value.bool b)) (by rw [hP];simp [hK]),trivial⟩ rfl
  rintro _ _ rfl;have shp5 : formB v = true → (16384 < v.t.size ∨ 200 < v.kids.length) → shp v = 5:=fun h1 h2 => by unfold shp;rw [if_neg (by rw [h1];exact Bool.noConfusion),if_pos h2]
  have shp0 : formB v = true → v.t.size ≤ 16384 → v.kids.length ≤ 200 → (v.k = 9 → fieldsB v = true) → shp v = 0:=fun h1 h2 h3 h4 => by
    unfold shp;rw [if_neg (by rw [h1];exact Bool.noConfusion),if_neg (by omega),if_neg (fun h => by have:=h4 h.1;rw [this] at h;exact Bool.noConfusion h.2)]
  have hEt : noTextB v = true → v.t.size = 0:=fun h => of_decide_eq_true h;have hPk : plainB v = true → v.kids.length = 0:=fun h => by rw [hP] at h;rw [Bool.and_eq_true] at h;exact of_decide_eq_true h.2
  have chk0 : shp v = 0 → v.kids.length = 0 → chk (m + 1) v = 0:=fun h1 h2 => by
    unfold chk;rw [if_pos h1,List.eq_nil_of_length_eq_zero h2]
    rfl
  clear hE hP
  clear nr nsz hrow;have q9 : ¬ v.k = 9:=by omega
  rcases q with q | q
  · skip
    by_cases a1 : v.n = 0
    · skip
      by_cases a2 : v.s = 0
      · skip
        cases hP1 : plainB v with
        | false =>
          rw [hP1] at hfc;refine K.kgl ?_;exact WQ.ret1 rfl rfl (bad3 (by rw [hfc];simp [formC, *]))
        | true =>
          rw [hP1] at hfc
          by_cases a3 : 16384 < v.t.size
          · refine K.kgl ?_
            exact WQ.ret1 rfl rfl ⟨ret_i64 (chk_bad (shp5 (by rw [hfc];simp [formC, *]) (.inl a3)) (by decide)).symm,hbel⟩
          · skip
            have h0 : shp v = 0:=shp0 (by rw [hfc];simp [formC, *]) (by omega) (by have:=hPk hP1;omega) (fun h => by omega);have hk0 : v.kids.length = 0:=hPk hP1;refine K.kgl ?_;refine WC.loop (fun _ : Unit => [(1,.int .i64 d),(2,.pointer (some ⟨g,0,none⟩)),(8,.int .i64 0)]) (fun _ w' => w1 = w') (fun _ => 0) () ⟨rfl,rfl,rfl,trivial⟩ rfl ?_;rintro _ _ rfl;refine K.kgl ?_;exact WQ.ret1 rfl rfl ⟨ret_i64 (chk0 h0 hk0).symm,hbel⟩
      · skip
        refine K.kgl ?_;exact WQ.ret1 rfl rfl (bad3 (by rw [hfc];simp [formC, *]))
    · skip
      refine K.kgl ?_;exact WQ.ret1 rfl rfl (bad3 (by rw [hfc];simp [formC, *]))
  · skip
    by_cases a1 : v.n = 0
    · skip
      by_cases a2 : v.s = 0
      · skip
        cases hP1 : plainB v with
        | false =>
          rw [hP1] at hfc;refine K.kgl ?_;exact WQ.ret1 rfl rfl (bad3 (by rw [hfc];simp [formC, *]))
        | true =>
          rw [hP1] at hfc
          by_cases a3 : 16384 < v.t.size
          · refine K.kgl ?_
            exact WQ.ret1 rfl rfl ⟨ret_i64 (chk_bad (shp5 (by rw [hfc];simp [formC, *]) (.inl a3)) (by decide)).symm,hbel⟩
          · skip
            have h0 : shp v = 0:=shp0 (by rw [hfc];simp [formC, *]) (by omega) (by have:=hPk hP1;omega) (fun h => by omega);have hk0 : v.kids.length = 0:=hPk hP1;refine K.kgl ?_;refine WC.loop (fun _ : Unit => [(1,.int .i64 d),(2,.pointer (some ⟨g,0,none⟩)),(8,.int .i64 0)]) (fun _ w' => w1 = w') (fun _ => 0) () ⟨rfl,rfl,rfl,trivial⟩ rfl ?_;rintro _ _ rfl;refine K.kgl ?_;exact WQ.ret1 rfl rfl ⟨ret_i64 (chk0 h0 hk0).symm,hbel⟩
      · skip
        refine K.kgl ?_;exact WQ.ret1 rfl rfl (bad3 (by rw [hfc];simp [formC, *]))
    · skip
      refine K.kgl ?_;exact WQ.ret1 rfl rfl (bad3 (by rw [hfc];simp [formC, *]))
set_option maxRecDepth 100000 in
set_option maxHeartbeats 16000000 in
theorem rchk_kx {f : Nat} {w : World} {v : V} {cs : List Value} {m : Nat} {d : Int} (hv : IsV (f + 1) w v cs) (q : ¬ (1 ≤ v.k ∧ v.k ≤ 9)) (_hd1 : d ≤ 16) (_hd0 : 0 ≤ d) :
    Calls Tryz.prog 105 #[.agg cs.toArray,.int .i64 d] w fun e w' => e = .returned (.int .i64 (chk (m + 1) v)) ∧ Below w.heap.size w w':=by
  obtain ⟨sn,sk,rfl,-,hn64,-,htz,⟨np,nc,rfl,nl,nc2,nsz,nr⟩,⟨sp,cap,rfl,hcap1,hcap2,hrow⟩⟩:=hv;have hn : -9223372036854775808 ≤ v.n ∧ v.n ≤ 9223372036854775807:=by simp [Lit.wf,IntKind.min,IntKind.max,IntKind.bits,IntKind.signed] at hn64;omega
  clear hn64;refine enter (args:=[.agg (six v (.slice np v.names.length nc) (.slice sp v.kids.length cap)).toArray,.int .i64 d]) Tryz.func105 rfl Tryz.ntmps105 rfl ?_;refine K.kgo ?_;refine WL.box rfl rfl rfl rfl rfl fun g w1 hf => ?_;have hR : VBlk 48 w1 g (six v (.slice np v.names.length nc) (.slice sp v.kids.length cap)):=hf.blk;have hbel : Below w.heap.size w w1:=hf.below;have c0 : w1.cell? ⟨g,0,none⟩ = some (.int .i64 v.k):=hR.cell 0 (by simp);have c1 : w1.cell? ⟨g,1,none⟩ = some (.int .i64 v.n):=hR.cell 1 (by simp);have c2 : w1.cell? ⟨g,2,none⟩ = some (.int .i64 v.s):=hR.cell 2 (by simp);have c3 : w1.cell? ⟨g,3,none⟩ = some (.string v.t):=hR.cell 3 (by simp);have c4 : w1.cell? ⟨g,4,none⟩ = some (.slice np v.names.length nc):=hR.cell 4 (by simp);have c5 : w1.cell? ⟨g,5,none⟩ = some (.slice sp v.kids.length cap):=hR.cell 5 (by simp);clear hf;have hfc:=formB_eq v;have hB : bareB v = (decide (v.n = 0) && decide (v.s = 0)):=rfl;have hP : plainB v = (decide (v.names.length = 0) && decide (v.kids.length = 0)):=rfl;have hE:=text_ne v;have bad3 : formB v = false → Ending.returned (.int .i64 3) = .returned (.int .i64 (chk (m + 1) v)) ∧ Below w.heap.size w w1:=fun h => ⟨ret_i64 (chk_bad (shp_form3 h) (by decide)).symm,hbel⟩;refine K.kgb ?_;refine WL.as 5 (.bool (!noTextB v)) rfl (congrArg Value.bool hE) ?_;refine WL.mid (fun _ : Unit => [(1,.int .i64 d),(2,.pointer (some ⟨g,0,none⟩)),(5,.bool (!noTextB v)),(6,.bool (!plainB v))]) (fun _ w' => w1 = w') rfl ?_ ?_
  · by_cases hK : v.kids.length = 0
    · have hK0 : ¬ (0 : Int) < v.kids.length:=by omega
      refine WL.as 19 (.bool false) rfl (congrArg Value.bool (decide_eq_false hK0)) ?_
      by_cases hN : v.names.length = 0
      · refine K.kgl ?_
        exact WQ.meet () ⟨rfl,rfl,rfl,congrArg (fun b => some (Value.bool b)) (by rw [hP];simp [hN,hK]),trivial⟩ rfl
      · refine K.kgl ?_
        exact WQ.meet () ⟨rfl,rfl,rfl,congrArg (fun b => some (Value.bool b)) (by rw [hP];simp [hN]),trivial⟩ rfl
    · have hK0 : (0 : Int) < v.kids.length:=by omega
      refine WL.as 19 (.bool true) rfl (congrArg Value.bool (decide_eq_true hK0)) ?_;refine K.kgl ?_;exact WQ.meet () ⟨rfl,rfl,rfl,congrArg (fun b => some (Value.bool b)) (by rw [hP];simp [hK]),trivial⟩ rfl
  rintro _ _ rfl;have shp5 : formB v = true → (16384 < v.t.size ∨ 200 < v.kids.length) → shp v = 5:=fun h1 h2 => by unfold shp;rw [if_neg (by rw [h1];exact Bool.noConfusion),if_pos h2]
  have shp0 : formB v = true → v.t.size ≤ 16384 → v.kids.length ≤ 200 → (v.k = 9 → fieldsB v = true) → shp v = 0:=fun h1 h2 h3 h4 => by
    unfold shp;rw [if_neg (by rw [h1];exact Bool.noConfusion),if_neg (by omega),if_neg (fun h => by have:=h4 h.1;rw [this] at h;exact Bool.noConfusion h.2)]
  have hEt : noTextB v = true → v.t.size = 0:=fun h => of_decide_eq_true h;have hPk : plainB v = true → v.kids.length = 0:=fun h => by rw [hP] at h;rw [Bool.and_eq_true] at h;exact of_decide_eq_true h.2
  have chk0 : shp v = 0 → v.kids.length = 0 → chk (m + 1) v = 0:=fun h1 h2 => by
    unfold chk;rw [if_pos h1,List.eq_nil_of_length_eq_zero h2]
    rfl
  clear hE hP
  clear nr nsz hrow;have hff : formB v = false:=by
    rw [hfc];unfold formC;rw [if_neg (show ¬ v.k = 1 by omega),if_neg (show ¬ v.k = 2 by omega),if_neg (show ¬ v.k = 3 by omega),if_neg (show ¬ v.k = 4 by omega),if_neg (show ¬ v.k = 5 by omega),if_neg (show ¬ (v.k = 6 ∨ v.k = 7) by omega),if_neg (show ¬ v.k = 8 by omega),if_neg (show ¬ v.k = 9 by omega)]
  refine K.kgl ?_;exact WQ.ret1 rfl rfl (bad3 hff)
end K
namespace K
open Vl (formC formB_eq okN fields_iff)
set_option maxRecDepth 100000 in
set_option maxHeartbeats 16000000 in
theorem rchk_k8 {f : Nat} {w : World} {v : V} {cs : List Value} {m : Nat} {d : Int} (ih : ∀ {w : World} {v : V} {cs : List Value} (d : Int),IsV f w v cs → d = 17 - (m : Int) → Calls Tryz.prog 105 #[.agg cs.toArray,.int .i64 d] w fun e w' => e = .returned (.int .i64 (chk m v)) ∧ Below w.heap.size w w') (hd : d + 1 = 17 - (m : Int)) (hv : IsV (f + 1) w v cs) (q : v.k = 8) (_hd1 : d ≤ 16) (_hd0 : 0 ≤ d) :
    Calls Tryz.prog 105 #[.agg cs.toArray,.int .i64 d] w fun e w' => e = .returned (.int .i64 (chk (m + 1) v)) ∧ Below w.heap.size w w':=by
  obtain ⟨sn,sk,rfl,-,hn64,-,htz,⟨np,nc,rfl,nl,nc2,nsz,nr⟩,⟨sp,cap,rfl,hcap1,hcap2,hrow⟩⟩:=hv;have hn : -9223372036854775808 ≤ v.n ∧ v.n ≤ 9223372036854775807:=by simp [Lit.wf,IntKind.min,IntKind.max,IntKind.bits,IntKind.signed] at hn64;omega
  clear hn64;refine enter (args:=[.agg (six v (.slice np v.names.length nc) (.slice sp v.kids.length cap)).toArray,.int .i64 d]) Tryz.func105 rfl Tryz.ntmps105 rfl ?_;refine K.kgo ?_;refine WL.box rfl rfl rfl rfl rfl fun g w1 hf => ?_;have hR : VBlk 48 w1 g (six v (.slice np v.names.length nc) (.slice sp v.kids.length cap)):=hf.blk;have hbel : Below w.heap.size w w1:=hf.below;have c0 : w1.cell? ⟨g,0,none⟩ = some (.int .i64 v.k):=hR.cell 0 (by simp);have c1 : w1.cell? ⟨g,1,none⟩ = some (.int .i64 v.n):=hR.cell 1 (by simp);have c2 : w1.cell? ⟨g,2,none⟩ = some (.int .i64 v.s):=hR.cell 2 (by simp);have c3 : w1.cell? ⟨g,3,none⟩ = some (.string v.t):=hR.cell 3 (by simp);have c4 : w1.cell? ⟨g,4,none⟩ = some (.slice np v.names.length nc):=hR.cell 4 (by simp);have c5 : w1.cell? ⟨g,5,none⟩ = some (.slice sp v.kids.length cap):=hR.cell 5 (by simp);clear hf;have hfc:=formB_eq v;have hB : bareB v = (decide (v.n = 0) && decide (v.s = 0)):=rfl;have hP : plainB v = (decide (v.names.length = 0) && decide (v.kids.length = 0)):=rfl;have hE:=text_ne v;have bad3 : formB v = false → Ending.returned (.int .i64 3) = .returned (.int .i64 (chk (m + 1) v)) ∧ Below w.heap.size w w1:=fun h => ⟨ret_i64 (chk_bad (shp_form3 h) (by decide)).symm,hbel⟩;refine K.kgb ?_;refine WL.as 5 (.bool (!noTextB v)) rfl (congrArg Value.bool hE) ?_;refine WL.mid (fun _ : Unit => [(1,.int .i64 d),(2,.pointer (some ⟨g,0,none⟩)),(5,.bool (!noTextB v)),(6,.bool (!plainB v))]) (fun _ w' => w1 = w') rfl ?_ ?_
  · by_cases hK : v.kids.length = 0
    · have hK0 : ¬ (0 : Int) < v.kids.length:=by omega
      refine WL.as 19 (.bool false) rfl (congrArg Value.bool (decide_eq_false hK0)) ?_
      by_cases hN : v.names.length = 0
      · refine K.kgl ?_
        exact WQ.meet () ⟨rfl,rfl,rfl,congrArg (fun b => some (Value.bool b)) (by rw [hP];simp [hN,hK]),trivial⟩ rfl
      · refine K.kgl ?_
        exact WQ.meet () ⟨rfl,rfl,rfl,congrArg (fun b => some (Value.bool b)) (by rw [hP];simp [hN]),trivial⟩ rfl
    · have hK0 : (0 : Int) < v.kids.length:=by omega
      refine WL.as 19 (.bool true) rfl (congrArg Value.bool (decide_eq_true hK0)) ?_;refine K.kgl ?_;exact WQ.meet () ⟨rfl,rfl,rfl,congrArg (fun b => some (Value.bool b)) (by rw [hP];simp [hK]),trivial⟩ rfl
  rintro _ _ rfl;have shp5 : formB v = true → (16384 < v.t.size ∨ 200 < v.kids.length) → shp v = 5:=fun h1 h2 => by unfold shp;rw [if_neg (by rw [h1];exact Bool.noConfusion),if_pos h2]
  have shp0 : formB v = true → v.t.size ≤ 16384 → v.kids.length ≤ 200 → (v.k = 9 → fieldsB v = true) → shp v = 0:=fun h1 h2 h3 h4 => by
    unfold shp;rw [if_neg (by rw [h1];exact Bool.noConfusion),if_neg (by omega),if_neg (fun h => by have:=h4 h.1;rw [this] at h;exact Bool.noConfusion h.2)]
  have hEt : noTextB v = true → v.t.size = 0:=fun h => of_decide_eq_true h;have hPk : plainB v = true → v.kids.length = 0:=fun h => by rw [hP] at h;rw [Bool.and_eq_true] at h;exact of_decide_eq_true h.2
  have chk0 : shp v = 0 → v.kids.length = 0 → chk (m + 1) v = 0:=fun h1 h2 => by
    unfold chk;rw [if_pos h1,List.eq_nil_of_length_eq_zero h2]
    rfl
  clear hE hP
  clear nr nsz
  by_cases a1 : v.n = 0
  · skip
    by_cases a2 : v.s = 0
    · skip
      cases hE1 : noTextB v with
      | false =>
        rw [hE1] at hfc;refine K.kgl ?_;exact WQ.ret1 rfl rfl (bad3 (by rw [hfc];simp [formC, *]))
      | true =>
        rw [hE1] at hfc
        by_cases a3 : v.names.length = 0
        · skip
          by_cases a4 : 200 < v.kids.length
          · refine K.kgl ?_
            exact WQ.ret1 rfl rfl ⟨ret_i64 (chk_bad (shp5 (by rw [hfc];simp [formC, *]) (.inr a4)) (by decide)).symm,hbel⟩
          have h0 : shp v = 0:=shp0 (by rw [hfc];simp [formC, *]) (by have:=hEt hE1;omega) (by omega) (fun h => by omega);have hchk : chk (m + 1) v = firstBad (v.kids.map (chk m)):=by
            conv => lhs;unfold chk
            rw [if_pos h0]
          have hb1 : Below w1.heap.size w1 w1:=Below.refl _ _;refine K.kgl ?_;refine WC.loop (fun i : Nat => [(1,.int .i64 d),(2,.pointer (some ⟨g,0,none⟩)),(8,.int .i64 i)]) (fun i w' => i ≤ v.kids.length ∧ Below w1.heap.size w1 w' ∧ ∀ j,j < i → chk m (v.kids.getD j noV) = 0) (fun i => v.kids.length - i) 0 ⟨rfl,rfl,rfl,trivial⟩ ⟨Nat.zero_le _,hb1,fun j hj => absurd hj (by omega)⟩ ?_;clear hb1 c0 c1 c2 c3 c4 c5;rintro i wr ⟨hi,hbr,hall⟩;have hgw : g < w1.heap.size:=hR.lt;have c5 : wr.cell? ⟨g,5,none⟩ = some (.slice sp v.kids.length cap):=(hR.below hbr hgw).cell 5 (by simp);have hbelr : Below w.heap.size w wr:=hbel.trans (hbr.mono hbel.size)
          by_cases hik : i < v.kids.length
          · obtain ⟨kb,ko,rfl,hkb,hcells⟩:=hrow (by omega)
            obtain ⟨c,hc6,hci,hcr⟩:=hcells i hik;clear hrow hcells;have hcr' : wr.rangeAt kb (ko + i * 6) c:=fun j u hu => by rw [hbelr.cell (p:=⟨kb,ko + i * 6 + j,none⟩) hkb];exact hcr j u hu
            refine K.kgl ?_;refine WL.idx i (ko + i * 6) rfl rfl rfl rfl rfl rfl rfl rfl hik rfl ?_;refine WL.loadMid rfl rfl rfl rfl rfl rfl hcr' hc6 ?_;refine K.kgo ?_;refine WL.call rfl rfl rfl rfl rfl Tryz.func105 rfl (by kernel_rfl) (ih (d + 1) (hci.below hbelr) hd) ?_;rintro e w4 ⟨rfl,hb4⟩;refine ⟨_,rfl,?_⟩;have hb4' : Below w1.heap.size w1 w4:=hbr.trans (hb4.mono hbr.size)
            by_cases h0 : chk m (v.kids.getD i noV) = 0
            · refine K.kgo ?_
              refine WQ.again (i + 1) ⟨rfl,rfl,rfl,trivial⟩ ⟨hik,hb4',fun j hj => (Nat.lt_succ_iff_lt_or_eq.1 hj).elim (hall j) (fun e => by rw [e];exact h0)⟩ (by show v.kids.length - (i + 1) < v.kids.length - i;omega)
            · have hfb : chk (m + 1) v = chk m (v.kids.getD i noV):=by
                rw [hchk,firstBad_take (i:=i) (by rw [List.length_map];exact hik) (fun j hj => by rw [chk_map m v.kids j (by omega)];exact hall j hj) (by rw [chk_map m v.kids i hik];exact h0),chk_map m v.kids i hik]
              refine K.kgo ?_;exact WQ.ret1 rfl rfl ⟨ret_i64 hfb.symm,hbel.trans (hb4'.mono hbel.size)⟩
          · obtain rfl : i = v.kids.length:=by omega
            refine K.kgl ?_;refine WQ.ret1 rfl rfl ⟨ret_i64 ?_,hbelr⟩;rw [hchk];exact (firstBad_all fun j hj => by rw [List.length_map] at hj;rw [chk_map m v.kids j hj];exact hall j hj).symm
        · skip
          refine K.kgl ?_;exact WQ.ret1 rfl rfl (bad3 (by rw [hfc];simp [formC, *]))
    · skip
      refine K.kgl ?_;exact WQ.ret1 rfl rfl (bad3 (by rw [hfc];simp [formC, *]))
  · skip
    refine K.kgl ?_;exact WQ.ret1 rfl rfl (bad3 (by rw [hfc];simp [formC, *]))
set_option maxRecDepth 100000 in
set_option maxHeartbeats 16000000 in
theorem rchk_k9 {f : Nat} {w : World} {v : V} {cs : List Value} {m : Nat} {d : Int} (ih : ∀ {w : World} {v : V} {cs : List Value} (d : Int),IsV f w v cs → d = 17 - (m : Int) → Calls Tryz.prog 105 #[.agg cs.toArray,.int .i64 d] w fun e w' => e = .returned (.int .i64 (chk m v)) ∧ Below w.heap.size w w') (hd : d + 1 = 17 - (m : Int)) (hv : IsV (f + 1) w v cs) (q : v.k = 9) (_hd1 : d ≤ 16) (_hd0 : 0 ≤ d) :
    Calls Tryz.prog 105 #[.agg cs.toArray,.int .i64 d] w fun e w' => e = .returned (.int .i64 (chk (m + 1) v)) ∧ Below w.heap.size w w':=by
  obtain ⟨sn,sk,rfl,-,hn64,-,htz,⟨np,nc,rfl,nl,nc2,nsz,nr⟩,⟨sp,cap,rfl,hcap1,hcap2,hrow⟩⟩:=hv;have hn : -9223372036854775808 ≤ v.n ∧ v.n ≤ 9223372036854775807:=by simp [Lit.wf,IntKind.min,IntKind.max,IntKind.bits,IntKind.signed] at hn64;omega
  clear hn64;refine enter (args:=[.agg (six v (.slice np v.names.length nc) (.slice sp v.kids.length cap)).toArray,.int .i64 d]) Tryz.func105 rfl Tryz.ntmps105 rfl ?_;refine K.kgo ?_;refine WL.box rfl rfl rfl rfl rfl fun g w1 hf => ?_;have hR : VBlk 48 w1 g (six v (.slice np v.names.length nc) (.slice sp v.kids.length cap)):=hf.blk;have hbel : Below w.heap.size w w1:=hf.below;have c0 : w1.cell? ⟨g,0,none⟩ = some (.int .i64 v.k):=hR.cell 0 (by simp);have c1 : w1.cell? ⟨g,1,none⟩ = some (.int .i64 v.n):=hR.cell 1 (by simp);have c2 : w1.cell? ⟨g,2,none⟩ = some (.int .i64 v.s):=hR.cell 2 (by simp);have c3 : w1.cell? ⟨g,3,none⟩ = some (.string v.t):=hR.cell 3 (by simp);have c4 : w1.cell? ⟨g,4,none⟩ = some (.slice np v.names.length nc):=hR.cell 4 (by simp);have c5 : w1.cell? ⟨g,5,none⟩ = some (.slice sp v.kids.length cap):=hR.cell 5 (by simp);clear hf;have hfc:=formB_eq v;have hB : bareB v = (decide (v.n = 0) && decide (v.s = 0)):=rfl;have hP : plainB v = (decide (v.names.length = 0) && decide (v.kids.length = 0)):=rfl;have hE:=text_ne v;have bad3 : formB v = false → Ending.returned (.int .i64 3) = .returned (.int .i64 (chk (m + 1) v)) ∧ Below w.heap.size w w1:=fun h => ⟨ret_i64 (chk_bad (shp_form3 h) (by decide)).symm,hbel⟩;refine K.kgb ?_;refine WL.as 5 (.bool (!noTextB v)) rfl (congrArg Value.bool hE) ?_;refine WL.mid (fun _ : Unit => [(1,.int .i64 d),(2,.pointer (some ⟨g,0,none⟩)),(5,.bool (!noTextB v)),(6,.bool (!plainB v))]) (fun _ w' => w1 = w') rfl ?_ ?_
  · by_cases hK : v.kids.length = 0
    · have hK0 : ¬ (0 : Int) < v.kids.length:=by omega
      refine WL.as 19 (.bool false) rfl (congrArg Value.bool (decide_eq_false hK0)) ?_
      by_cases hN : v.names.length = 0
      · refine K.kgl ?_
        exact WQ.meet () ⟨rfl,rfl,rfl,congrArg (fun b => some (Value.bool b)) (by rw [hP];simp [hN,hK]),trivial⟩ rfl
      · refine K.kgl ?_
        exact WQ.meet () ⟨rfl,rfl,rfl,congrArg (fun b => some (Value.bool b)) (by rw [hP];simp [hN]),trivial⟩ rfl
    · have hK0 : (0 : Int) < v.kids.length:=by omega
      refine WL.as 19 (.bool true) rfl (congrArg Value.bool (decide_eq_true hK0)) ?_;refine K.kgl ?_;exact WQ.meet () ⟨rfl,rfl,rfl,congrArg (fun b => some (Value.bool b)) (by rw [hP];simp [hK]),trivial⟩ rfl
  rintro _ _ rfl;have shp5 : formB v = true → (16384 < v.t.size ∨ 200 < v.kids.length) → shp v = 5:=fun h1 h2 => by unfold shp;rw [if_neg (by rw [h1];exact Bool.noConfusion),if_pos h2]
  have shp0 : formB v = true → v.t.size ≤ 16384 → v.kids.length ≤ 200 → (v.k = 9 → fieldsB v = true) → shp v = 0:=fun h1 h2 h3 h4 => by
    unfold shp;rw [if_neg (by rw [h1];exact Bool.noConfusion),if_neg (by omega),if_neg (fun h => by have:=h4 h.1;rw [this] at h;exact Bool.noConfusion h.2)]
  have hEt : noTextB v = true → v.t.size = 0:=fun h => of_decide_eq_true h;have hPk : plainB v = true → v.kids.length = 0:=fun h => by rw [hP] at h;rw [Bool.and_eq_true] at h;exact of_decide_eq_true h.2
  have chk0 : shp v = 0 → v.kids.length = 0 → chk (m + 1) v = 0:=fun h1 h2 => by
    unfold chk;rw [if_pos h1,List.eq_nil_of_length_eq_zero h2]
    rfl
  clear hE hP
  by_cases a1 : v.n = 0
  · skip
    by_cases a2 : v.s = 0
    · skip
      cases hE1 : noTextB v with
      | false =>
        rw [hE1] at hfc;refine K.kgl ?_;exact WQ.ret1 rfl rfl (bad3 (by rw [hfc];simp [formC, *]))
      | true =>
        rw [hE1] at hfc;have hform : formB v = true:=by rw [hfc];simp [formC, *]
        by_cases a4 : 200 < v.kids.length
        · refine K.kgl ?_
          exact WQ.ret1 rfl rfl ⟨ret_i64 (chk_bad (shp5 hform (.inr a4)) (by decide)).symm,hbel⟩
        have hfi:=fields_iff v;have shp3 : fieldsB v = false → shp v = 3:=fun h => by
          unfold shp;rw [if_neg (by rw [hform];exact Bool.noConfusion),if_neg (by have:=hEt hE1;omega),if_pos ⟨q,h⟩]
        by_cases a5 : v.names.length = v.kids.length
        · refine K.kgl ?_
          refine WC.loop (fun i : Nat => [(1,.int .i64 d),(2,.pointer (some ⟨g,0,none⟩)),(7,.int .i64 i)]) (fun i w' => i ≤ v.names.length ∧ Below w1.heap.size w1 w' ∧ ∀ j,j < i → okN v.names j = true) (fun i => v.names.length - i) 0 ⟨rfl,rfl,rfl,trivial⟩ ⟨Nat.zero_le _,Below.refl _ _,fun j hj => absurd hj (by omega)⟩ ?_;rintro i wz ⟨hi,hbz,hall⟩;have hgw : g < w1.heap.size:=hR.lt;have hRz : VBlk 48 wz g (six v (.slice np v.names.length nc) (.slice sp v.kids.length cap)):=hR.below hbz hgw;have hbelz : Below w.heap.size w wz:=hbel.trans (hbz.mono hbel.size);have z4 : wz.cell? ⟨g,4,none⟩ = some (.slice np v.names.length nc):=hRz.cell 4 (by simp)
          by_cases hin : i < v.names.length
          · obtain ⟨nb,no,rfl,hnb,hnr⟩:=nr (by omega)
            have hnc:=hnr i hin;have hnp:=hnr (i - 1) (by omega);have hnz:=nsz i hin;clear hnr nr hrow nsz;have hok : okN v.names i = (isNameB (v.names.getD i noT) && (decide (i = 0) || Op.bytesLess (v.names.getD (i - 1) noT).toList (v.names.getD i noT).toList)):=rfl;have hleq:=Vl.leq_not (v.names.getD i noT).toList (v.names.getD (i - 1) noT).toList;have hnm : isNameB (v.names.getD i noT) = (decide (1 ≤ (v.names.getD i noT).size) && decide ((v.names.getD i noT).size ≤ 40)):=rfl;have badn : okN v.names i = false → Ending.returned (.int .i64 3) = .returned (.int .i64 (chk (m + 1) v)):=fun h => ret_i64 (chk_bad (shp3 (by
              cases hf : fieldsB v with
              | false => rfl
              | true => have:=(hfi.1 hf).1 i hin;rw [h] at this;cases this)) (by decide)).symm
            generalize v.names.getD i noT = nm at hnc hnz hok hleq hnm;generalize v.names.getD (i - 1) noT = pm at hnp hok hleq;refine K.kgl ?_;refine WC.drawn 33 (fun wx => Below w.heap.size w wx ∧ VBlk 48 wx g (six v (.slice (some ⟨nb,no,none⟩) v.names.length nc) (.slice sp v.kids.length cap))) fun w2 hd2 => ?_;have hS : Below w.heap.size w w2 ∧ VBlk 48 w2 g (six v (.slice (some ⟨nb,no,none⟩) v.names.length nc) (.slice sp v.kids.length cap)):=⟨hbelz.trans (hd2.below _),hRz.below (hd2.below _) hRz.lt⟩;have hb2 : Below w1.heap.size w1 w2:=hbz.trans (hd2.below _)
            by_cases x1 : nm.size < 1
            · skip
              refine K.fr [0] hS ?_;refine K.wl 1 [3,4,5,6,7,8,9,10,11,12,13,14,15,16,17,18,19,20,21,22,23,24,25,26,27,28,29,30,31,32,33] rfl rfl rfl rfl rfl rfl rfl (fun wx hx => hx.2.cell 4 (by simp)) hS ?_;refine K.fr [2] hS ?_;refine K.wi 3 i (no + i) rfl rfl rfl rfl rfl rfl rfl rfl rfl (by omega) (by omega) (.inr hS) ?_;refine K.wl 4 [5,6,7,8,9,10,11,12,13,14,15,16,17,18,19,20,21,22,23,24,25,26,27,28,29,30,31,32,33] rfl rfl rfl rfl rfl rfl rfl (fun wx hx => (hx.1.cell (p:=⟨nb,no + i,none⟩) hnb).trans hnc) hS ?_;refine K.fr [5,6,7,8] hS ?_;refine K.fr [9,10,11,12,13,14,15,16] hS ?_;refine K.fr [17,18,19,20] hS ?_;refine K.fr [21,22,23,24,25,26,27,28,29,30,31,32] hS ?_;refine K.wo 33 ?_;refine WL.pure rfl rfl rfl rfl ?_;refine K.dl ?_;refine WD.done (by kernel_rfl) ?_;refine K.kgo ?_;exact WQ.ret1 rfl rfl ⟨badn (by rw [hok,hnm,decide_eq_false (by omega)];rfl),hS.1⟩
            by_cases x2 : 40 < nm.size
            · skip
              refine K.fr [0] hS ?_;refine K.wl 1 [3,4,5,6,7,8,9,10,11,12,13,14,15,16,17,18,19,20,21,22,23,24,25,26,27,28,29,30,31,32,33] rfl rfl rfl rfl rfl rfl rfl (fun wx hx => hx.2.cell 4 (by simp)) hS ?_;refine K.fr [2] hS ?_;refine K.wi 3 i (no + i) rfl rfl rfl rfl rfl rfl rfl rfl rfl (by omega) (by omega) (.inr hS) ?_;refine K.wl 4 [5,6,7,8,9,10,11,12,13,14,15,16,17,18,19,20,21,22,23,24,25,26,27,28,29,30,31,32,33] rfl rfl rfl rfl rfl rfl rfl (fun wx hx => (hx.1.cell (p:=⟨nb,no + i,none⟩) hnb).trans hnc) hS ?_;refine K.fr [5,6,7,8] hS ?_;refine K.wl 9 [11,12,13,14,15,16,17,18,19,20,21,22,23,24,25,26,27,28,29,30,31,32,33] rfl rfl rfl rfl rfl rfl rfl (fun wx hx => hx.2.cell 4 (by simp)) hS ?_;refine K.fr [10] hS ?_;refine K.wi 11 i (no + i) rfl rfl rfl rfl rfl rfl rfl rfl rfl (by omega) (by omega) (.inr hS) ?_;refine K.wl 12 [13,14,15,16,17,18,19,20,21,22,23,24,25,26,27,28,29,30,31,32,33] rfl rfl rfl rfl rfl rfl rfl (fun wx hx => (hx.1.cell (p:=⟨nb,no + i,none⟩) hnb).trans hnc) hS ?_;refine K.fr [13,14,15,16] hS ?_;refine K.fr [17,18,19,20] hS ?_;refine K.fr [21,22,23,24,25,26,27,28,29,30,31,32] hS ?_;refine K.wo 33 ?_;refine WL.pure rfl rfl rfl rfl ?_;refine K.dl ?_;refine WD.done (by kernel_rfl) ?_;refine K.kgo ?_;exact WQ.ret1 rfl rfl ⟨badn (by rw [hok,hnm,decide_eq_false (show ¬ nm.size ≤ 40 by omega),Bool.and_false];rfl),hS.1⟩
            have hnm1 : isNameB nm = true:=by rw [hnm,decide_eq_true (by omega),decide_eq_true (by omega)];rfl
            by_cases x3 : i = 0
            · skip
              refine K.fr [0] hS ?_;refine K.wl 1 [3,4,5,6,7,8,9,10,11,12,13,14,15,16,17,18,19,20,21,22,23,24,25,26,27,28,29,30,31,32,33] rfl rfl rfl rfl rfl rfl rfl (fun wx hx => hx.2.cell 4 (by simp)) hS ?_;refine K.fr [2] hS ?_;refine K.wi 3 i (no + i) rfl rfl rfl rfl rfl rfl rfl rfl rfl (by omega) (by omega) (.inr hS) ?_;refine K.wl 4 [5,6,7,8,9,10,11,12,13,14,15,16,17,18,19,20,21,22,23,24,25,26,27,28,29,30,31,32,33] rfl rfl rfl rfl rfl rfl rfl (fun wx hx => (hx.1.cell (p:=⟨nb,no + i,none⟩) hnb).trans hnc) hS ?_;refine K.fr [5,6,7,8] hS ?_;refine K.wl 9 [11,12,13,14,15,16,17,18,19,20,21,22,23,24,25,26,27,28,29,30,31,32,33] rfl rfl rfl rfl rfl rfl rfl (fun wx hx => hx.2.cell 4 (by simp)) hS ?_;refine K.fr [10] hS ?_;refine K.wi 11 i (no + i) rfl rfl rfl rfl rfl rfl rfl rfl rfl (by omega) (by omega) (.inr hS) ?_;refine K.wl 12 [13,14,15,16,17,18,19,20,21,22,23,24,25,26,27,28,29,30,31,32,33] rfl rfl rfl rfl rfl rfl rfl (fun wx hx => (hx.1.cell (p:=⟨nb,no + i,none⟩) hnb).trans hnc) hS ?_;refine K.fr [13,14,15,16] hS ?_;refine K.fr [17,18,19,20] hS ?_;refine K.fr [21,22,23,24,25,26,27,28,29,30,31,32] hS ?_;refine K.wo 33 ?_;refine WL.pure rfl rfl rfl rfl ?_;refine K.dl ?_;refine WD.done (by kernel_rfl) ?_;refine K.kgo ?_;refine WQ.again (i + 1) ⟨rfl,rfl,rfl,trivial⟩ ⟨hin,hb2,fun j hj => (Nat.lt_succ_iff_lt_or_eq.1 hj).elim (hall j) (fun e => by rw [e];rw [hok,hnm1,x3];rfl)⟩ (by show v.names.length - (i + 1) < v.names.length - i;omega)
            have hw : IntKind.i64.wrap ((i : Int) - 1) = ((i - 1 : Nat) : Int):=by rw [IntWalk.i64_in _ (by omega)];omega
            cases hlt : Op.bytesLess pm.toList nm.toList with
            | true =>
              rw [hlt] at hleq hok;refine K.fr [0] hS ?_;refine K.wl 1 [3,4,5,6,7,8,9,10,11,12,13,14,15,16,17,18,19,20,21,22,23,24,25,26,27,28,29,30,31,32,33] rfl rfl rfl rfl rfl rfl rfl (fun wx hx => hx.2.cell 4 (by simp)) hS ?_;refine K.fr [2] hS ?_;refine K.wi 3 i (no + i) rfl rfl rfl rfl rfl rfl rfl rfl rfl (by omega) (by omega) (.inr hS) ?_;refine K.wl 4 [5,6,7,8,9,10,11,12,13,14,15,16,17,18,19,20,21,22,23,24,25,26,27,28,29,30,31,32,33] rfl rfl rfl rfl rfl rfl rfl (fun wx hx => (hx.1.cell (p:=⟨nb,no + i,none⟩) hnb).trans hnc) hS ?_;refine K.fr [5,6,7,8] hS ?_;refine K.wl 9 [11,12,13,14,15,16,17,18,19,20,21,22,23,24,25,26,27,28,29,30,31,32,33] rfl rfl rfl rfl rfl rfl rfl (fun wx hx => hx.2.cell 4 (by simp)) hS ?_;refine K.fr [10] hS ?_;refine K.wi 11 i (no + i) rfl rfl rfl rfl rfl rfl rfl rfl rfl (by omega) (by omega) (.inr hS) ?_;refine K.wl 12 [13,14,15,16,17,18,19,20,21,22,23,24,25,26,27,28,29,30,31,32,33] rfl rfl rfl rfl rfl rfl rfl (fun wx hx => (hx.1.cell (p:=⟨nb,no + i,none⟩) hnb).trans hnc) hS ?_;refine K.fr [13,14,15,16] hS ?_;refine K.fr [17,18,19,20] hS ?_;refine K.wl 21 [23,24,31,32,33] rfl rfl rfl rfl rfl rfl rfl (fun wx hx => hx.2.cell 4 (by simp)) hS ?_;refine K.fr [22] hS ?_;refine K.wi 23 i (no + i) rfl rfl rfl rfl rfl rfl rfl rfl rfl (by omega) (by omega) (.inr hS) ?_;refine K.wl 24 [31,32,33] rfl rfl rfl rfl rfl rfl rfl (fun wx hx => (hx.1.cell (p:=⟨nb,no + i,none⟩) hnb).trans hnc) hS ?_;refine K.fr [25] hS ?_;refine K.wl 26 [29,30,31,32,33] rfl rfl rfl rfl rfl rfl rfl (fun wx hx => hx.2.cell 4 (by simp)) hS ?_;refine K.fr [27,28] hS ?_;refine K.wi 29 (i - 1) (no + (i - 1)) rfl rfl rfl rfl rfl rfl rfl rfl (by omega) (by omega) (by omega) (.inr hS) ?_;refine K.wl 30 [31,32,33] rfl rfl rfl rfl rfl rfl rfl (fun wx hx => (hx.1.cell (p:=⟨nb,no + (i - 1),none⟩) hnb).trans hnp) hS ?_;refine K.fr [31,32] hS ?_;refine K.wo 33 ?_;refine WL.pure rfl rfl rfl rfl ?_;refine K.dl ?_;refine WD.done (by kernel_rfl) ?_;refine K.kgn ?_;refine WC.as 215 (.bool false) rfl (congrArg Value.bool hleq) ?_;refine K.kgo ?_;refine WQ.again (i + 1) ⟨rfl,rfl,rfl,trivial⟩ ⟨hin,hb2,fun j hj => (Nat.lt_succ_iff_lt_or_eq.1 hj).elim (hall j) (fun e => by rw [e];rw [hok,hnm1];simp)⟩ (by show v.names.length - (i + 1) < v.names.length - i;omega)
            | false =>
              rw [hlt] at hleq hok;refine K.fr [0] hS ?_;refine K.wl 1 [3,4,5,6,7,8,9,10,11,12,13,14,15,16,17,18,19,20,21,22,23,24,25,26,27,28,29,30,31,32,33] rfl rfl rfl rfl rfl rfl rfl (fun wx hx => hx.2.cell 4 (by simp)) hS ?_;refine K.fr [2] hS ?_;refine K.wi 3 i (no + i) rfl rfl rfl rfl rfl rfl rfl rfl rfl (by omega) (by omega) (.inr hS) ?_;refine K.wl 4 [5,6,7,8,9,10,11,12,13,14,15,16,17,18,19,20,21,22,23,24,25,26,27,28,29,30,31,32,33] rfl rfl rfl rfl rfl rfl rfl (fun wx hx => (hx.1.cell (p:=⟨nb,no + i,none⟩) hnb).trans hnc) hS ?_;refine K.fr [5,6,7,8] hS ?_;refine K.wl 9 [11,12,13,14,15,16,17,18,19,20,21,22,23,24,25,26,27,28,29,30,31,32,33] rfl rfl rfl rfl rfl rfl rfl (fun wx hx => hx.2.cell 4 (by simp)) hS ?_;refine K.fr [10] hS ?_;refine K.wi 11 i (no + i) rfl rfl rfl rfl rfl rfl rfl rfl rfl (by omega) (by omega) (.inr hS) ?_;refine K.wl 12 [13,14,15,16,17,18,19,20,21,22,23,24,25,26,27,28,29,30,31,32,33] rfl rfl rfl rfl rfl rfl rfl (fun wx hx => (hx.1.cell (p:=⟨nb,no + i,none⟩) hnb).trans hnc) hS ?_;refine K.fr [13,14,15,16] hS ?_;refine K.fr [17,18,19,20] hS ?_;refine K.wl 21 [23,24,31,32,33] rfl rfl rfl rfl rfl rfl rfl (fun wx hx => hx.2.cell 4 (by simp)) hS ?_;refine K.fr [22] hS ?_;refine K.wi 23 i (no + i) rfl rfl rfl rfl rfl rfl rfl rfl rfl (by omega) (by omega) (.inr hS) ?_;refine K.wl 24 [31,32,33] rfl rfl rfl rfl rfl rfl rfl (fun wx hx => (hx.1.cell (p:=⟨nb,no + i,none⟩) hnb).trans hnc) hS ?_;refine K.fr [25] hS ?_;refine K.wl 26 [29,30,31,32,33] rfl rfl rfl rfl rfl rfl rfl (fun wx hx => hx.2.cell 4 (by simp)) hS ?_;refine K.fr [27,28] hS ?_;refine K.wi 29 (i - 1) (no + (i - 1)) rfl rfl rfl rfl rfl rfl rfl rfl (by omega) (by omega) (by omega) (.inr hS) ?_;refine K.wl 30 [31,32,33] rfl rfl rfl rfl rfl rfl rfl (fun wx hx => (hx.1.cell (p:=⟨nb,no + (i - 1),none⟩) hnb).trans hnp) hS ?_;refine K.fr [31,32] hS ?_;refine K.wo 33 ?_;refine WL.pure rfl rfl rfl rfl ?_;refine K.dl ?_;refine WD.done (by kernel_rfl) ?_;refine K.kgn ?_;refine WC.as 215 (.bool true) rfl (congrArg Value.bool hleq) ?_;refine K.kgo ?_;exact WQ.ret1 rfl rfl ⟨badn (by rw [hok,hnm1,decide_eq_false x3];rfl),hS.1⟩
          · obtain rfl : i = v.names.length:=by omega
            have hff : fieldsB v = true:=hfi.2 ⟨hall,a5⟩;have h0 : shp v = 0:=shp0 hform (by have:=hEt hE1;omega) (by omega) (fun _ => hff);have hchk : chk (m + 1) v = firstBad (v.kids.map (chk m)):=by
              conv => lhs;unfold chk
              rw [if_pos h0]
            clear hfi hall nr nsz;refine K.kgl ?_;have hb1:=hbz;refine WC.loop (fun i : Nat => [(1,.int .i64 d),(2,.pointer (some ⟨g,0,none⟩)),(8,.int .i64 i)]) (fun i w' => i ≤ v.kids.length ∧ Below w1.heap.size w1 w' ∧ ∀ j,j < i → chk m (v.kids.getD j noV) = 0) (fun i => v.kids.length - i) 0 ⟨rfl,rfl,rfl,trivial⟩ ⟨Nat.zero_le _,hb1,fun j hj => absurd hj (by omega)⟩ ?_;clear hb1 c0 c1 c2 c3 c4 c5;rintro i wr ⟨hi,hbr,hall⟩;have hgw : g < w1.heap.size:=hR.lt;have c5 : wr.cell? ⟨g,5,none⟩ = some (.slice sp v.kids.length cap):=(hR.below hbr hgw).cell 5 (by simp);have hbelr : Below w.heap.size w wr:=hbel.trans (hbr.mono hbel.size)
            by_cases hik : i < v.kids.length
            · obtain ⟨kb,ko,rfl,hkb,hcells⟩:=hrow (by omega)
              obtain ⟨c,hc6,hci,hcr⟩:=hcells i hik;clear hrow hcells;have hcr' : wr.rangeAt kb (ko + i * 6) c:=fun j u hu => by rw [hbelr.cell (p:=⟨kb,ko + i * 6 + j,none⟩) hkb];exact hcr j u hu
              refine K.kgl ?_;refine WL.idx i (ko + i * 6) rfl rfl rfl rfl rfl rfl rfl rfl hik rfl ?_;refine WL.loadMid rfl rfl rfl rfl rfl rfl hcr' hc6 ?_;refine K.kgo ?_;refine WL.call rfl rfl rfl rfl rfl Tryz.func105 rfl (by kernel_rfl) (ih (d + 1) (hci.below hbelr) hd) ?_;rintro e w4 ⟨rfl,hb4⟩;refine ⟨_,rfl,?_⟩;have hb4' : Below w1.heap.size w1 w4:=hbr.trans (hb4.mono hbr.size)
              by_cases h0 : chk m (v.kids.getD i noV) = 0
              · refine K.kgo ?_
                refine WQ.again (i + 1) ⟨rfl,rfl,rfl,trivial⟩ ⟨hik,hb4',fun j hj => (Nat.lt_succ_iff_lt_or_eq.1 hj).elim (hall j) (fun e => by rw [e];exact h0)⟩ (by show v.kids.length - (i + 1) < v.kids.length - i;omega)
              · have hfb : chk (m + 1) v = chk m (v.kids.getD i noV):=by
                  rw [hchk,firstBad_take (i:=i) (by rw [List.length_map];exact hik) (fun j hj => by rw [chk_map m v.kids j (by omega)];exact hall j hj) (by rw [chk_map m v.kids i hik];exact h0),chk_map m v.kids i hik]
                refine K.kgo ?_;exact WQ.ret1 rfl rfl ⟨ret_i64 hfb.symm,hbel.trans (hb4'.mono hbel.size)⟩
            · obtain rfl : i = v.kids.length:=by omega
              refine K.kgl ?_;refine WQ.ret1 rfl rfl ⟨ret_i64 ?_,hbelr⟩;rw [hchk];exact (firstBad_all fun j hj => by rw [List.length_map] at hj;rw [chk_map m v.kids j hj];exact hall j hj).symm
        · have hff : fieldsB v = false:=by cases h : fieldsB v with | false => rfl | true => exact (a5 (hfi.1 h).2).elim
          refine K.kgl ?_;exact WQ.ret1 rfl rfl ⟨ret_i64 (chk_bad (shp3 hff) (by decide)).symm,hbel⟩
    · skip
      refine K.kgl ?_;exact WQ.ret1 rfl rfl (bad3 (by rw [hfc];simp [formC, *]))
  · skip
    refine K.kgl ?_;exact WQ.ret1 rfl rfl (bad3 (by rw [hfc];simp [formC, *]))
theorem rcheck_any : ∀ {f : Nat} {w : World} {v : V} {cs : List Value} (m : Nat) (d : Int),IsV f w v cs → m ≤ 16 → d = 17 - (m : Int) →
    Calls Tryz.prog 105 #[.agg cs.toArray,.int .i64 d] w fun e w' => e = .returned (.int .i64 (chk m v)) ∧ Below w.heap.size w w'
  | 0,_,_,_,_,_,h,_,_ => h.elim
  | f + 1,w,v,cs,0,d,hv,_,hd => by
    refine enter (args:=[.agg cs.toArray,.int .i64 d]) Tryz.func105 rfl Tryz.ntmps105 rfl ?_;have hd1 : 16 < d:=by omega
    refine K.kgo ?_;refine WL.box rfl rfl rfl rfl rfl fun g w1 hf => ?_;refine K.kgo ?_;exact WQ.ret1 rfl rfl ⟨rfl,hf.below⟩
  | f + 1,w,v,cs,m + 1,d,hv,hm,hd => by
    have ih:=fun {w : World} {v : V} {cs : List Value} (d : Int) (h1 : IsV f w v cs) (h2 : d = 17 - (m : Int)) => @rcheck_any f w v cs m d h1 (by omega) h2;have hd1 : d ≤ 16:=by omega
    have hd0 : 0 ≤ d:=by omega
    by_cases q1 : v.k = 1
    · exact rchk_k1 hv q1 hd1 hd0
    by_cases q2 : v.k = 2
    · exact rchk_k2 hv q2 hd1 hd0
    by_cases q3 : v.k = 3
    · exact rchk_k3 hv q3 hd1 hd0
    by_cases q4 : v.k = 4
    · exact rchk_k4 hv q4 hd1 hd0
    by_cases q5 : v.k = 5
    · exact rchk_k5 hv q5 hd1 hd0
    by_cases q67 : v.k = 6 ∨ v.k = 7
    · exact rchk_k67 hv q67 hd1 hd0
    by_cases q8 : v.k = 8
    · exact rchk_k8 ih (by omega) hv q8 hd1 hd0
    by_cases q9 : v.k = 9
    · exact rchk_k9 ih (by omega) hv q9 hd1 hd0
    exact rchk_kx hv (by omega) hd1 hd0
theorem rCheck_any {f : Nat} {w : World} {v : V} {cs : List Value} (h : IsV f w v cs) :
    Calls Tryz.prog 91 #[.agg cs.toArray] w fun e w' => e = .returned (.int .i64 (chk 16 v)) ∧ Below w.heap.size w w':=by
  refine enter (args:=[.agg cs.toArray]) Tryz.func91 rfl Tryz.ntmps91 rfl ?_;refine K.kgo ?_;refine WL.box rfl rfl rfl rfl rfl fun g w1 hf => ?_;have hf' : Fresh w g w1 48 cs:=hf;refine K.kgo ?_;refine WL.loadMid rfl rfl rfl rfl rfl rfl (VBlk.rangeAt hf'.blk) h.len ?_;refine WL.call rfl rfl rfl rfl rfl Tryz.func105 rfl (by kernel_rfl) (rcheck_any 16 1 (h.below hf'.below) (by omega) (by omega)) ?_;rintro e w2 ⟨rfl,hb2⟩;refine ⟨_,rfl,?_⟩;refine K.kgo ?_;exact WQ.ret1 rfl rfl ⟨rfl,hf'.below.trans (hb2.mono hf'.below.size)⟩
end K
namespace K
def prtK (g : V → Nat → Nat) : List V → Nat → Nat
  | [],n => n
  | k :: r,n => if n ≤ 65536 then prtK g r (g k n) else n
def prt : Nat → V → Nat → Nat
  | 0,_,n => n
  | f + 1,v,n => prtK (prt f) v.kids (n + 1 + v.t.size)
theorem prtK_enc {f m : Nat} (ih : ∀ (v : V) (n : Nat),chk m v = 0 → prt f v n ≤ n + (encV m v).length) : ∀ (l : List V) (n : Nat),(∀ x ∈ l,chk m x = 0) → prtK (prt f) l n ≤ n + (l.flatMap (encV m)).length
  | [],n,_ => by simp [prtK]
  | k :: r,n,h => by
    unfold prtK;rw [List.flatMap_cons,List.length_append]
    split
    · have h1:=ih k n (h k (by simp))
      have h2:=prtK_enc ih r (prt f k n) fun x hx => h x (List.mem_cons_of_mem _ hx);omega
    · omega
theorem pieces_ge (ky : V → List Int) (st : Bool) (names : List ByteArray) (kids : List V) : (kids.flatMap ky).length ≤ ((List.range kids.length).flatMap (pieceE ky st names kids)).length:=by
  have key : ∀ i,i ≤ kids.length → ((kids.take i).flatMap ky).length ≤ ((List.range i).flatMap (pieceE ky st names kids)).length:=by
    intro i
    induction i with
    | zero => intro _;simp
    | succ i ih =>
      intro hi;have h1:=ih (by omega);have ht : kids.take (i + 1) = kids.take i ++ [kids.getD i noV]:=by
        rw [List.take_add_one];simp [show i < kids.length by omega]
      rw [range_piece,List.length_append,ht,List.flatMap_append,List.length_append];have h2 : ([kids.getD i noV].flatMap ky).length ≤ (pieceE ky st names kids i).length:=by
        unfold pieceE;rw [List.length_append];generalize kids.getD i noV = kd;simp
      omega
  have:=key kids.length (Nat.le_refl _)
  rwa [List.take_length] at this
theorem prt_enc : ∀ (f m : Nat) (v : V) (n : Nat),chk m v = 0 → prt f v n ≤ n + (encV m v).length
  | 0,_,_,n,_ => by unfold prt;omega
  | _ + 1,0,_,_,h => by cases h
  | f + 1,m + 1,v,n,hc => by
    unfold prt;have h1:=prtK_enc (prt_enc f m) v.kids (n + 1 + v.t.size) fun x hx => chk_mem hc hx;have hbody : 1 + v.t.size + (v.kids.flatMap (encV m)).length ≤ (encV (m + 1) v).length:=by
      rcases shp_full (chk_shp hc) with ⟨h,e⟩ | ⟨h,e,_⟩ | ⟨h,e⟩ | ⟨h,e,_⟩ | ⟨h,e,_⟩ | ⟨h,e,_⟩ | ⟨h,e,_⟩ | ⟨h,e,_⟩
      all_goals rw [encV_two,List.length_cons]
      · rw [e];simp [V.t,V.kids,noT]
      · rw [e];simp [V.t,V.kids,noT]
      · rw [e];simp [V.t,V.kids,noT]
      · rw [e];simp [V.t,V.kids,noT]
      · rw [e];simp [V.t,V.kids,noT]
      · rw [if_neg (by omega),if_neg (by omega),if_neg (by omega),if_neg (by omega),if_pos h,List.length_append,byI_len]
        have : v.kids = []:=by rw [e];rfl
        rw [this];simp;omega
      · rw [if_neg (by omega),if_neg (by omega),if_neg (by omega),if_neg (by omega),if_neg (by omega),if_pos (.inl h),List.length_append]
        have ht : v.t.size = 0:=by rw [e];rfl
        have:=pieces_ge (encV m) (decide (v.k = 9)) v.names v.kids;omega
      · rw [if_neg (by omega),if_neg (by omega),if_neg (by omega),if_neg (by omega),if_neg (by omega),if_pos (.inr h),List.length_append]
        have ht : v.t.size = 0:=by rw [e];rfl
        have:=pieces_ge (encV m) (decide (v.k = 9)) v.names v.kids;omega
    omega
set_option maxHeartbeats 4000000 in
theorem parts_any : ∀ (f : Nat) {w0 w : World} {v : V} {cs : List Value} {pb n : Nat},IsV f w0 v cs → Below w0.heap.size w0 w → w0.heap.size ≤ pb → VBlk 3 w pb [.int .i64 n] → n ≤ 140737488355328 →
    Calls Tryz.prog 92 #[.agg cs.toArray,.pointer (some ⟨pb,0,none⟩)] w fun e w' => e = .returned (.bool (decide (65536 < prt f v n))) ∧ VBlk 3 w' pb [.int .i64 (prt f v n)] ∧ Keep (fun b => b < w.heap.size ∧ b ≠ pb) w w'
  | 0,_,_,_,_,_,_,h,_,_,_,_ => h.elim
  | f + 1,w0,w,v,cs,pb,n,hv,hbel,hpb,hblk,hn => by
    have ih:=@parts_any f;obtain ⟨sn,sk,rfl,-,-,-,htz,-,⟨sp,cap,rfl,hcap1,hcap2,hrow⟩⟩:=hv;have hgr : prt (f + 1) v n = prtK (prt f) v.kids (n + 1 + v.t.size):=rfl;rw [hgr];refine enter (args:=[.agg (six v sn (.slice sp v.kids.length cap)).toArray,.pointer (some ⟨pb,0,none⟩)]) Tryz.func92 rfl Tryz.ntmps92 rfl ?_;refine K.kgo ?_;refine WL.box rfl rfl rfl rfl rfl fun g w1 hf => ?_;have hf' : Fresh w g w1 48 (six v sn (.slice sp v.kids.length cap)):=hf;clear hf;have hpw:=hblk.lt;have hne : g ≠ pb:=by rw [hf'.eq];omega
    have hblk1 : VBlk 3 w1 pb [.int .i64 n]:=hblk.below hf'.below hpw;have hkeep1 : Keep (fun b => b < w.heap.size ∧ b ≠ pb) w w1:=(Keep.of_below hf'.below).mono fun _ h => h.1;refine K.kgo ?_;refine WC.drawn 10 (fun wx => VBlk 3 wx pb [.int .i64 n] ∧ VBlk 48 wx g (six v sn (.slice sp v.kids.length cap))) fun w2 hd2 => ?_;have hS : VBlk 3 w2 pb [.int .i64 n] ∧ VBlk 48 w2 g (six v sn (.slice sp v.kids.length cap)):=⟨hblk1.below (hd2.below _) hblk1.lt,hf'.blk.below (hd2.below _) hf'.blk.lt⟩;refine K.fr [0,1,2] hS ?_;refine K.wl 3 [4,8,9,10] rfl rfl rfl rfl rfl rfl rfl (fun wx hx => hx.1.cell 0 (by simp)) hS ?_;refine K.fr [4,5] hS ?_;refine K.wl 6 [7,8,9,10] rfl rfl rfl rfl rfl rfl rfl (fun wx hx => hx.2.cell 3 (by simp)) hS ?_;refine K.fr [7,8,9] hS ?_;refine K.wo 10 ?_;have e2 : (n : Int) + 1 + (v.t.size : Int) = ((n + 1 + v.t.size : Nat) : Int):=by omega
    generalize n + 1 + v.t.size = n1 at e2 ⊢;refine WL.store (v:=.int .i64 n1) rfl rfl rfl rfl (congrArg (fun z => some (Value.int .i64 z)) e2) rfl (by kernel_rfl) (hS.1.cell 0 (by simp)) (hS.1.free 0) ?_;have hb2 : VBlk 3 (w2.setCell ⟨pb,0,none⟩ (.int .i64 n1)) pb [.int .i64 n1]:=hS.1.set 0 (.int .i64 n1);have hg2 : VBlk 48 (w2.setCell ⟨pb,0,none⟩ (.int .i64 n1)) g (six v sn (.slice sp v.kids.length cap)):=hS.2.other _ _ hne;have hk2 : Keep (fun b => b < w.heap.size ∧ b ≠ pb) w (w2.setCell ⟨pb,0,none⟩ (.int .i64 n1)):=(hkeep1.trans ((Keep.of_below (hd2.below w1.heap.size)).mono fun b hb => Nat.lt_of_lt_of_le hb.1 hf'.below.size)).setCell (fun h => h.2 rfl) _;generalize w2.setCell ⟨pb,0,none⟩ (.int .i64 n1) = w3 at hb2 hg2 hk2;refine K.dl ?_;refine WD.done (by kernel_rfl) ?_;refine K.kgo ?_;generalize hRR : prtK (prt f) v.kids n1 = RR;have hgw : g < w3.heap.size:=hg2.lt;refine WC.loop (fun i : Nat => [(1,.pointer (some ⟨pb,0,none⟩)),(2,.pointer (some ⟨g,0,none⟩)),(5,.int .i64 i)])
      (fun i w' => i ≤ v.kids.length ∧ Keep (fun b => b < w3.heap.size ∧ b ≠ pb) w3 w' ∧ ∃ x : Nat,VBlk 3 w' pb [.int .i64 x] ∧ prtK (prt f) (v.kids.drop i) x = RR) (fun i => v.kids.length - i) 0
      ⟨rfl,rfl,rfl,trivial⟩ ⟨Nat.zero_le _,Keep.refl _ _,n1,hb2,hRR⟩ ?_
    rintro i wr ⟨hi,hkr,x,hbx,hx⟩;have hgr2 : VBlk 48 wr g (six v sn (.slice sp v.kids.length cap)):=hg2.keep hkr ⟨hgw,hne⟩;have hkw : Keep (fun b => b < w.heap.size ∧ b ≠ pb) w wr:=hk2.trans (hkr.mono fun b hb => ⟨Nat.lt_of_lt_of_le hb.1 hk2.size,hb.2⟩);have hlast : ∀ {wz : World} {xz : Nat},VBlk 3 wz pb [.int .i64 xz] → Keep (fun b => b < w.heap.size ∧ b ≠ pb) w wz → xz = RR → (Ending.returned (.bool (decide ((65536 : Int) < (xz : Int)))) = .returned (.bool (decide (65536 < RR))) ∧ VBlk 3 wz pb [.int .i64 (RR)] ∧ Keep (fun b => b < w.heap.size ∧ b ≠ pb) w wz) :=
      fun h1 h2 h3 => ⟨by rw [← h3];congr 2;simp only [decide_eq_decide];omega,by rw [← h3];exact h1,h2⟩
    refine K.kgo ?_;refine WL.load rfl rfl rfl rfl rfl rfl (hgr2.cell 5 (by simp)) ?_
    by_cases hik : i < v.kids.length
    · have hdr : v.kids.drop i = v.kids.getD i noV :: v.kids.drop (i + 1):=by
        rw [List.drop_eq_getElem_cons hik];simp [hik]
      rw [hdr] at hx;refine K.kgo ?_;refine WL.load rfl rfl rfl rfl rfl rfl (hbx.cell 0 (by simp)) ?_
      by_cases hx2 : x ≤ 65536
      · obtain ⟨kb,ko,rfl,hkb,hcells⟩:=hrow (by omega)
        obtain ⟨c,hc6,hci,hcr⟩:=hcells i hik;have hbelr : Below w0.heap.size w0 wr:=(hbel.trans ((hkw.mono fun b hb => ⟨Nat.lt_of_lt_of_le hb hbel.size,Nat.ne_of_lt (Nat.lt_of_lt_of_le hb hpb)⟩ : Keep (fun b => b < w0.heap.size) w wr).below));have hcr' : wr.rangeAt kb (ko + i * 6) c:=fun j u hu => by rw [hbelr.cell (p:=⟨kb,ko + i * 6 + j,none⟩) hkb];exact hcr j u hu
        unfold prtK at hx;rw [if_pos hx2] at hx;refine K.kgo ?_;refine WL.load rfl rfl rfl rfl rfl rfl (hgr2.cell 5 (by simp)) ?_;refine K.kgo ?_;refine WL.idx i (ko + i * 6) rfl rfl rfl rfl rfl rfl rfl rfl hik rfl ?_;refine WL.loadMid rfl rfl rfl rfl rfl rfl hcr' hc6 ?_;refine K.kgo ?_;refine WL.call rfl rfl rfl rfl rfl Tryz.func92 rfl (by kernel_rfl) (ih (n:=x) hci hbelr hpb hbx (by omega)) ?_;rintro e w4 ⟨rfl,hb4,hk4⟩;refine ⟨_,rfl,?_⟩;refine K.kgo ?_;exact WQ.again (i + 1) ⟨rfl,rfl,rfl,trivial⟩ ⟨hik,hkr.trans (hk4.mono fun b hb => ⟨Nat.lt_of_lt_of_le hb.1 hkr.size,hb.2⟩),_,hb4,hx⟩ (by show v.kids.length - (i + 1) < v.kids.length - i;omega)
      · unfold prtK at hx
        rw [if_neg hx2] at hx;refine K.kgo ?_;refine WL.load rfl rfl rfl rfl rfl rfl (hbx.cell 0 (by simp)) ?_;refine WL.pure rfl rfl rfl rfl ?_;refine WL.pure rfl rfl rfl rfl ?_;refine K.kgo ?_;exact WQ.ret1 rfl rfl ⟨congrArg (fun b => Ending.returned (Value.bool b)) (decide_eq_true (by omega)).symm,(hlast hbx hkw hx).2⟩
    · obtain rfl : i = v.kids.length:=by omega
      rw [List.drop_length] at hx;unfold prtK at hx;refine K.kgo ?_;refine WL.load rfl rfl rfl rfl rfl rfl (hbx.cell 0 (by simp)) ?_;refine WL.pure rfl rfl rfl rfl ?_;refine WL.pure rfl rfl rfl rfl ?_;refine K.kgo ?_;exact WQ.ret1 rfl rfl (hlast hbx hkw hx)
theorem rencode_any {f : Nat} {w : World} {v : V} {cs : List Value} (h : IsV f w v cs) (hlen : chk 16 v = 0 → (encV 16 v).length ≤ 70368744177664) :
    Calls Tryz.prog 70 #[.agg cs.toArray] w (EncPost w v):=by
  have hcs:=h.len;refine enter (args:=[.agg cs.toArray]) Tryz.func70 rfl Tryz.ntmps70 rfl ?_;refine K.kgo ?_;refine WL.box rfl rfl rfl rfl rfl fun g w1 hf => ?_;have hf' : Fresh w g w1 48 cs:=hf;clear hf;have hz1:=hf'.size;have h1:=h.below hf'.below;refine K.kgo ?_;refine WL.loadMid rfl rfl rfl rfl rfl rfl (VBlk.rangeAt hf'.blk) hcs ?_;refine WL.call rfl rfl rfl rfl rfl Tryz.func91 rfl (by kernel_rfl) (rCheck_any h1) ?_;rintro _ w2 ⟨rfl,hb2⟩;refine ⟨_,rfl,?_⟩;have hw2 : Below w.heap.size w w2:=hf'.below.trans (hb2.mono (by omega));have hblk2:=hf'.blk.below hb2 hf'.blk.lt
  by_cases hc : chk 16 v = 0
  · refine K.kgo ?_
    refine WL.alloc (z:=.int .i64 0) rfl rfl rfl rfl (fun _ => by kernel_rfl) fun pb w3 hf3 => ?_;have hf3' : Fresh w2 pb w3 3 [.int .i64 0]:=hf3;clear hf3;have hb3:=hf3'.blk;have hpb:=hf3'.eq;have hblk3:=hblk2.below hf3'.below hblk2.lt;have hgp : g ≠ pb:=by have:=hblk2.lt;omega
    refine K.kgo ?_;refine WL.store (v:=.int .i64 0) rfl rfl rfl rfl rfl rfl (by kernel_rfl) (hb3.cell 0 (by simp)) (hb3.free 0) ?_;have hb4:=hb3.set 0 (.int .i64 0);have hblk4 : VBlk 48 (w3.setCell ⟨pb,0,none⟩ (.int .i64 0)) g cs:=hblk3.other _ _ hgp;have hk4 : Below w2.heap.size w2 (w3.setCell ⟨pb,0,none⟩ (.int .i64 0)):=Keep.below ((Keep.of_below hf3'.below).setCell (fun hk => by simp only at hk;omega) _);generalize w3.setCell ⟨pb,0,none⟩ (.int .i64 0) = w4 at hb4 hblk4 hk4;simp only [List.set_cons_zero] at hb4;have hw4 : Below w.heap.size w w4:=hw2.trans (hk4.mono hw2.size);have hpw : w.heap.size ≤ pb:=by have:=hw2.size;omega
    clear hf3';refine K.kgo ?_;refine WL.loadMid rfl rfl rfl rfl rfl rfl (VBlk.rangeAt hblk4) hcs ?_;refine WL.call rfl rfl rfl rfl rfl Tryz.func92 rfl (by kernel_rfl) (parts_any (n:=0) f h hw4 hpw hb4 (by omega)) ?_;rintro _ w5 ⟨rfl,hb5,hk5⟩;refine ⟨_,rfl,?_⟩;have hw5 : Below w.heap.size w w5:=hw4.trans (Keep.below (Keep.mono hk5 fun b (hb : b < w.heap.size) => ⟨Nat.lt_of_lt_of_le hb hw4.size,by omega⟩));have hblk5:=hblk4.keep hk5 ⟨hblk4.lt,hgp⟩;have hpe:=prt_enc f 16 v 0 hc
    by_cases hp : 65536 < prt f v 0
    · have hr : encR v = ([],5):=by unfold encR;rw [if_neg (by simpa using hc),if_pos (by omega)]
      refine K.kgo ?_;exact WQ.ret2 rfl rfl rfl ⟨_,by rw [hr],by rw [hr];exact Bu.nil _,hw5,fun g hg => by cases hg⟩
    refine K.kgo ?_;refine WL.loadMid rfl rfl rfl rfl rfl rfl (VBlk.rangeAt hblk5) hcs ?_;refine WL.call rfl rfl rfl rfl rfl Tryz.func93 rfl (by kernel_rfl) (rbytes_all 16 (h.below hw5) hc (Bu.nil w5) ⟨Below.refl _ _,fun g hg => by cases hg⟩ (by have:=hlen hc;simp only [List.length_nil];omega)) ?_;rintro _ w6 ⟨b,rfl,hb,hg⟩;refine ⟨_,rfl,?_⟩;rw [List.nil_append] at hb;obtain ⟨sp,cap,rfl,hl1,hl2⟩:=hb.form;have hw6 : Below w.heap.size w w6:=hw5.trans (hg.old (B:=w.heap.size) (hw5.size) fun g h => by cases h)
    by_cases hbig : 65536 < (encV 16 v).length
    · have hr : encR v = ([],5):=by unfold encR;rw [if_neg (by simpa using hc),if_pos hbig]
      refine K.kgo ?_;exact WQ.ret2 rfl rfl rfl ⟨_,by rw [hr],by rw [hr];exact Bu.nil _,hw6,fun g hg => by cases hg⟩
    · have hr : encR v = (encV 16 v,0):=by unfold encR;rw [if_neg (by simpa using hc),if_neg hbig]
      refine K.kgo ?_;exact WQ.ret2 rfl rfl rfl ⟨_,by rw [hr],by rw [hr];exact hb,hw6,fun g h => (hg.2 g h).elim (fun h2 => by cases h2) fun h2 => by have:=hw5.size;omega⟩
  · have hr : encR v = ([],chk 16 v):=by unfold encR;rw [if_pos hc]
    refine K.kgo ?_;exact WQ.ret2 rfl rfl rfl ⟨_,by rw [hr],by rw [hr];exact Bu.nil _,hw2,fun g hg => by cases hg⟩
end K
namespace K
theorem rleaf_any {w : World} {v : Value} {l : List Int} (hv : Sl .u8 w v l) (hn : l.length ≤ 17592186044416) :
    Calls Tryz.prog 71 #[v] w fun e w' => e = .returned (.agg (hashC (Dig.sumL (0 :: l))).toArray) ∧ Below w.heap.size w w':=by
  refine enter (args:=[v]) Tryz.func71 rfl Tryz.ntmps71 rfl ?_;refine K.kgo ?_;refine WL.alloc (z:=.agg (hashC Dig.Z32).toArray) rfl rfl rfl rfl (Dig.zero25) fun g w1 hf => ?_;have hf' : Fresh w g w1 30 (hashC Dig.Z32):=hf;clear hf;have hz:=hf'.size;have he:=hf'.eq;refine K.kgo ?_;refine WL.lit rfl rfl rfl rfl rfl rfl rfl fun b2 w2 hb2 hk2 hg2 => ?_;have hw2 : Below w.heap.size w w2:=hf'.below.trans (hk2.mono (by omega));refine K.kgo ?_;refine WL.app rfl rfl rfl rfl rfl hb2 rfl (hv.of_below hw2) (by simp only [List.length_cons,List.length_nil];omega) fun b3 w3 hb3 hg3 => ?_;have hk3 : Below w1.heap.size w1 w3:=hk2.trans (hg3.old hk2.size hg2);refine WL.call rfl rfl rfl rfl rfl Tryz.func94 rfl (by kernel_rfl) (Dig.refSum_s b3 _ w3 hb3.sl (by rw [List.length_append];simp only [List.length_cons,List.length_nil];omega)) ?_;rintro _ w4 ⟨rfl,hk4⟩;refine ⟨_,rfl,?_⟩;have hk4' : Below w1.heap.size w1 w4:=hk3.trans (hk4.mono hk3.size);have B4:=hf'.blk.below hk4' hf'.blk.lt;have hlen : (hashC (Dig.sumL (0 :: l))).length = 32:=by rw [List.length_map];exact Dig.sumL_length _
  refine WL.storeRow rfl rfl rfl rfl rfl rfl B4 hlen (by rfl) (Ones.int _ _) ?_;refine K.kgo ?_;exact WQ.retC rfl rfl rfl hlen (B4.setRow _) ⟨rfl,below_setRow (hf'.below.trans (hk4'.mono (by omega))) (by omega) _⟩
end K
namespace K
theorem rhash_any {f : Nat} {w : World} {v : V} {cs : List Value} (h : IsV f w v cs) (hlen : chk 16 v = 0 → (encV 16 v).length ≤ 70368744177664) :
    Calls Tryz.prog 52 #[.agg cs.toArray] w (HashPost w v):=by
  have hcs:=h.len;refine enter (args:=[.agg cs.toArray]) Tryz.func52 rfl Tryz.ntmps52 rfl ?_;refine K.kgo ?_;refine WL.box rfl rfl rfl rfl rfl fun g w1 hf => ?_;have hf' : Fresh w g w1 48 cs:=hf;clear hf;refine WL.alloc (z:=.agg (hashC Dig.Z32).toArray) rfl rfl rfl rfl (Dig.zero25) fun g2 w2 hf2 => ?_;have hf2' : Fresh w1 g2 w2 30 (hashC Dig.Z32):=hf2;clear hf2;have hz1:=hf'.size;have hz2:=hf2'.size;have he1:=hf'.eq;have he2:=hf2'.eq;have hw2 : Below w.heap.size w w2:=hf'.below.trans (hf2'.below.mono (by omega));have B1:=hf'.blk.below hf2'.below hf'.blk.lt;refine K.kgo ?_;refine WL.loadMid rfl rfl rfl rfl rfl rfl (VBlk.rangeAt B1) hcs ?_;refine WL.call rfl rfl rfl rfl rfl Tryz.func70 rfl (by kernel_rfl) (rencode_any (h.below hw2) hlen) ?_;rintro _ w3 ⟨b,rfl,hb,hk3,-⟩;refine ⟨_,rfl,?_⟩;have hw3 : Below w.heap.size w w3:=hw2.trans (hk3.mono (by omega));have B23:=hf2'.blk.below hk3 hf2'.blk.lt;have hz3:=hk3.size
  by_cases he : (encR v).2 = 0
  · have hR : hashR v = Dig.sumL (0 :: (encR v).1):=by unfold hashR;rw [if_neg (by simpa using he)]
    have hl65:=(encR_ok he).2.1;rw [← (encR_ok he).2.2] at hl65;refine K.kgo ?_;refine WL.call rfl rfl rfl rfl rfl Tryz.func71 rfl (by kernel_rfl) (rleaf_any hb.sl (by omega)) ?_;rintro _ w4 ⟨rfl,hk4⟩;refine ⟨_,rfl,?_⟩;have hlen2 : (hashC (Dig.sumL (0 :: (encR v).1))).length = 32:=by rw [List.length_map];exact Dig.sumL_length _
    have B24:=B23.below hk4 B23.lt;refine WL.storeRow rfl rfl rfl rfl rfl rfl B24 hlen2 (by rfl) (Ones.int _ _) ?_;refine K.kgo ?_;exact WQ.retCT rfl rfl rfl rfl hlen2 (B24.setRow _) ⟨by rw [hR,he],below_setRow (hw3.trans (hk4.mono (by omega))) (by omega) _⟩
  · have hR : hashR v = Dig.Z32:=by unfold hashR;rw [if_pos he]
    refine K.kgo ?_;refine WL.build (hashC Dig.Z32) rfl rfl rfl rfl rfl (by kernel_rfl) ?_;refine K.kgo ?_;refine WL.storeRow rfl rfl rfl rfl rfl rfl B23 (by rfl) (by rfl) (Ones.int _ _) ?_;refine K.kgo ?_;exact WQ.retCT rfl rfl rfl rfl (by rfl) (B23.setRow _) ⟨by rw [hR];rfl,below_setRow hw3 (by omega) _⟩
end K
namespace K
theorem ru_any (u : Nat) (hu : u < 18446744073709551616) (w : World) :
    Calls Tryz.prog 104 #[.int .u64 u] w fun e w' => ∃ b,e = .returned b ∧ Bu w' b (uvB u) ∧ Below w.heap.size w w' ∧ ∀ g,b.ownBlock = some g → w.heap.size ≤ g:=by
  refine enter (args:=[.int .u64 u]) Tryz.func104 rfl Tryz.ntmps104 rfl ?_;refine K.kgo ?_;refine WL.call rfl rfl rfl rfl rfl Tryz.func84 rfl (by kernel_rfl) (ruvarint_any u hu w) ?_;rintro _ w2 ⟨b,rfl,h1,h2,h3⟩;refine ⟨_,rfl,?_⟩;refine K.kgo ?_;exact WQ.ret1 rfl rfl ⟨b,rfl,h1,h2,h3⟩
theorem u64_in {x : Int} (h : 0 ≤ x) (h2 : x ≤ 9223372036854775807) : IntKind.u64.wrap x = ((x.toNat : Nat) : Int):=by rw [IntKind.wrap_u64];omega
theorem u64_nat {x : Nat} (h2 : x ≤ 9223372036854775807) : IntKind.u64.wrap (x : Int) = ((x : Nat) : Int):=by rw [IntKind.wrap_u64];omega
set_option maxHeartbeats 4000000 in
theorem rBytes_any {f : Nat} {w : World} {e : En} {cs : List Value} (h : IsE f w e cs) (hf : formE e) : Calls Tryz.prog 85 #[.agg cs.toArray] w (NewBu w (layE e)):=by
  obtain ⟨dc,rfl,hv,hdl,hone,hh,hby,-,-⟩:=h;obtain ⟨hk,hta,hdo,hve,htx,hab,hae,-,-⟩:=formE_rng hf;refine enter (args:=[.agg (enC e dc).toArray]) Tryz.func85 rfl Tryz.ntmps85 rfl ?_;refine K.kgo ?_;refine WL.box rfl rfl rfl rfl rfl fun g wz hf1 => ?_;have hf1' : Fresh w g wz 52 (enC e dc):=hf1;clear hf1;have A1 : EnAt 52 g wz e dc:=⟨hf1'.blk,hdl,hh⟩;have hwz:=hf1'.below;clear hf1';have e8 : IntKind.u8.wrap e.kind = e.kind:=by rw [IntKind.wrap_u8];omega
  refine K.kgo ?_;refine WL.load rfl rfl rfl rfl rfl rfl A1.kind ?_;refine K.kgo ?_;refine WL.lit rfl rfl rfl rfl rfl rfl rfl fun b0 w0 hb0 hk0 ho0 => ?_;rw [e8] at hb0;have a0 : Apart wz w0 b0:=⟨hk0,ho0⟩;have n0 : [e.kind].length ≤ 1:=Nat.le_refl _;refine K.kgo ?_;refine WL.load rfl rfl rfl rfl rfl rfl (A1.below a0.below).table ?_;refine K.kgo ?_;refine WL.call rfl rfl rfl rfl rfl Tryz.func104 rfl (by kernel_rfl) (by rw [u64_in (x:=e.table) (by omega) (by omega)];exact ru_any e.table.toNat (by omega) w0) ?_;rintro _ x1 ⟨v1,rfl,hv1,hk1,-⟩;refine ⟨_,rfl,?_⟩;have l1:=uvB_len (e.table.toNat);refine WL.app rfl rfl rfl rfl rfl (hb0.below hk1) rfl hv1.sl (by omega) fun b1 w1 hb1 hg1 => ?_;have a1 : Apart wz w1 b1:=a0.grow (((Grow.refl w0 b0).below hk1).trans hg1);have n1 : ([e.kind] ++ uvB e.table.toNat).length ≤ 11:=by rw [List.length_append];omega
  refine K.kgo ?_;refine WL.load rfl rfl rfl rfl rfl rfl (A1.below a1.below).doc ?_;refine K.kgo ?_;refine WL.call rfl rfl rfl rfl rfl Tryz.func104 rfl (by kernel_rfl) (by rw [u64_in (x:=e.doc) (by omega) (by omega)];exact ru_any e.doc.toNat (by omega) w1) ?_;rintro _ x2 ⟨v2,rfl,hv2,hk2,-⟩;refine ⟨_,rfl,?_⟩;have l2:=uvB_len (e.doc.toNat);refine WL.app rfl rfl rfl rfl rfl (hb1.below hk2) rfl hv2.sl (by omega) fun b2 w2 hb2 hg2 => ?_;have a2 : Apart wz w2 b2:=a1.grow (((Grow.refl w1 b1).below hk2).trans hg2);have n2 : ([e.kind] ++ uvB e.table.toNat ++ uvB e.doc.toNat).length ≤ 21:=by rw [List.length_append];omega
  refine K.kgo ?_;refine WL.load rfl rfl rfl rfl rfl rfl (A1.below a2.below).ver ?_;refine K.kgo ?_;refine WL.call rfl rfl rfl rfl rfl Tryz.func104 rfl (by kernel_rfl) (by rw [u64_in (x:=e.ver) (by omega) (by omega)];exact ru_any e.ver.toNat (by omega) w2) ?_;rintro _ x3 ⟨v3,rfl,hv3,hk3,-⟩;refine ⟨_,rfl,?_⟩;have l3:=uvB_len (e.ver.toNat);refine WL.app rfl rfl rfl rfl rfl (hb2.below hk3) rfl hv3.sl (by omega) fun b3 w3 hb3 hg3 => ?_;have a3 : Apart wz w3 b3:=a2.grow (((Grow.refl w2 b2).below hk3).trans hg3);have n3 : ([e.kind] ++ uvB e.table.toNat ++ uvB e.doc.toNat ++ uvB e.ver.toNat).length ≤ 31:=by rw [List.length_append];omega
  refine K.kgo ?_;refine WL.load rfl rfl rfl rfl rfl rfl (A1.below a3.below).text ?_;refine K.kgo ?_;refine WL.call rfl rfl rfl rfl rfl Tryz.func104 rfl (by kernel_rfl) (by rw [u64_nat (x:=e.text.size) (by omega)];exact ru_any e.text.size (by omega) w3) ?_;rintro _ x4 ⟨v4,rfl,hv4,hk4,-⟩;refine ⟨_,rfl,?_⟩;have l4:=uvB_len (e.text.size);refine WL.app rfl rfl rfl rfl rfl (hb3.below hk4) rfl hv4.sl (by omega) fun b4 w4 hb4 hg4 => ?_;have a4 : Apart wz w4 b4:=a3.grow (((Grow.refl w3 b3).below hk4).trans hg4);have n4 : ([e.kind] ++ uvB e.table.toNat ++ uvB e.doc.toNat ++ uvB e.ver.toNat ++ uvB e.text.size).length ≤ 41:=by rw [List.length_append];omega
  refine K.kgo ?_;refine WL.load rfl rfl rfl rfl rfl rfl (A1.below a4.below).text ?_;refine WL.appS rfl rfl rfl rfl rfl hb4 rfl (by omega) fun b5 w5 hb5 hg5 => ?_;have a5 : Apart wz w5 b5:=a4.grow hg5;have n5 : ([e.kind] ++ uvB e.table.toNat ++ uvB e.doc.toNat ++ uvB e.ver.toNat ++ uvB e.text.size ++ bytesI e.text).length ≤ 5000:=by rw [List.length_append,bytesI_len];omega
  refine K.kgo ?_;refine WL.load rfl rfl rfl rfl rfl rfl (A1.below a5.below).ab ?_;refine K.kgo ?_;refine WL.call rfl rfl rfl rfl rfl Tryz.func104 rfl (by kernel_rfl) (by rw [u64_in (x:=e.ab) (by omega) (by omega)];exact ru_any e.ab.toNat (by omega) w5) ?_;rintro _ x6 ⟨v6,rfl,hv6,hk6,-⟩;refine ⟨_,rfl,?_⟩;have l6:=uvB_len (e.ab.toNat);refine WL.app rfl rfl rfl rfl rfl (hb5.below hk6) rfl hv6.sl (by omega) fun b6 w6 hb6 hg6 => ?_;have a6 : Apart wz w6 b6:=a5.grow (((Grow.refl w5 b5).below hk6).trans hg6);have n6 : ([e.kind] ++ uvB e.table.toNat ++ uvB e.doc.toNat ++ uvB e.ver.toNat ++ uvB e.text.size ++ bytesI e.text ++ uvB e.ab.toNat).length ≤ 5010:=by rw [List.length_append];omega
  refine K.kgo ?_;refine WL.load rfl rfl rfl rfl rfl rfl (A1.below a6.below).ae ?_;refine K.kgo ?_;refine WL.call rfl rfl rfl rfl rfl Tryz.func104 rfl (by kernel_rfl) (by rw [u64_in (x:=e.ae) (by omega) (by omega)];exact ru_any e.ae.toNat (by omega) w6) ?_;rintro _ x7 ⟨v7,rfl,hv7,hk7,-⟩;refine ⟨_,rfl,?_⟩;have l7:=uvB_len (e.ae.toNat);refine WL.app rfl rfl rfl rfl rfl (hb6.below hk7) rfl hv7.sl (by omega) fun b7 w7 hb7 hg7 => ?_;have a7 : Apart wz w7 b7:=a6.grow (((Grow.refl w6 b6).below hk7).trans hg7);have n7 : ([e.kind] ++ uvB e.table.toNat ++ uvB e.doc.toNat ++ uvB e.ver.toNat ++ uvB e.text.size ++ bytesI e.text ++ uvB e.ab.toNat ++ uvB e.ae.toNat).length ≤ 5020:=by rw [List.length_append];omega
  have hb7' : Bu w7 b7 (e.kind :: (uvB e.table.toNat ++ (uvB e.doc.toNat ++ (uvB e.ver.toNat ++ (uvB e.text.size ++ (byI e.text ++ (uvB e.ab.toNat ++ uvB e.ae.toNat))))))):=by simpa [List.append_assoc,bytesI,byI] using hb7
  have A7:=A1.below a7.below;have own : ∀ {wx : World} {bx : Value},Apart wz wx bx → Below w.heap.size w wx ∧ ∀ g,bx.ownBlock = some g → w.heap.size ≤ g:=fun h => ⟨hwz.trans (h.below.mono hwz.size),fun g hg => Nat.le_trans hwz.size (h.own g hg)⟩;refine K.kgo ?_;refine WL.load rfl rfl rfl rfl rfl rfl A7.kind ?_
  by_cases k2 : e.kind = 2
  · refine K.kgo ?_
    refine WL.all rfl rfl rfl rfl rfl rfl ?_;refine WL.app rfl rfl rfl rfl rfl hb7 rfl (hash_sl A7.hash hh A7.blk.lt) (by omega) fun b8 w8 hb8 hg8 => ?_;refine K.kgo ?_;refine WQ.ret1 rfl rfl ⟨b8,rfl,?_,own (a7.grow hg8)⟩;unfold layE;rw [if_pos k2]
    simpa [List.append_assoc,bytesI,byI] using hb8
  · refine K.kgo ?_
    refine WQ.ret1 rfl rfl ⟨b7,rfl,?_,own a7⟩;unfold layE;rw [if_neg k2,List.append_nil];exact hb7'
end K
namespace K
theorem rhead_any {f : Nat} {w : World} {b : Bk} {cs : List Value} (h : IsB f w b cs) : Calls Tryz.prog 83 #[.agg cs.toArray] w (NewBu w (headL b)):=by
  obtain ⟨se,rfl,hents,hpl,hpb,hi,ht,hx⟩:=h;refine enter (args:=[.agg (bkC b se).toArray]) Tryz.func83 rfl Tryz.ntmps83 rfl ?_;refine K.kgo ?_;refine WL.box rfl rfl rfl rfl rfl fun g w1 hf => ?_;have hf' : Fresh w g w1 33 (bkC b se):=hf;clear hf;have hw1:=hf'.below;have B1 : BkAt 33 g w1 b se:=⟨hf'.blk,hpl⟩;clear hf';refine K.kgo ?_;refine WL.load rfl rfl rfl rfl rfl rfl B1.index ?_;refine K.kgo ?_;refine WL.load rfl rfl rfl rfl rfl rfl B1.time ?_;refine K.kgo ?_;refine WL.load rfl rfl rfl rfl rfl rfl B1.txn ?_;refine WL.litV [.int .i64 b.index,.int .i64 b.time,.int .i64 b.txn] rfl rfl rfl rfl rfl rfl (by kernel_rfl) fun lg w2 hf2 => ?_;have hf2' : Fresh w1 lg w2 3 [.int .i64 b.index,.int .i64 b.time,.int .i64 b.txn]:=hf2;clear hf2;have hw2:=hf2'.below;have H2:=hf2'.blk;clear hf2';have B2:=B1.below hw2;have hN : ∃ N : List Int,N = [b.index,b.time,b.txn]:=⟨_,rfl⟩;obtain ⟨N,hN⟩:=hN;have hNg : ∀ i,i < 3 → [Value.int .i64 b.index,.int .i64 b.time,.int .i64 b.txn][i]? = some (.int .i64 (N.getD i 0)) ∧ R64 (N.getD i 0):=fun i hi => by
    rw [hN]
    match i,hi with
    | 0,_ => exact ⟨rfl,by assumption⟩
    | 1,_ => exact ⟨rfl,ht⟩
    | 2,_ => exact ⟨rfl,hx⟩
  have hpl2 : ∀ i,i ≤ 3 → ((N.take i).flatMap fun n => uvB n.toNat).length ≤ 10 * i:=fun i hi => by
    have h1:=uvB_len b.index.toNat;have h2:=uvB_len b.time.toNat;have h3:=uvB_len b.txn.toNat;rw [hN]
    match i,hi with
    | 0,_ => simp
    | 1,_ => simp;omega
    | 2,_ => simp;omega
    | 3,_ => simp only [List.take_succ_cons,List.take_zero,List.flatMap_cons,List.flatMap_nil,List.length_append,List.length_nil];omega
  refine K.kgo ?_;refine WC.loop (fun i : Nat × Value => [(1,.pointer (some ⟨g,0,none⟩)),(3,i.2),(4,.slice (some ⟨lg,0,none⟩) 3 3),(5,.int .i64 i.1)])
    (fun i wx => i.1 ≤ 3 ∧ Bu wx i.2 ((N.take i.1).flatMap fun n => uvB n.toNat) ∧ Apart w2 wx i.2) (fun i => 3 - i.1) (0,.slice none 0 0) ⟨rfl,rfl,rfl,rfl,trivial⟩ ⟨Nat.zero_le _,by simpa using Bu.nil w2,⟨Below.refl _ _,fun g hg => by cases hg⟩⟩ ?_
  rintro ⟨i,br⟩ wr ⟨hi3,hbr,har⟩;simp only at hi3 hbr har ⊢;have hpi:=hpl2 i hi3
  by_cases hik : i < 3
  · obtain ⟨hn1,hn2⟩:=hNg i hik
    have hcell : wr.cell? ⟨lg,0 + i,none⟩ = some (.int .i64 (N.getD i 0)):=VBlk.rangeAt (H2.below har.below H2.lt) i _ hn1;refine K.kgo ?_;refine WL.idx i (0 + i) rfl rfl rfl rfl rfl rfl rfl rfl hik (by omega) ?_;refine WL.load rfl rfl rfl rfl rfl rfl hcell ?_;have e:=max0 (N.getD i 0) hn2;have hul:=uvB_len (N.getD i 0).toNat;have hun : (N.getD i 0).toNat < 18446744073709551616:=by omega
    have hNl : N.length = 3:=by rw [hN];rfl
    have htk : N.take (i + 1) = N.take i ++ [N.getD i 0]:=by rw [List.take_add_one];simp [show i < N.length by omega]
    generalize N.getD i 0 = x at e hul hun htk;refine K.kgo ?_;refine WL.call rfl rfl rfl rfl rfl Tryz.func84 rfl (by kernel_rfl) (by rw [show (bif false then (if (0 : Int) > x then x else 0) else (if x > 0 then x else 0)) = (if x > 0 then x else 0) from rfl,e];exact ruvarint_any x.toNat hun wr) ?_;rintro _ w3 ⟨b3,rfl,hb3,hk3,-⟩;refine ⟨_,rfl,?_⟩;refine WL.app rfl rfl rfl rfl rfl (hbr.below hk3) rfl hb3.sl (by omega) fun b4 w4 hb4 hg4 => ?_;refine K.kgo ?_;refine WQ.again (i + 1,b4) ⟨rfl,rfl,rfl,rfl,trivial⟩ ⟨hik,?_,har.grow (((Grow.refl wr br).below hk3).trans hg4)⟩ (by show 3 - (i + 1) < 3 - i;omega)
    show Bu w4 b4 ((N.take (i + 1)).flatMap _)
    rw [htk,List.flatMap_append]
    simpa using hb4
  · obtain rfl : i = 3:=by omega
    have B3:=B2.below har.below;refine K.kgo ?_;refine WL.all rfl rfl rfl rfl rfl rfl ?_;refine WL.app rfl rfl rfl rfl rfl hbr rfl (hash_sl B3.prev hpl B3.blk.lt) (by omega) fun b4 w4 hb4 hg4 => ?_;have a4:=har.grow hg4;have hw12:=hw1.trans (hw2.mono hw1.size);refine K.kgo ?_;refine WQ.ret1 rfl rfl ⟨b4,rfl,?_,hw12.trans (a4.below.mono hw12.size),fun g hg => Nat.le_trans hw12.size (a4.own g hg)⟩;rw [hN] at hb4;unfold headL
    simpa [List.append_assoc] using hb4
set_option maxHeartbeats 8000000 in
theorem rbytes11_any {f : Nat} {w : World} {b : Bk} {cs : List Value} (data : Bool) (h : IsB f w b cs) (hck : ∀ e ∈ b.ents,chkE e = 0) (hle : b.ents.length ≤ 200) : Calls Tryz.prog 63 #[.agg cs.toArray,.bool data] w (NewBu w (layB data b)):=by
  have hall:=h;have hhs:=BkP.hashes h;have hcl:=h.len;obtain ⟨se,rfl,hents,hpl,hpb,hr⟩:=h;obtain ⟨sp,cap,rfl⟩:=hents.slice;refine enter (args:=[.agg (bkC b (.slice sp b.ents.length cap)).toArray,.bool data]) Tryz.func63 rfl Tryz.ntmps63 rfl ?_;refine K.kgo ?_;refine WL.box rfl rfl rfl rfl rfl fun g w1 hf => ?_;have hf' : Fresh w g w1 33 (bkC b (.slice sp b.ents.length cap)):=hf;clear hf;have hw1:=hf'.below;have B1 : BkAt 33 g w1 b (.slice sp b.ents.length cap):=⟨hf'.blk,hpl⟩;clear hf';have hhl : (headL b).length ≤ 70:=by
    have h1:=uvB_len b.index.toNat;have h2:=uvB_len b.time.toNat;have h3:=uvB_len b.txn.toNat;unfold headL;simp only [List.length_append];omega
  have hun:=uvB_len b.ents.length;have eK : IntKind.u64.wrap (b.ents.length : Int) = ((b.ents.length : Nat) : Int):=u64_nat (by omega);refine K.kgo ?_;refine WC.drawn 6 (fun wx => BkAt 33 g wx b (.slice sp b.ents.length cap)) fun w2 hd2 => ?_;have hS : BkAt 33 g w2 b (.slice sp b.ents.length cap):=B1.below (hd2.below _);have hd12 : Below w1.heap.size w1 w2:=hd2.below _;have hw2:=hw1.trans (hd12.mono hw1.size);refine K.wm 0 [1,6,7,8] rfl rfl rfl rfl rfl rfl rfl (fun wx hx => VBlk.rangeAt hx.blk) hcl hS ?_;refine K.fr [2] hS ?_;refine K.wl 3 [4,5,6,7,8] rfl rfl rfl rfl rfl rfl rfl (fun wx hx => hx.ents) hS ?_;refine K.fr [4,5] hS ?_;refine K.wo 1 ?_;refine WL.call rfl rfl rfl rfl rfl Tryz.func83 rfl (by kernel_rfl) (rhead_any (IsB.below hw2 hall)) ?_;rintro _ w3 ⟨b3,rfl,hb3,hk3,ho3⟩;refine ⟨_,rfl,?_⟩;refine WL.nil (WQ.dk (.inr (hS.below hk3)) ?_);refine K.wo 6 ?_;refine WL.call rfl rfl rfl rfl rfl Tryz.func84 rfl (by kernel_rfl) (by rw [eK];exact ruvarint_any b.ents.length (by omega) w3) ?_;rintro _ w4 ⟨b4,rfl,hb4,hk4,-⟩;refine ⟨_,rfl,?_⟩;refine K.dl ?_;refine K.wo 7 ?_;refine WL.app rfl rfl rfl rfl rfl (hb3.below hk4) rfl hb4.sl (by omega) fun b5 w5 hb5 hg5 => ?_;refine K.dl ?_;refine K.wo 8 ?_;refine WL.pure rfl rfl rfl rfl ?_;refine K.dl ?_;refine WD.done (by kernel_rfl) ?_;have a3 : Apart w1 w3 b3:=⟨hd12.trans (hk3.mono hd12.size),fun g hg => Nat.le_trans hd12.size (ho3 g hg)⟩;have a5 : Apart w1 w5 b5:=a3.grow (((Grow.refl w3 b3).below hk4).trans hg5);have hM : (headL b ++ uvB b.ents.length).length ≤ 80:=by rw [List.length_append];omega
  have hML : layB data b = (headL b ++ uvB b.ents.length) ++ b.ents.flatMap fun e => layE e ++ layD data e:=by unfold layB;rw [List.append_assoc]
  generalize headL b ++ uvB b.ents.length = M at hb5 hM hML;refine K.kgo ?_;refine WC.loop (fun i : Nat × Value => [(1,.bool data),(2,.pointer (some ⟨g,0,none⟩)),(5,i.2),(6,.int .i64 i.1)])
    (fun i w' => i.1 ≤ b.ents.length ∧ Bu w' i.2 (M ++ (b.ents.take i.1).flatMap fun e => layE e ++ layD data e) ∧ Apart w1 w' i.2) (fun i => b.ents.length - i.1) (0,b5) ⟨rfl,rfl,rfl,rfl,trivial⟩ ⟨Nat.zero_le _,by simpa using hb5,a5⟩ ?_
  rintro ⟨i,br⟩ wr ⟨hi,hbr,har⟩;simp only at hi hbr har ⊢;have Br:=B1.below har.below;have hwr : Below w.heap.size w wr:=hw1.trans (har.below.mono hw1.size);refine K.kgo ?_;refine WL.load rfl rfl rfl rfl rfl rfl Br.ents ?_
  by_cases hik : i < b.ents.length
  · have hlen : (M ++ (b.ents.take i).flatMap fun e => layE e ++ layD data e).length ≤ 80 + 80000 * 200:=by
      have:=layXs_len (data:=data) (b.ents.take i) fun e he => ⟨hck e (List.mem_of_mem_take he),(hhs e (List.mem_of_mem_take he)).1⟩;rw [List.length_take] at this;rw [List.length_append];have h2 : min i b.ents.length ≤ 200:=by omega
      have:=Nat.mul_le_mul_left 80000 h2;omega
    have hts:=take_snoc b.ents noE hik;obtain ⟨kb,ko,cap',cs,hse,hkb,hc46,hce,hcr⟩:=hents.at hik
    injection hse with hse1 _ hse2
    subst hse1;subst hse2;have hmem : b.ents.getD i noE ∈ b.ents:=by simp [hik]
    have hce0:=hck _ hmem;have hh32:=(hhs _ hmem).1;obtain ⟨hform,hdat⟩:=chkE_ok hce0;obtain ⟨hkd,-,-,-,htx,-⟩:=formE_rng hform;generalize b.ents.getD i noE = e at hce hce0 hh32 hform hdat hkd htx hts;generalize hLL : (M ++ (b.ents.take i).flatMap fun e => layE e ++ layD data e) = L at hbr hlen;have hle:=layE_len e hh32;have again : ∀ {wx : World} {bx : Value},Bu wx bx (L ++ (layE e ++ layD data e)) → Apart w1 wx bx → Bu wx bx (M ++ (b.ents.take (i + 1)).flatMap fun e => layE e ++ layD data e) ∧ Apart w1 wx bx:=fun {wx bx} h1 h2 => by
      rw [hts,List.flatMap_append,← List.append_assoc,hLL];exact ⟨by simpa using h1,h2⟩
    have hone:=hce.one;have hce':=hce;obtain ⟨dc,rfl,hv,hdl,-,hh,-⟩:=hce;refine K.kgo ?_;refine WL.load rfl rfl rfl rfl rfl rfl Br.ents ?_;refine K.kgo ?_;refine WL.idx i (ko + i * 46) rfl rfl rfl rfl rfl rfl rfl rfl hik rfl ?_;refine WL.loadMid rfl rfl rfl rfl rfl rfl (fun j u hu => (hwr.cell (p:=⟨kb,ko + i * 46 + j,none⟩) hkb).trans (hcr j u hu)) hc46 ?_;refine WL.alloc (z:=.agg (enC noE zCells).toArray) rfl rfl rfl rfl (fun _ => by kernel_rfl) fun c w5 hf5 => ?_;have hf5' : Fresh wr c w5 52 (enC noE zCells):=hf5;clear hf5;refine K.kgo ?_;refine WL.storeRow rfl rfl rfl rfl rfl rfl hf5'.blk hc46 (by rfl) hone ?_;have hk6 : Below wr.heap.size wr (w5.setRow c (enC e dc).toArray):=below_setRow hf5'.below (by rw [hf5'.eq];exact Nat.le_refl _) _;have C6 : EnAt 52 c (w5.setRow c (enC e dc).toArray) e dc:=⟨hf5'.blk.setRow _,hdl,hh⟩;have hce5:=hf5'.eq;generalize w5.setRow c (enC e dc).toArray = w6 at hk6 C6;clear hf5';have hw6:=hwr.trans (hk6.mono hwr.size);have hb6:=hbr.below hk6;have a6 : Apart w1 w6 br:=har.grow ((Grow.refl wr br).below hk6);refine K.kgo ?_;refine WL.loadMid rfl rfl rfl rfl rfl rfl (VBlk.rangeAt C6.blk) hc46 ?_;refine WL.call rfl rfl rfl rfl rfl Tryz.func85 rfl (by kernel_rfl) (rBytes_any (IsE.below hw6 hce') hform) ?_;rintro _ w7 ⟨b7,rfl,hb7,hk7,ho7⟩;refine ⟨_,rfl,?_⟩;have C7:=C6.below hk7;have hcw7:=C7.blk.lt;refine WL.app rfl rfl rfl rfl rfl (hb6.below hk7) rfl hb7.sl (by omega) fun b8 w8 hb8 hg8 => ?_;have a8 : Apart w1 w8 b8:=a6.grow (((Grow.refl w6 br).below hk7).trans hg8);have hbo : br.ownBlock ≠ some c:=fun e => by have:=hbr.lt _ e;omega
    have C8 : EnAt 52 c w8 e dc:=C7.keep hg8.1 ⟨hcw7,hbo⟩;have n8 : (L ++ layE e).length ≤ 16100000:=by rw [List.length_append];omega
    have hw8 : Below w.heap.size w w8:=hw1.trans (a8.below.mono hw1.size);refine K.kgo ?_;refine WL.load rfl rfl rfl rfl rfl rfl C8.kind ?_
    by_cases k2 : e.kind = 2
    rotate_left
    · have hX : layD data e = []:=by unfold layD;rw [if_neg k2]
      refine K.kgo ?_;exact WQ.again (i + 1,b8) ⟨rfl,rfl,rfl,rfl,trivial⟩ ⟨hik,again (by rw [hX,List.append_nil];exact hb8) a8⟩ (by show b.ents.length - (i + 1) < b.ents.length - i;omega)
    refine K.kgo ?_;refine WL.load rfl rfl rfl rfl rfl rfl C8.gone ?_
    by_cases hgd : e.gone = true ∨ data = false
    · have hX : layD data e = [0]:=by unfold layD;rw [if_pos k2,if_pos hgd]
      have hcase : e.gone = true ∨ (e.gone = false ∧ data = false):=by
        cases hq : e.gone with
        | true => exact .inl rfl
        | false => exact .inr ⟨rfl,hgd.resolve_left (by rw [hq];simp)⟩
      rcases hcase with hq | ⟨hq,hdf⟩
      · rw [hq]
        refine K.kgo ?_;refine WL.push rfl rfl rfl rfl rfl rfl rfl rfl rfl rfl rfl (fun _ => rfl) rfl hb8 (by simp only [List.length_cons,List.length_nil];omega) fun b9 w9 hb9 g9 => ?_;refine K.kgo ?_;exact WQ.again (i + 1,b9) ⟨rfl,rfl,rfl,rfl,trivial⟩ ⟨hik,again (by rw [hX,← List.append_assoc];exact hb9) (a8.grow g9)⟩ (by show b.ents.length - (i + 1) < b.ents.length - i;omega)
      · rw [hq]
        subst hdf;refine K.kgo ?_;refine WL.push rfl rfl rfl rfl rfl rfl rfl rfl rfl rfl rfl (fun _ => rfl) rfl hb8 (by simp only [List.length_cons,List.length_nil];omega) fun b9 w9 hb9 g9 => ?_;refine K.kgo ?_;exact WQ.again (i + 1,b9) ⟨rfl,rfl,rfl,rfl,trivial⟩ ⟨hik,again (by rw [hX,← List.append_assoc];exact hb9) (a8.grow g9)⟩ (by show b.ents.length - (i + 1) < b.ents.length - i;omega)
    · have hgf : e.gone = false:=by cases hq : e.gone with
        | true => exact absurd (.inl hq) hgd
        | false => rfl
      obtain rfl : data = true:=by cases data with
        | true => rfl
        | false => exact absurd (.inr rfl) hgd
      have hX : layD true e = 1 :: (uvB (encR e.data).1.length ++ (encR e.data).1):=by unfold layD;rw [if_pos k2,if_neg hgd]
      obtain ⟨he,-⟩:=hdat k2 hgf;obtain ⟨hc,hl65,hx⟩:=encR_ok he;have hun:=uvB_len (encR e.data).1.length;rw [← hx] at hl65;rw [hgf];refine K.kgo ?_;refine WL.loadMid rfl rfl rfl rfl rfl rfl C8.data hdl ?_;refine WL.call rfl rfl rfl rfl rfl Tryz.func70 rfl (by kernel_rfl) (rencode_any (hv.below hw8) fun _ => by rw [← hx];omega) ?_;rintro _ w9 ⟨b9,rfl,hb9,hk9,ho9⟩;refine ⟨_,rfl,?_⟩;obtain ⟨sp9,cap9,rfl,-⟩:=hb9.form;have hb89:=hb8.below hk9;have a9 : Apart w1 w9 b8:=a8.grow ((Grow.refl w8 b8).below hk9);refine K.kgo ?_;refine WL.push rfl rfl rfl rfl rfl rfl rfl rfl rfl rfl rfl (fun _ => rfl) rfl hb89 (by simp only [List.length_cons,List.length_nil];omega) fun b10 w10 hb10 g10 => ?_;have n10 : ((L ++ layE e) ++ [1]).length ≤ 16100001:=by rw [List.length_append];simp only [List.length_cons,List.length_nil];omega
      refine K.kgo ?_;refine WL.call rfl rfl rfl rfl rfl Tryz.func84 rfl (by kernel_rfl) (by rw [u64_nat (x:=(encR e.data).1.length) (by omega)];exact ruvarint_any (encR e.data).1.length (by omega) w10) ?_;rintro _ w11 ⟨b11,rfl,hb11,hk11,-⟩;refine ⟨_,rfl,?_⟩;refine WL.app rfl rfl rfl rfl rfl (hb10.below hk11) rfl hb11.sl (by omega) fun b12 w12 hb12 g12 => ?_;have g11 : Grow w10 b10 w11 b10:=(Grow.refl w10 b10).below hk11;have hgall : Grow w9 b8 w12 b12:=g10.trans (g11.trans g12);have hs12 : Sl .u8 w12 (.slice sp9 (encR e.data).1.length cap9) (encR e.data).1:=hb9.sl.keep hgall.1 fun b o n c hb hlt => ⟨hlt,fun e1 => by
        injection hb with hb1 _ _
        have h1:=ho9 b (by rw [hb1];rfl);have h2:=hb8.lt _ e1;omega⟩
      have n12 : (((L ++ layE e) ++ [1]) ++ uvB (encR e.data).1.length).length ≤ 16100011:=by rw [List.length_append];omega
      refine K.kgo ?_;refine WL.app rfl rfl rfl rfl rfl hb12 rfl hs12 (by omega) fun b13 w13 hb13 g13 => ?_;refine K.kgo ?_;exact WQ.again (i + 1,b13) ⟨rfl,rfl,rfl,rfl,trivial⟩ ⟨hik,again (by rw [hX];simpa [List.append_assoc] using hb13) (a9.grow (hgall.trans g13))⟩ (by show b.ents.length - (i + 1) < b.ents.length - i;omega)
  · obtain rfl : i = b.ents.length:=by omega
    rw [List.take_length] at hbr;refine K.kgo ?_;refine WQ.ret1 rfl rfl ⟨br,rfl,?_,hwr,fun g hg => Nat.le_trans hw1.size (har.own g hg)⟩;rw [hML];exact hbr
end K
namespace K
theorem rmay_any {f : Nat} {w : World} {e : En} {cs : List Value} (h : IsE f w e cs) (hlen : chk 16 e.data = 0 → (encV 16 e.data).length ≤ 70368744177664) :
    Calls Tryz.prog 62 #[.agg cs.toArray] w fun r w' => r = .returned (.int .i64 (chkE e)) ∧ Below w.heap.size w w':=by
  obtain ⟨dc,rfl,hv,hdl,hone,hh,hby,htx,hr⟩:=h;have hall : EnP (IsV f w) e (enC e dc):=⟨dc,rfl,hv,hdl,hone,hh,hby,htx,hr⟩;refine enter (args:=[.agg (enC e dc).toArray]) Tryz.func62 rfl Tryz.ntmps62 rfl ?_;refine K.kgo ?_;refine WL.box rfl rfl rfl rfl rfl fun g w1 hf => ?_;have hf' : Fresh w g w1 52 (enC e dc):=hf;clear hf;have B1 : EnAt _ g w1 e dc:=⟨hf'.blk,hdl,hh⟩;have hw1:=hf'.below;clear hf';refine K.kgo ?_;refine WL.loadMid rfl rfl rfl rfl rfl rfl (VBlk.rangeAt B1.blk) B1.len ?_;refine WL.call rfl rfl rfl rfl rfl Tryz.func82 rfl (by kernel_rfl) (rform_any (IsE.below hw1 hall)) ?_;rintro _ w2 ⟨⟨b,rfl,hb⟩,hk2⟩;refine ⟨_,rfl,?_⟩;have hw2:=hw1.trans (hk2.mono hw1.size);have B2:=B1.below hk2;cases b with
  | false =>
    have hf : ¬ formE e:=fun h => by have:=hb.2 h;cases this
    refine K.kgo ?_;exact WQ.ret1 rfl rfl ⟨by unfold chkE;rw [if_neg hf],hw2⟩
  | true =>
    have hf:=hb.1 rfl;refine K.kgo ?_;refine WL.load rfl rfl rfl rfl rfl rfl B2.kind ?_
    by_cases k2 : e.kind = 2
    rotate_left
    · refine K.kgo ?_
      exact WQ.ret1 rfl rfl ⟨by unfold chkE;rw [if_pos hf,if_pos (.inl k2)],hw2⟩
    refine K.kgo ?_;refine WL.load rfl rfl rfl rfl rfl rfl B2.gone ?_;cases hg : e.gone with
    | true =>
      refine K.kgo ?_;exact WQ.ret1 rfl rfl ⟨by unfold chkE;rw [if_pos hf,if_pos (.inr hg)],hw2⟩
    | false =>
      have hc0 : chkE e = if (encR e.data).2 ≠ 0 then (encR e.data).2 else if hashR e.data = e.hash then 0 else 18:=by unfold chkE;rw [if_pos hf,if_neg (by simp [k2,hg])]
      refine K.kgo ?_;refine WL.loadMid rfl rfl rfl rfl rfl rfl B2.data hdl ?_;refine WL.call rfl rfl rfl rfl rfl Tryz.func52 rfl (by kernel_rfl) (rhash_any (hv.below hw2) hlen) ?_;rintro _ w3 ⟨rfl,hk3⟩;refine ⟨_,rfl,?_⟩;have hw3:=hw2.trans (hk3.mono hw2.size);have B3:=B2.below hk3;have hhl : (hashC (hashR e.data)).length = 32:=by rw [List.length_map];exact hashR_len _
      refine K.kgo ?_;refine WL.alloc (z:=.agg (hashC Dig.Z32).toArray) rfl rfl rfl rfl (Dig.zero25) fun c w4 hf4 => ?_;have hf4' : Fresh w3 c w4 30 (hashC Dig.Z32):=hf4;clear hf4;refine WL.storeRow rfl rfl rfl rfl rfl rfl hf4'.blk hhl (by rfl) (Ones.int _ _) ?_;have hk5 : Below w3.heap.size w3 (w4.setRow c (hashC (hashR e.data)).toArray):=below_setRow hf4'.below (by rw [hf4'.eq];exact Nat.le_refl _) _;have H5 : VBlk 30 (w4.setRow c (hashC (hashR e.data)).toArray) c (hashC (hashR e.data)):=hf4'.blk.setRow _;generalize w4.setRow c (hashC (hashR e.data)).toArray = w5 at hk5 H5;have hw5:=hw3.trans (hk5.mono hw3.size);have B5:=B3.below hk5;clear hf4'
      by_cases he : (encR e.data).2 = 0
      rotate_left
      · refine K.kgo ?_
        exact WQ.ret1 rfl rfl ⟨by rw [hc0,if_pos he];rfl,hw5⟩
      rw [if_neg (by simpa using he)] at hc0;refine K.kgo ?_;refine WL.loadMid rfl rfl rfl rfl rfl rfl (VBlk.rangeAt H5) hhl ?_;refine K.kgo ?_;refine WL.loadMid rfl rfl rfl rfl rfl rfl B5.hash (by rw [List.length_map];exact hh) ?_;refine WL.neqH rfl rfl rfl rfl rfl rfl (hashR_len _) hh ?_
      by_cases hq : hashR e.data = e.hash
      · refine WL.as 27 (.bool false) rfl (congrArg Value.bool (by simp [hq])) ?_
        refine K.kgo ?_;exact WQ.ret1 rfl rfl ⟨by rw [hc0,if_pos hq],hw5⟩
      · refine WL.as 27 (.bool true) rfl (congrArg Value.bool (by simp [hq])) ?_
        refine K.kgo ?_;exact WQ.ret1 rfl rfl ⟨by rw [hc0,if_neg hq],hw5⟩
set_option maxHeartbeats 4000000 in
theorem rcheck11_any {f : Nat} {w : World} {b : Bk} {cs : List Value} (h : IsB f w b cs) (hlen : ∀ e ∈ b.ents,chk 16 e.data = 0 → (encV 16 e.data).length ≤ 70368744177664) : Calls Tryz.prog 33 #[.agg cs.toArray] w fun r w' => r = .returned (.int .i64 (chkB b)) ∧ Below w.heap.size w w':=by
  have hall:=h;have hcl:=h.len;obtain ⟨se,rfl,hents,hpl,hpb,hi,ht,hx⟩:=h;obtain ⟨sp,cap,rfl⟩:=hents.slice;refine enter (args:=[.agg (bkC b (.slice sp b.ents.length cap)).toArray]) Tryz.func33 rfl Tryz.ntmps33 rfl ?_;refine K.kgo ?_;refine WL.box rfl rfl rfl rfl rfl fun g w1 hf => ?_;have hf' : Fresh w g w1 33 (bkC b (.slice sp b.ents.length cap)):=hf;clear hf;have hw1:=hf'.below;have B1 : BkAt 33 g w1 b (.slice sp b.ents.length cap):=⟨hf'.blk,hpl⟩;clear hf';have bad : ¬ ((0 ≤ b.index ∧ b.index ≤ 2147483648) ∧ (0 ≤ b.time ∧ b.time ≤ 9007199254740992) ∧ (0 ≤ b.txn ∧ b.txn ≤ 9007199254740992) ∧ (1 ≤ b.ents.length ∧ b.ents.length ≤ 200)) → Ending.returned (Value.int .i64 1) = .returned (.int .i64 (chkB b)):=fun h => by unfold chkB;rw [if_neg h]
  refine K.kgo ?_;refine WL.load rfl rfl rfl rfl rfl rfl B1.index ?_;refine WL.call rfl rfl rfl rfl rfl Tryz.func61 rfl (by kernel_rfl) (rin_any _ _ _ _) ?_;rintro _ w1 ⟨rfl,rfl⟩;refine ⟨_,rfl,?_⟩
  by_cases c1 : 0 ≤ b.index ∧ b.index ≤ 2147483648
  rotate_left
  · refine WL.as 7 (.bool false) rfl (congrArg Value.bool (decide_eq_false c1)) ?_
    refine K.kgo ?_;exact WQ.ret1 rfl rfl ⟨bad fun h => c1 h.1,hw1⟩
  refine WL.as 7 (.bool true) rfl (congrArg Value.bool (decide_eq_true c1)) ?_;refine K.kgo ?_;refine WL.load rfl rfl rfl rfl rfl rfl B1.time ?_;refine WL.on rfl rfl ?_;refine WL.call rfl rfl rfl rfl rfl Tryz.func61 rfl (by kernel_rfl) (rin_any _ _ _ _) ?_;rintro _ w1 ⟨rfl,rfl⟩;refine ⟨_,rfl,?_⟩
  by_cases c2 : 0 ≤ b.time ∧ b.time ≤ 9007199254740992
  rotate_left
  · refine WL.as 12 (.bool false) rfl (congrArg Value.bool (decide_eq_false c2)) ?_
    refine K.kgo ?_;exact WQ.ret1 rfl rfl ⟨bad fun h => c2 h.2.1,hw1⟩
  refine WL.as 12 (.bool true) rfl (congrArg Value.bool (decide_eq_true c2)) ?_;refine K.kgo ?_;refine WL.load rfl rfl rfl rfl rfl rfl B1.txn ?_;refine WL.on rfl rfl ?_;refine WL.call rfl rfl rfl rfl rfl Tryz.func61 rfl (by kernel_rfl) (rin_any _ _ _ _) ?_;rintro _ w1 ⟨rfl,rfl⟩;refine ⟨_,rfl,?_⟩
  by_cases c3 : 0 ≤ b.txn ∧ b.txn ≤ 9007199254740992
  rotate_left
  · refine WL.as 18 (.bool false) rfl (congrArg Value.bool (decide_eq_false c3)) ?_
    refine K.kgo ?_;exact WQ.ret1 rfl rfl ⟨bad fun h => c3 h.2.2.1,hw1⟩
  refine WL.as 18 (.bool true) rfl (congrArg Value.bool (decide_eq_true c3)) ?_;refine K.kgo ?_;refine WL.load rfl rfl rfl rfl rfl rfl B1.ents ?_;refine K.kgo ?_;refine WL.call rfl rfl rfl rfl rfl Tryz.func61 rfl (by kernel_rfl) (rin_any _ _ _ _) ?_;rintro _ w1 ⟨rfl,rfl⟩;refine ⟨_,rfl,?_⟩
  by_cases c4 : (1 : Int) ≤ (b.ents.length : Int) ∧ (b.ents.length : Int) ≤ 200
  rotate_left
  · refine WL.as 25 (.bool false) rfl (congrArg Value.bool (decide_eq_false c4)) ?_
    refine K.kgo ?_;exact WQ.ret1 rfl rfl ⟨bad fun h => c4 (by omega),hw1⟩
  refine WL.as 25 (.bool true) rfl (congrArg Value.bool (decide_eq_true c4)) ?_;have hgood : chkB b = if firstBad (b.ents.map chkE) ≠ 0 then firstBad (b.ents.map chkE) else if 262144 < (layB true b).length then 5 else 0:=by unfold chkB;rw [if_pos ⟨c1,c2,c3,by omega⟩]
  have hmap : ∀ j,j < b.ents.length → (b.ents.map chkE).getD j 0 = chkE (b.ents.getD j noE):=fun j hj => by simp [hj]
  refine K.kgo ?_;refine WC.loop (fun i : Nat => [(1,.pointer (some ⟨g,0,none⟩)),(3,.int .i64 i)])
    (fun i w' => i ≤ b.ents.length ∧ Below w1.heap.size w1 w' ∧ ∀ j,j < i → chkE (b.ents.getD j noE) = 0) (fun i => b.ents.length - i) 0 ⟨rfl,rfl,trivial⟩ ⟨Nat.zero_le _,Below.refl _ _,fun j hj => by omega⟩ ?_
  rintro i wr ⟨hi,hbr,hz⟩;have hwr : Below w.heap.size w wr:=hw1.trans (hbr.mono hw1.size);have Br:=B1.below hbr;refine K.kgo ?_;refine WL.load rfl rfl rfl rfl rfl rfl Br.ents ?_
  by_cases hik : i < b.ents.length
  · obtain ⟨kb,ko,cap',cs,hse,hkb,hc46,hce,hcr⟩:=hents.at hik
    injection hse with hse1 _ hse2
    subst hse1;subst hse2;have hmem : b.ents.getD i noE ∈ b.ents:=by simp [hik]
    have hl:=hlen _ hmem;have hmi:=hmap i hik;refine K.kgo ?_;refine WL.load rfl rfl rfl rfl rfl rfl Br.ents ?_;refine K.kgo ?_;refine WL.idx i (ko + i * 46) rfl rfl rfl rfl rfl rfl rfl rfl hik rfl ?_;refine WL.loadMid rfl rfl rfl rfl rfl rfl (fun j u hu => (hwr.cell (p:=⟨kb,ko + i * 46 + j,none⟩) hkb).trans (hcr j u hu)) hc46 ?_;refine WL.call rfl rfl rfl rfl rfl Tryz.func62 rfl (by kernel_rfl) (rmay_any (IsE.below hwr hce) hl) ?_;rintro _ w7 ⟨rfl,hk7⟩;refine ⟨_,rfl,?_⟩;have hw7:=hwr.trans (hk7.mono hwr.size)
    by_cases hc : chkE (b.ents.getD i noE) = 0
    · refine K.kgo ?_
      refine WQ.again (i + 1) ⟨rfl,rfl,trivial⟩ ⟨hik,hbr.trans (hk7.mono hbr.size),fun j hj => ?_⟩ (by show b.ents.length - (i + 1) < b.ents.length - i;omega);rcases Nat.lt_or_ge j i with h | h
      · exact hz j h
      · obtain rfl : j = i:=by omega
        exact hc
    · have hfb : firstBad (b.ents.map chkE) = chkE (b.ents.getD i noE):=by
        rw [← hmi];exact firstBad_take (by simpa using hik) (fun j hj => by rw [hmap j (by omega)];exact hz j hj) (by rw [hmi];exact hc)
      refine K.kgo ?_;exact WQ.ret1 rfl rfl ⟨by rw [hgood,hfb,if_pos hc],hw7⟩
  · obtain rfl : i = b.ents.length:=by omega
    have hfb : firstBad (b.ents.map chkE) = 0:=firstBad_all fun j hj => by
      rw [List.length_map] at hj;rw [hmap j hj];exact hz j hj
    have hck : ∀ e ∈ b.ents,chkE e = 0:=fun e he => firstBad_zero.1 hfb _ (List.mem_map_of_mem he);rw [if_neg (by simpa using hfb)] at hgood;refine K.kgo ?_;refine WL.loadMid rfl rfl rfl rfl rfl rfl (VBlk.rangeAt Br.blk) hcl ?_;refine WL.call rfl rfl rfl rfl rfl Tryz.func63 rfl (by kernel_rfl) (rbytes11_any true (IsB.below hwr hall) hck (by omega)) ?_;rintro _ w8 ⟨b8,rfl,hb8,hk8,-⟩;refine ⟨_,rfl,?_⟩;obtain ⟨sp8,cap8,rfl,-⟩:=hb8.form;have hw8:=hwr.trans (hk8.mono hwr.size)
    by_cases hbig : 262144 < (layB true b).length
    · refine K.kgo ?_
      exact WQ.ret1 rfl rfl ⟨by rw [hgood,if_pos hbig],hw8⟩
    · refine K.kgo ?_
      exact WQ.ret1 rfl rfl ⟨by rw [hgood,if_neg hbig],hw8⟩
end K
open Go.Maps
namespace Vw
open K
set_option maxRecDepth 100000
def copyRed (L : List Rw) (f : Int × Int → Bool) : Int × Int → Bool:=fun a => f a && L.any fun r => decide (r.adr = a)
theorem copyRed_nil (f : Int × Int → Bool) : copyRed [] f = fun _ => false:=by funext a;simp [copyRed]
theorem copyRed_take {L : List Rw} {f : Int × Int → Bool} {i : Nat} (hi : i < L.length) : copyRed (L.take (i + 1)) f = if f (L.getD i noR).adr = true then redP (copyRed (L.take i) f) (L.getD i noR).adr else copyRed (L.take i) f:=by
  funext a
  unfold copyRed redP;rw [List.take_add_one,List.getElem?_eq_getElem hi,getD_lt hi,List.any_append];simp only [Option.toList_some,List.any_cons,List.any_nil,Bool.or_false]
  by_cases e : a = L[i].adr
  · subst e
    cases hf : f L[i].adr with
    | true => rw [if_pos rfl,if_pos rfl];simp
    | false => rw [if_neg (by simp)];simp [hf]
  · have e' : ¬ L[i].adr = a:=fun q => e q.symm
    rw [decide_eq_false e',Bool.or_false]
    by_cases hf : f L[i].adr = true
    · rw [if_pos hf,if_neg e]
    · rw [if_neg hf]
theorem redF_none : redF (fun _ => false) = fun _ => none:=by funext a;rfl
theorem builtAd (a b : Int) : Tryz.prog.built adT [(0,.int .i64 a),(1,.int .i64 b)] = some [Value.int .i64 a,.int .i64 b].toArray:=by kernel_rfl
theorem builtRv (p : Addr) (sp : Option Addr) (n c mb : Nat) (x : Int) : Tryz.prog.built rvT [(0,.pointer (some p)),(1,.slice sp n c),(2,.int .i64 x),(3,.map (some mb))] = some [Value.pointer (some p),.slice sp n c,.int .i64 x,.map (some mb)].toArray:=by kernel_rfl
theorem builtRvNew (p : Addr) (mb : Nat) : Tryz.prog.built rvT [(0,.pointer (some p)),(3,.map (some mb))] = some [Value.pointer (some p),.slice none 0 0,.int .i64 0,.map (some mb)].toArray:=by kernel_rfl
theorem ones2 {a b : Int} : Ones [Value.int .i64 a,.int .i64 b]:=fun u hu => by simp at hu;rcases hu with rfl | rfl <;> rfl
theorem rnew_any {w : World} {f : Nat} : Calls Tryz.prog 11 #[] w fun e w' => ∃ rb M,e = .returned (.pointer (some ⟨rb,0,none⟩)) ∧ RVs w' rb M (fun _ => False) f st0 0 ∧ Below w.heap.size w w' ∧ ∀ b,M b → w.heap.size ≤ b:=by
  refine enter (args:=[]) Tryz.func11 rfl Tryz.ntmps11 rfl ?_;refine K.kgo ?_;refine WL.build [Value.slice none 0 0] rfl rfl rfl rfl rfl Cr.builtRC ?_;refine WL.box rfl rfl rfl rfl rfl fun cp w1 f1 => ?_;have b1:=f1.below;refine WL.mkMap rfl rfl rfl rfl ?_;have hm:=MF.made Tryz.prog adT mk2 w1;have b2 : Below w1.heap.size w1 (w1.alloc (.map #[] 0)):=(Below.refl _ w1).alloc (Nat.le_refl _) _;have z2 : (w1.alloc (.map #[] 0)).heap.size = w1.heap.size + 1:=by show (w1.heap.push _).size = _;simp
  obtain ⟨mb,hmb⟩ : ∃ mb,mb = w1.heap.size:=⟨_,rfl⟩;rw [← hmb] at hm ⊢;generalize w1.alloc (.map #[] 0) = w2 at hm b2 z2 ⊢;refine WL.build [Value.pointer (some ⟨cp,0,none⟩),.slice none 0 0,.int .i64 0,.map (some mb)] rfl rfl rfl rfl rfl (builtRvNew _ _) ?_;refine WL.box rfl rfl rfl rfl rfl fun rb w3 f3 => ?_;refine K.kgo ?_;have e1:=f1.eq;have s1:=f1.size;have e3:=f3.eq;have s3:=f3.size;have v1 : VBlk Cr.rcT w3 cp [Value.slice none 0 0]:=VBlk.below (VBlk.below f1.blk b2 f1.blk.lt) f3.below (by omega);have hc : Cr.RCat w3 cp (fun b => b = cp) []:=⟨.slice none 0 0,[],v1,OwnV.nil _ _ _ _,fun i hi => absurd hi (Nat.not_lt_zero i),rfl,fun b hb => by omega,⟨by simp,fun i hi => absurd hi (Nat.not_lt_zero i)⟩⟩;refine WQ.ret1 rfl rfl ⟨rb,fun b => b = cp ∨ b = mb ∨ b = rb,rfl,⟨cp,fun b => b = cp,.slice none 0 0,mb,0,f3.blk,hc,K.OwnE.nil _ _ _ _ _ _,?_,.inr (.inr rfl),.inr (.inl rfl),fun b hb => .inl hb,(show ¬ rb = cp by omega),(show ¬ mb = cp by omega),(fun g hg => by cases hg),?_,(fun _ _ h => h),(fun r hr => by cases hr),⟨Nat.le_refl _,Nat.le_refl _,Nat.le_refl _,by omega⟩⟩,(b1.trans (b2.mono b1.size)).trans (f3.below.mono (by omega)),fun b hb => by omega⟩
  · show MF Tryz.prog adT mk2 w3 mb 0 (redF fun _ => false)
    rw [redF_none];exact hm.below f3.below (by omega)
  · rintro b ((hb | hb | hb) | hb)
    · omega
    · omega
    · omega
    · exact hb.elim
set_option maxHeartbeats 8000000 in
theorem rcopy_any {w : World} {rb : Nat} {M D : Nat → Prop} {f : Nat} {s : St} {N : Nat} (h0 : RVs w rb M D f s N) :
    Calls Tryz.prog 28 #[.pointer (some ⟨rb,0,none⟩)] w fun e w' => ∃ rb' M',e = .returned (.pointer (some ⟨rb',0,none⟩)) ∧ RVs w' rb' M' D f { s with red:=copyRed s.rows s.red } N ∧ Below w.heap.size w w' ∧ ∀ b,M' b → w.heap.size ≤ b:=by
  obtain ⟨cp,Oc,rv,mb,kc,h⟩:=h0;have hel:=own_els h.rows;obtain ⟨sp,cap,rfl,-⟩:=id hel;have lrb:=h.lt rb (.inl h.mrb);have c0:=h.vb.cell 0 (by simp);have c1:=h.vb.cell 1 (by simp);have c2:=h.vb.cell 2 (by simp);have c3:=h.vb.cell 3 (by simp);simp only [List.getD_cons_succ,List.getD_cons_zero] at c0 c1 c2 c3;have hok:=h.ok;refine enter (args:=[.pointer (some ⟨rb,0,none⟩)]) Tryz.func28 rfl Tryz.ntmps28 rfl ?_;refine K.kgo ?_;refine WL.mkMap rfl rfl rfl rfl ?_;have hm:=MF.made Tryz.prog adT mk2 w;have b1 : Below w.heap.size w (w.alloc (.map #[] 0)):=(Below.refl _ w).alloc (Nat.le_refl _) _;have z1 : (w.alloc (.map #[] 0)).heap.size = w.heap.size + 1:=by show (w.heap.push _).size = _;simp
  obtain ⟨mn,hmn⟩ : ∃ mn,mn = w.heap.size:=⟨_,rfl⟩;rw [← hmn] at hm ⊢;generalize w.alloc (.map #[] 0) = w1 at hm b1 z1 ⊢;refine K.kgo ?_;refine WC.loop (fun i : Nat => [(0,.pointer (some ⟨rb,0,none⟩)),(3,.map (some mn)),(4,.int .i64 i)]) (fun i w' => i ≤ s.rows.length ∧ Below w.heap.size w w' ∧ mn < w'.heap.size ∧ MF Tryz.prog adT mk2 w' mn i (redF (copyRed (s.rows.take i) s.red))) (fun i => s.rows.length - i) 0 ⟨rfl,rfl,rfl,trivial⟩
    ⟨Nat.zero_le _,b1,by omega,by rw [List.take_zero,copyRed_nil,redF_none];exact hm⟩ ?_
  clear hm b1 z1 w1;rintro i wl ⟨hi,bl,hlm,hml⟩;have c1l:=(bl.cell (p:=⟨rb,1,none⟩) lrb).trans c1
  by_cases hlt : i < s.rows.length
  case neg =>
    obtain rfl : i = s.rows.length:=by omega
    rw [List.take_length] at hml;refine K.kgl ?_;refine WC.drawn 16 (fun wx => Below w.heap.size w wx) fun wa hd => ?_;have hS : Below w.heap.size w wa:=bl.trans (hd.below _);have hma:=hml.below (hd.below wl.heap.size) hlm;have hla : mn < wa.heap.size:=by rw [hd.heap];exact hlm
    clear hd hml;obtain ⟨kcs,q1,q2,hown0⟩:=h.rows;refine K.fr [0,1,2] hS ?_;refine K.wl 3 [4,10,16,17,18] rfl rfl rfl rfl rfl rfl rfl (fun wx hx => (hx.cell (p:=⟨rb,0,none⟩) lrb).trans c0) hS ?_;refine K.fr [6,7,8] hS ?_;refine K.wl 9 [10,16,17,18] rfl rfl rfl rfl rfl rfl rfl (fun wx hx => (hx.cell (p:=⟨rb,1,none⟩) lrb).trans c1) hS ?_;refine K.fr [11,12,13] hS ?_;refine K.wl 14 [16,17,18] rfl rfl rfl rfl rfl rfl rfl (fun wx hx => (hx.cell (p:=⟨rb,2,none⟩) lrb).trans c2) hS ?_;refine K.fr [15] hS ?_;refine WD.two 4 5 (by kernel_rfl) rfl rfl ?_ ?_
    · skip
      refine WL.call rfl rfl rfl rfl rfl Tryz.func51 rfl (by kernel_rfl) (Cr.rcopy_cat (h.below hS).cat) ?_;rintro _ wb ⟨cp',Oc',rfl,hcat,bb1,oc'⟩;refine ⟨_,rfl,?_⟩;have cb:=hS.trans (bb1.mono hS.size);have zb:=bb1.size;refine K.di cb ?_;refine K.wo 5 ?_;refine WL.empty rfl rfl rfl rfl rfl fun ge wc fe => ?_;have cc:=cb.trans (fe.below.mono cb.size);have zc:=fe.size;have ee:=fe.eq;refine K.di cc ?_;have hcatwc:=hcat.below fe.below;have hmapwc:=(hma.below bb1 hla).below fe.below (by omega);have hgc : ∀ b,Oc' b → b ≠ ge:=fun b hb => by have:=hcat.lt b hb;omega
      have hgm : ge ≠ mn:=by omega
      have oc'' : ∀ b,Oc' b → w.heap.size ≤ b:=fun b hb => by have:=oc' b hb;have:=hS.size;omega
      have hmnc : ¬ Oc' mn:=fun hh => by have:=oc' mn hh;omega
      have owne : OwnV rrT 14 wc (fun b => w.heap.size ≤ b ∧ ¬ Oc' b ∧ b ≠ mn) (.slice (some ⟨ge,0,none⟩) 0 0) 0 []:=Cr.OwnV.fresh fe (fun u hu => absurd hu List.not_mem_nil) (by simp) (by omega) ⟨by have:=cb.size;omega,fun hh => hgc ge hh rfl,hgm⟩;have hcatlt:=hcatwc.lt
      skip
      have hcat9 : ∀ {v' : Value} {w9 : World},Grow wc (.slice (some ⟨ge,0,none⟩) 0 0) w9 v' → Cr.RCat w9 cp' Oc' s.cat:=fun g9 => hcatwc.keep g9.1 fun b hb => ⟨hcatlt b hb,fun e => hgc b hb (Option.some.inj e).symm⟩;have hmap9 : ∀ {v' : Value} {w9 : World},Grow wc (.slice (some ⟨ge,0,none⟩) 0 0) w9 v' → MF Tryz.prog adT mk2 w9 mn s.rows.length (redF (copyRed s.rows s.red)):=fun g9 => hmapwc.keep g9.1 ⟨by omega,fun e => hgm (Option.some.inj e)⟩;refine K.wo 10 ?_;refine WL.appV rfl rfl rfl rfl elemRR rfl owne rfl (hown0.slV.below cc (Nat.le_refl _)) (by omega) (by omega) fun v9 w9 o9 g9 => ?_;refine WL.nil (WQ.dk (.inr ?_) ?_)
      · exact cc.trans (g9.old cc.size fun g hg => (owne.own hg).1)
      have b9 : Below w.heap.size w w9:=cc.trans (g9.old cc.size fun g hg => (owne.own hg).1);rw [Nat.zero_add,List.nil_append] at o9;obtain ⟨sp9,cap9,rfl,-,-⟩:=o9.slice;refine K.wo 16 ?_;refine WL.build [Value.pointer (some ⟨cp',0,none⟩),.slice sp9 s.rows.length cap9,.int .i64 s.n,.map (some mn)] rfl rfl rfl rfl rfl (builtRv _ _ _ _ _ _) ?_;refine K.dl ?_;refine K.wo 17 ?_;refine WL.box rfl rfl rfl rfl rfl fun rb' w10 f10 => ?_;refine K.dl ?_
      (refine K.fzl 18 rfl (q:=?_))
      refine WD.done (by kernel_rfl) ?_;refine K.kgo ?_;have e10:=f10.eq;have z9:=g9.1.size;have za:=hla;have zw:=hS.size;have hcat10 : Cr.RCat w10 cp' Oc' s.cat:=(hcat9 g9).below f10.below;have hl9 : ∀ g,(Value.slice sp9 s.rows.length cap9).ownBlock = some g → w.heap.size ≤ g ∧ g < w9.heap.size ∧ ¬ Oc' g ∧ g ≠ mn:=fun g hg => by
          have q:=o9.lt hg;rcases o9.own hg with q1 | q1
          · exact ⟨q1.1,q,q1.2⟩
          · exact ⟨by omega,q,fun hh => by have:=hcatlt g hh;omega,by omega⟩
      refine WQ.ret1 rfl rfl ⟨rb',fun b => w.heap.size ≤ b ∧ b < w10.heap.size,rfl,⟨cp',Oc',_,mn,s.rows.length,f10.blk,hcat10,?_,(hmap9 g9).below f10.below (by omega),⟨by omega,by have:=f10.size;omega⟩,⟨by omega,by have:=f10.size;omega⟩,fun b hb => ⟨oc'' b hb,hcat10.lt b hb⟩,fun hh => by have:=(hcat9 g9).lt _ hh;omega,fun hh => hmnc hh,fun g hg => (hl9 g hg).2.2.1,?_,fun b hb hd => by have:=h.lt b (.inr hd);omega,h.vers,⟨hok.1,hok.2.1,hok.2.1,hok.2.2.2⟩⟩,by rw [hmn];exact b9.trans (f10.below.mono b9.size),fun b hb => by rw [hmn];exact hb.1⟩
      · refine ⟨kcs,q1,fun j hj => ⟨(q2 j hj).1,(q2 j hj).2.keep (Keep.of_below (b9.trans (f10.below.mono b9.size))) (fun x hx _ => h.lt x (.inr hx)) (fun _ h => h)⟩,?_⟩
        have:=o9.keep (Keep.of_below f10.below) (fun g hg => o9.lt hg);exact ⟨this.1,this.2.1,fun g hg => ⟨(hl9 g hg).1,by have:=(hl9 g hg).2.1;have:=f10.size;omega⟩⟩
      · rintro b (hb | hb)
        · exact hb.2
        · have:=h.lt b (.inr hb);have:=f10.size;omega
    · skip
      refine WL.empty rfl rfl rfl rfl rfl fun ge wc0 fe => ?_;have cc:=hS.trans (fe.below.mono hS.size);have zc:=fe.size;have ee:=fe.eq;refine K.di cc ?_;refine K.wo 4 ?_;refine WL.call rfl rfl rfl rfl rfl Tryz.func51 rfl (by kernel_rfl) (Cr.rcopy_cat (h.below cc).cat) ?_;rintro _ wb ⟨cp',Oc',rfl,hcat,bb1,oc'⟩;refine ⟨_,rfl,?_⟩;have cb:=cc.trans (bb1.mono cc.size);have zb:=bb1.size;refine K.di cb ?_;have hcatwb:=hcat;have hmapwb:=(hma.below fe.below hla).below bb1 (by omega);have hgc : ∀ b,Oc' b → b ≠ ge:=fun b hb => by have:=oc' b hb;omega
      have hgm : ge ≠ mn:=by omega
      have oc'' : ∀ b,Oc' b → w.heap.size ≤ b:=fun b hb => by have:=oc' b hb;have:=cc.size;omega
      have hmnc : ¬ Oc' mn:=fun hh => by have:=oc' mn hh;omega
      have owne : OwnV rrT 14 wb (fun b => w.heap.size ≤ b ∧ ¬ Oc' b ∧ b ≠ mn) (.slice (some ⟨ge,0,none⟩) 0 0) 0 []:=(Cr.OwnV.fresh fe (fun u hu => absurd hu List.not_mem_nil) (by simp) (by omega) ⟨by have:=hS.size;omega,fun hh => hgc ge hh rfl,hgm⟩ : OwnV rrT 14 wc0 (fun b => w.heap.size ≤ b ∧ ¬ Oc' b ∧ b ≠ mn) (.slice (some ⟨ge,0,none⟩) 0 0) 0 []).keep (Keep.of_below bb1) (fun g hg => by cases hg;exact fe.blk.lt);have hcatlt:=hcatwb.lt
      skip
      have hcat9 : ∀ {v' : Value} {w9 : World},Grow wb (.slice (some ⟨ge,0,none⟩) 0 0) w9 v' → Cr.RCat w9 cp' Oc' s.cat:=fun g9 => hcatwb.keep g9.1 fun b hb => ⟨hcatlt b hb,fun e => hgc b hb (Option.some.inj e).symm⟩;have hmap9 : ∀ {v' : Value} {w9 : World},Grow wb (.slice (some ⟨ge,0,none⟩) 0 0) w9 v' → MF Tryz.prog adT mk2 w9 mn s.rows.length (redF (copyRed s.rows s.red)):=fun g9 => hmapwb.keep g9.1 ⟨by omega,fun e => hgm (Option.some.inj e)⟩;refine K.wo 10 ?_;refine WL.appV rfl rfl rfl rfl elemRR rfl owne rfl (hown0.slV.below cb (Nat.le_refl _)) (by omega) (by omega) fun v9 w9 o9 g9 => ?_;refine WL.nil (WQ.dk (.inr ?_) ?_)
      · exact cb.trans (g9.old cb.size fun g hg => (owne.own hg).1)
      have b9 : Below w.heap.size w w9:=cb.trans (g9.old cb.size fun g hg => (owne.own hg).1);rw [Nat.zero_add,List.nil_append] at o9;obtain ⟨sp9,cap9,rfl,-,-⟩:=o9.slice;refine K.wo 16 ?_;refine WL.build [Value.pointer (some ⟨cp',0,none⟩),.slice sp9 s.rows.length cap9,.int .i64 s.n,.map (some mn)] rfl rfl rfl rfl rfl (builtRv _ _ _ _ _ _) ?_;refine K.dl ?_;refine K.wo 17 ?_;refine WL.box rfl rfl rfl rfl rfl fun rb' w10 f10 => ?_;refine K.dl ?_
      (refine K.fzl 18 rfl (q:=?_))
      refine WD.done (by kernel_rfl) ?_;refine K.kgo ?_;have e10:=f10.eq;have z9:=g9.1.size;have za:=hla;have zw:=hS.size;have hcat10 : Cr.RCat w10 cp' Oc' s.cat:=(hcat9 g9).below f10.below;have hl9 : ∀ g,(Value.slice sp9 s.rows.length cap9).ownBlock = some g → w.heap.size ≤ g ∧ g < w9.heap.size ∧ ¬ Oc' g ∧ g ≠ mn:=fun g hg => by
          have q:=o9.lt hg;rcases o9.own hg with q1 | q1
          · exact ⟨q1.1,q,q1.2⟩
          · exact ⟨by omega,q,fun hh => by have:=hcatlt g hh;omega,by omega⟩
      refine WQ.ret1 rfl rfl ⟨rb',fun b => w.heap.size ≤ b ∧ b < w10.heap.size,rfl,⟨cp',Oc',_,mn,s.rows.length,f10.blk,hcat10,?_,(hmap9 g9).below f10.below (by omega),⟨by omega,by have:=f10.size;omega⟩,⟨by omega,by have:=f10.size;omega⟩,fun b hb => ⟨oc'' b hb,hcat10.lt b hb⟩,fun hh => by have:=(hcat9 g9).lt _ hh;omega,fun hh => hmnc hh,fun g hg => (hl9 g hg).2.2.1,?_,fun b hb hd => by have:=h.lt b (.inr hd);omega,h.vers,⟨hok.1,hok.2.1,hok.2.1,hok.2.2.2⟩⟩,by rw [hmn];exact b9.trans (f10.below.mono b9.size),fun b hb => by rw [hmn];exact hb.1⟩
      · refine ⟨kcs,q1,fun j hj => ⟨(q2 j hj).1,(q2 j hj).2.keep (Keep.of_below (b9.trans (f10.below.mono b9.size))) (fun x hx _ => h.lt x (.inr hx)) (fun _ h => h)⟩,?_⟩
        have:=o9.keep (Keep.of_below f10.below) (fun g hg => o9.lt hg);exact ⟨this.1,this.2.1,fun g hg => ⟨(hl9 g hg).1,by have:=(hl9 g hg).2.1;have:=f10.size;omega⟩⟩
      · rintro b (hb | hb)
        · exact hb.2
        · have:=h.lt b (.inr hb);have:=f10.size;omega
  case pos =>
    obtain ⟨b9,o9,cap9,dc9,es,lb9,-,R9,-,ok9,-⟩:=els_at hel hlt;obtain ⟨rfl,rfl⟩ : sp = some ⟨b9,o9,none⟩ ∧ cap = cap9:=by simpa using es
    clear es;have hct:=copyRed_take (f:=s.red) hlt;generalize s.rows.getD i noR = r at R9 ok9 hct;refine K.kgl ?_;refine WC.drawn 18 (fun wx => Below w.heap.size w wx) fun wa hd => ?_;have hS : Below w.heap.size w wa:=bl.trans (hd.below _);have hma:=hml.below (hd.below wl.heap.size) hlm;have hla : mn < wa.heap.size:=by rw [hd.heap];exact hlm
    clear hd hml;refine K.fr [0,1,2] hS ?_;refine K.wl 3 [5,6,7,16,18] rfl rfl rfl rfl rfl rfl rfl (fun wx hx => (hx.cell (p:=⟨rb,1,none⟩) lrb).trans c1) hS ?_;refine K.fr [4] hS ?_;refine K.wi 5 i (o9 + i * 14) rfl rfl rfl rfl rfl rfl rfl rfl rfl hlt rfl (.inr hS) ?_;refine K.fr [6] hS ?_;refine K.wl 7 [16,18] rfl rfl rfl rfl rfl rfl rfl (fun wx hx => (hx.cell (p:=⟨b9,o9 + i * 14 + 11,none⟩) lb9).trans R9.blk) hS ?_;refine K.fr [8,9,10] hS ?_;refine K.wl 11 [13,14,15,16,18] rfl rfl rfl rfl rfl rfl rfl (fun wx hx => (hx.cell (p:=⟨rb,1,none⟩) lrb).trans c1) hS ?_;refine K.fr [12] hS ?_;refine K.wi 13 i (o9 + i * 14) rfl rfl rfl rfl rfl rfl rfl rfl rfl hlt rfl (.inr hS) ?_;refine K.fr [14] hS ?_;refine K.wl 15 [16,18] rfl rfl rfl rfl rfl rfl rfl (fun wx hx => (hx.cell (p:=⟨b9,o9 + i * 14 + 12,none⟩) lb9).trans R9.ent) hS ?_;refine Cr.WDbuild [.int .i64 r.blk,.int .i64 r.ent] 16 rfl (by kernel_rfl) rfl rfl (fun _ _ _ _ _ h => h) rfl rfl rfl (builtAd _ _) (.inr hS) ?_;refine K.wo 17 ?_;refine WL.alloc (z:=.agg [Value.int .i64 0,.int .i64 0].toArray) rfl rfl rfl rfl (fun _ => by kernel_rfl) fun g5 wb f5 => ?_;have c5:=hS.trans (f5.below.mono hS.size);refine K.di c5 ?_;refine K.wo 18 ?_;refine WL.storeRow rfl rfl rfl rfl rfl rfl f5.blk rfl rfl ones2 ?_;refine K.dl ?_;refine WD.done (by kernel_rfl) ?_;obtain ⟨v5,b5,d5,q5⟩:=rowed [.int .i64 r.blk,.int .i64 r.ent] (Below.refl wa.heap.size wa) f5;have hmb:=hma.below b5 hla;have cb:=hS.trans (b5.mono hS.size);have zb:=b5.size;generalize wb.setRow g5 _ = wc at v5 b5 hmb cb zb ⊢;clear f5 d5 hma hS;have l5:=VBlk.lt v5;refine K.kgo ?_;refine WC.drawn 6 (fun wx => Below wc.heap.size wc wx) fun wd hd => ?_;have hS : Below wc.heap.size wc wd:=hd.below _;have hmd:=hmb.below hS (by omega);have hll : ∀ {wx : World},Below wc.heap.size wc wx → (Instr.lookup 42 (.map (some mb)) (mk2 (r.blk,r.ent)) false).run Tryz.prog wx = .ok ((redF s.red (r.blk,r.ent)).getD (.int .i64 0)) wx:=fun hx =>
      (h.below (cb.trans (hx.mono cb.size))).red.look adKeyed Tryz.underlying42 (z:=.int .i64 0) (by kernel_rfl) (adKey (x:=(r.blk,r.ent)) ok9.blk ok9.ent)
    have hcap : i + 1 ≤ 1000000:=by omega
    cases hrr : s.red (r.blk,r.ent) with
    | false =>
      have hll' : ∀ {wx : World},Below wc.heap.size wc wx → (Instr.lookup 42 (.map (some mb)) (mk2 (r.blk,r.ent)) false).run Tryz.prog wx = .ok (.int .i64 0) wx:=fun hx => by rw [hll hx];unfold redF;rw [hrr];rfl
      refine K.fr [0,1,2] hS ?_;refine K.wl 3 [5,6] rfl rfl rfl rfl rfl rfl rfl (fun wx hx => ((cb.trans (hx.mono cb.size)).cell (p:=⟨rb,3,none⟩) lrb).trans c3) hS ?_;refine K.wm 4 [5,6] rfl rfl rfl rfl rfl rfl rfl (fun wx hx => VBlk.rangeAt (VBlk.below v5 hx l5)) rfl hS ?_;refine WD.look 5 [6] rfl (by kernel_rfl) rfl rfl (fun _ _ _ _ _ h => h) rfl rfl rfl rfl (fun wx hx => hll' hx) hS ?_;refine K.wo 6 ?_;refine WL.pure rfl rfl rfl rfl ?_;refine K.dl ?_;refine WD.done (by kernel_rfl) ?_;rw [if_neg (by rw [show r.adr = (r.blk,r.ent) from rfl,hrr];simp)] at hct;refine K.kgo ?_;exact WQ.again (i + 1) ⟨rfl,rfl,rfl,trivial⟩ ⟨hlt,cb.trans (hS.mono cb.size),by have:=hS.size;omega,by rw [hct];exact hmd.mono (by omega)⟩ (by omega)
    | true =>
      have hll' : ∀ {wx : World},Below wc.heap.size wc wx → (Instr.lookup 42 (.map (some mb)) (mk2 (r.blk,r.ent)) false).run Tryz.prog wx = .ok (.int .i64 1) wx:=fun hx => by rw [hll hx];unfold redF;rw [hrr];rfl
      refine K.fr [0,1,2] hS ?_;refine K.wl 3 [5,6] rfl rfl rfl rfl rfl rfl rfl (fun wx hx => ((cb.trans (hx.mono cb.size)).cell (p:=⟨rb,3,none⟩) lrb).trans c3) hS ?_;refine K.wm 4 [5,6] rfl rfl rfl rfl rfl rfl rfl (fun wx hx => VBlk.rangeAt (VBlk.below v5 hx l5)) rfl hS ?_;refine WD.look 5 [6] rfl (by kernel_rfl) rfl rfl (fun _ _ _ _ _ h => h) rfl rfl rfl rfl (fun wx hx => hll' hx) hS ?_;refine K.wo 6 ?_;refine WL.pure rfl rfl rfl rfl ?_;refine K.dl ?_;refine WD.done (by kernel_rfl) ?_;rw [if_pos (by rw [show r.adr = (r.blk,r.ent) from rfl,hrr])] at hct;obtain ⟨we,hrun,hmf,hkm⟩:=MF.put mk2_inj hmd adKeyed Tryz.underlying42 (by unfold maxLen;omega) (key:=(r.blk,r.ent)) (.int .i64 1) (adKey (x:=(r.blk,r.ent)) ok9.blk ok9.ent);rw [red_put] at hmf;refine K.kgo ?_;refine WL.loadMid rfl rfl rfl rfl rfl rfl (VBlk.rangeAt (VBlk.below v5 hS l5)) rfl ?_;refine WL.upd rfl rfl rfl rfl rfl rfl hrun ?_;refine K.kgo ?_;exact WQ.again (i + 1) ⟨rfl,rfl,rfl,trivial⟩ ⟨hlt,((Keep.of_below (cb.trans (hS.mono cb.size))).trans (hkm.mono fun x (hx : x < w.heap.size) e => by omega)).below,by have:=hS.size;have:=hkm.size;omega,by rw [hct];exact hmf⟩ (by omega)
theorem rEntry_any {w : World} {rb : Nat} {M D : Nat → Prop} {f : Nat} {s : St} {N : Nat} (h0 : RVs w rb M D f s N) (hN : N + 1 ≤ 1000000) {E : Nat → Prop} (hE' : ∀ x,E x → ¬ M x) {b : Bk} {bc : List Value} (hb : IsBo E f w b bc) (k : Nat) (hk : k < b.ents.length) (hk6 : k ≤ 1000000) (hsm : Sm 3000 f (b.ents.getD k noE).data) :
    Calls Tryz.prog 30 #[.pointer (some ⟨rb,0,none⟩),.agg bc.toArray,.int .i64 k] w (RPost w rb M D f (entR s (b.ents.getD k noE) b.index k b.time).1 (entR s (b.ents.getD k noE) b.index k b.time).2 (N + 1)):=by
  have hbl:=hb.len;refine enter (args:=[.pointer (some ⟨rb,0,none⟩),.agg bc.toArray,.int .i64 k]) Tryz.func30 rfl Tryz.ntmps30 rfl ?_;refine K.kgn ?_;refine WL.box rfl rfl rfl rfl rfl fun g4 w1 f1 => ?_;have f1' : Fresh w g4 w1 bkT bc:=f1;clear f1;refine K.kgo ?_;refine WL.loadMid rfl rfl rfl rfl rfl rfl (VBlk.rangeAt f1'.blk) hbl ?_;have hb1 : IsBo E f w1 b bc:=by
    obtain ⟨se,q1,q2,q3⟩:=hb;exact ⟨se,q1,q2.keep (Keep.of_below f1'.below) (fun _ _ h => h) (fun _ h => h) fun _ _ hp => EnP.mono (fun _ _ hv => hv.keep (Keep.of_below f1'.below) (fun _ _ h => h) (fun _ h => h)) hp,q3⟩
  refine K.kgo ?_;refine WL.call rfl rfl rfl rfl rfl Tryz.func34 rfl (by kernel_rfl) (rentry_any (h0.below f1'.below) hN hE' hb1 k hk hk6 hsm) ?_;rintro _ w2 ⟨M',D',rfl,h2,k2,m2,d2⟩;refine ⟨_,rfl,?_⟩;have z1:=f1'.below.size;refine K.kgo ?_;exact WQ.ret1 rfl rfl ⟨M',D',rfl,h2,(Keep.of_below f1'.below).mono (fun x hx => hx.1) |>.trans (k2.mono fun x hx => ⟨by omega,hx.2⟩),fun x hx => (m2 x hx).imp id fun h => by omega,fun x hx => (d2 x hx).imp id fun h => by omega⟩
theorem IsBo.below {E : Nat → Prop} {f : Nat} {w w' : World} {b : Bk} {bc : List Value} (hb : IsBo E f w b bc) (hk : Below w.heap.size w w') : IsBo E f w' b bc:=by
  obtain ⟨se,q1,q2,q3⟩:=hb;exact ⟨se,q1,q2.keep (Keep.of_below hk) (fun _ _ h => h) (fun _ h => h) fun _ _ hp => EnP.mono (fun _ _ hv => hv.keep (Keep.of_below hk) (fun _ _ h => h) (fun _ h => h)) hp,q3⟩
theorem IsBo.keep {E : Nat → Prop} {f : Nat} {w w' : World} {b : Bk} {bc : List Value} (hb : IsBo E f w b bc) {K : Nat → Prop} (hk : Keep K w w') (hK : ∀ x,E x → x < w.heap.size → K x) : IsBo E f w' b bc:=by
  obtain ⟨se,q1,q2,q3⟩:=hb;exact ⟨se,q1,q2.keep hk hK (fun _ h => h) fun _ _ hp => EnP.mono (fun _ _ hv => hv.keep hk hK (fun _ h => h)) hp,q3⟩
theorem IsBo.isB {E : Nat → Prop} {f : Nat} {w : World} {b : Bk} {bc : List Value} (hb : IsBo E f w b bc) : IsB f w b bc:=by
  obtain ⟨se,q1,q2,q3⟩:=hb;exact ⟨se,q1,q2.mono (fun _ _ => trivial) (fun _ _ hp => EnP.mono (fun _ _ hv => hv.isV) hp),q3⟩
structure BkSm (f : Nat) (b : Bk) : Prop where
  ents : b.ents.length ≤ 3000
  sm : ∀ k,k < b.ents.length → Sm 3000 f (b.ents.getD k noE).data
  len : ∀ e ∈ b.ents,chk 16 e.data = 0 → (encV 16 e.data).length ≤ 70368744177664
theorem runR_step {b : Bk} {i : Nat} (hi : i < b.ents.length) (s : St) : runR b (b.ents.drop i) i s = if (entR s (b.ents.getD i noE) b.index i b.time).1 = 0 then runR b (b.ents.drop (i + 1)) (i + 1) (entR s (b.ents.getD i noE) b.index i b.time).2 else ((entR s (b.ents.getD i noE) b.index i b.time).1,(entR s (b.ents.getD i noE) b.index i b.time).2):=by
  rw [List.drop_eq_getElem_cons hi,← getD_lt (d:=noE) hi]
  rfl
set_option maxHeartbeats 8000000 in
theorem rapply15_any {w : World} {rb : Nat} {M D : Nat → Prop} {f : Nat} {s : St} {N : Nat} (h0 : RVs w rb M D f s N) {E : Nat → Prop} (hE' : ∀ x, E x → x < w.heap.size) {b : Bk} {bc : List Value} (hb : IsBo E f w b bc) (hsm : BkSm f b) (hN : N + b.ents.length + 1 ≤ 1000000) (hred : copyRed s.rows s.red = s.red) :
    Calls Tryz.prog 14 #[.pointer (some ⟨rb, 0, none⟩), .agg bc.toArray] w (RPost w rb M D f (appR s b).1 (appR s b).2 (N + b.ents.length + 1)) := by
  obtain ⟨cp, Oc, rv, mb, kc, h⟩ := id h0; have hlt := h.lt; have hbl := hb.len; have bq := hb; obtain ⟨se, rfl, hents, hpl, hpb, rbi, rti, -⟩ := bq; obtain ⟨sp, cap, rfl, hc1, hc2, hc3, -⟩ := hents; refine enter (args := [.pointer (some ⟨rb, 0, none⟩), .agg (bkC b (.slice sp b.ents.length cap)).toArray]) Tryz.func14 rfl Tryz.ntmps14 rfl ?_; refine K.kgn ?_; refine WL.box rfl rfl rfl rfl rfl fun g3 w1 f1 => ?_; have B1 : BkAt bkT g3 w1 b (.slice sp b.ents.length cap) := ⟨f1.blk, hpl⟩; have b1 := f1.below; have e3 := f1.eq; clear f1; have lg3 := VBlk.lt B1.blk; have h1 := h.below b1; have c2 := h1.vb.cell 2 (by simp); simp only [List.getD_cons_succ, List.getD_cons_zero] at c2; have lrb := h1.lt rb (.inl h1.mrb); have ei := B1.index; have ee := B1.ents; have z1 := b1.size; have bad : ∀ {wx : World} {c : Int}, Below w1.heap.size w1 wx → (appR s b) = (c, s) → RPost w rb M D f (appR s b).1 (appR s b).2 (N + b.ents.length + 1) (.returned (.int .i64 c)) wx := fun hx hc => by
    rw [hc]; exact RPost.of (RVs.mono ⟨_, _, _, _, _, h1.below hx⟩ (by omega) hN) ((Keep.of_below (b1.trans (hx.mono z1))).mono fun x hx => hx.1) (fun _ h => .inl h) rfl rfl
  refine K.kgo ?_; refine WC.drawn 6 (fun wx => Below w1.heap.size w1 wx) fun wa hd => ?_; have hS : Below w1.heap.size w1 wa := hd.below _; refine K.fr [0] hS ?_; refine K.wl 1 [6] rfl rfl rfl rfl rfl rfl rfl (fun wx hx => (hx.cell (p := ⟨g3, 0, none⟩) lg3).trans ei) hS ?_; refine K.fr [2, 3, 4] hS ?_; refine K.wl 5 [6] rfl rfl rfl rfl rfl rfl rfl (fun wx hx => (hx.cell (p := ⟨rb, 2, none⟩) lrb).trans c2) hS ?_; refine K.wo 6 ?_; refine WL.pure rfl rfl rfl rfl ?_; refine K.dl ?_; refine WD.done (by kernel_rfl) ?_
  by_cases hix : b.index = s.n
  case neg =>
    refine K.kgo ?_; refine WC.condT rfl hix ?_; refine K.kgo ?_; exact WQ.ret1 rfl rfl (bad hS (by unfold appR; rw [if_pos hix]))
  case pos =>
  refine K.kgo ?_; refine WC.condF rfl (fun q => q hix) ?_; refine K.kgo ?_; refine WL.loadMid rfl rfl rfl rfl rfl rfl (VBlk.rangeAt (VBlk.below B1.blk hS lg3)) hbl ?_; have hba := IsBo.below hb (b1.trans (hS.mono z1)); refine WL.call rfl rfl rfl rfl rfl Tryz.func33 rfl (by kernel_rfl) (rcheck11_any (IsBo.isB hba) hsm.len) ?_; rintro _ wb ⟨rfl, bb⟩; refine ⟨_, rfl, ?_⟩; have hSb := hS.trans (bb.mono hS.size)
  by_cases hch : chkB b = 0
  case neg =>
    have hr : appR s b = (chkB b, s) := by unfold appR; rw [if_neg (fun q => q hix), if_pos hch]
    generalize chkB b = cb at hch hr; refine K.kgo ?_; exact WQ.ret1 rfl rfl (bad hSb hr)
  case pos =>
  rw [hch]; refine K.kgo ?_; refine WL.call rfl rfl rfl rfl rfl Tryz.func28 rfl (by kernel_rfl) (rcopy_any ⟨_, _, _, _, _, h1.below hSb⟩) ?_; rintro _ wc ⟨xb, Mx, rfl, hx, bc2, mx⟩; refine ⟨_, rfl, ?_⟩; rw [hred] at hx; change RVs wc xb Mx D f s N at hx; have hSc := hSb.trans (bc2.mono hSb.size); have zc := hSc.size; have zb := hSb.size; have happ : appR s b = if (runR b b.ents 0 s).1 = 0 then (0, { (runR b b.ents 0 s).2 with n := s.n + 1 }) else ((runR b b.ents 0 s).1, s) := by
    unfold appR; rw [if_neg (fun q => q hix), if_neg (fun q => q hch)]
  refine K.kgo ?_; refine WC.loop (fun i : Nat => [(0, .pointer (some ⟨rb, 0, none⟩)), (3, .pointer (some ⟨g3, 0, none⟩)), (6, .pointer (some ⟨xb, 0, none⟩)), (7, .int .i64 i)])
    (fun i w' => i ≤ b.ents.length ∧ Below w1.heap.size w1 w' ∧ ∃ si Mi Di, RVs w' xb Mi Di f si (N + i) ∧ runR b b.ents 0 s = runR b (b.ents.drop i) i si ∧ (∀ x, Mi x → w1.heap.size ≤ x) ∧ ∀ x, Di x → D x ∨ w1.heap.size ≤ x) (fun i => b.ents.length - i) 0 ⟨rfl, rfl, rfl, rfl, trivial⟩
    ⟨Nat.zero_le _, hSc, s, Mx, D, hx, rfl, fun x h => by have := mx x h; omega, fun x h => .inl h⟩ ?_
  clear hx mx bc2 hSc hSb bb hba hS zc zb; rintro i wl ⟨hi, bl, si, Mi, Di, hxi, hrun, mi, di⟩; have eel := (bl.cell (p := ⟨g3, 35, none⟩) lg3).trans ee; have zl := bl.size
  by_cases hil : i < b.ents.length
  case pos =>
    have hbi := IsBo.below hb (b1.trans (bl.mono z1)); rw [runR_step hil] at hrun; refine K.kgl ?_; refine WL.loadMid rfl rfl rfl rfl rfl rfl (VBlk.rangeAt (VBlk.below B1.blk bl lg3)) hbl ?_; refine K.kgo ?_; refine WL.call rfl rfl rfl rfl rfl Tryz.func34 rfl (by kernel_rfl) (rentry_any hxi (by omega) (fun x hx hm => by have := hE' x hx; have := mi x hm; omega) hbi i hil (by have := hsm.ents; omega) (hsm.sm i hil)) ?_; rintro _ w2 ⟨M2, D2, rfl, h2, k2, m2, d2⟩; refine ⟨_, rfl, ?_⟩; have bl2 : Below w1.heap.size w1 w2 := ((Keep.of_below bl).trans (k2.mono fun x (hx : x < w1.heap.size) => ⟨by omega, fun hm => by have := mi x hm; omega⟩)).below; generalize entR si (b.ents.getD i noE) b.index i b.time = er at hrun h2; obtain ⟨ec, es⟩ := er; simp only at hrun h2
    by_cases hec : ec = 0
    case pos =>
      rw [if_pos hec] at hrun; refine K.kgo ?_; exact WQ.again (i + 1) ⟨rfl, rfl, rfl, rfl, trivial⟩ ⟨hil, bl2, es, M2, D2, h2, hrun, fun x hx => (m2 x hx).elim (mi x) (fun h => by omega), fun x hx => (d2 x hx).elim (di x) (fun h => .inr (by omega))⟩ (by omega)
    case neg =>
      rw [if_neg hec] at hrun; refine K.kgo ?_; exact WQ.ret1 rfl rfl (bad bl2 (by rw [happ, hrun, if_neg hec]))
  case neg =>
    obtain rfl : i = b.ents.length := by omega
    rw [List.drop_length] at hrun; have hr0 : runR b b.ents 0 s = (0, si) := hrun; rw [happ, hr0, if_pos rfl]; obtain ⟨cpx, Ox, rvx, mbx, kx, hX⟩ := hxi; have cx2 := hX.vb.cell 2 (by simp); simp only [List.getD_cons_succ, List.getD_cons_zero] at cx2; have hnN := hX.ok; have hns : si.n = s.n := runR_n hr0; rw [hns] at cx2 hnN; refine K.kgl ?_; refine WL.store rfl rfl rfl rfl rfl rfl (by kernel_rfl) cx2 (VBlk.free hX.vb 2) ?_; have vx := hX.vb.set 2 (.int .i64 ((s.n : Int) + 1)); have kx2 : Keep (fun x => x ≠ xb) wl (wl.setCell ⟨xb, 2, none⟩ (.int .i64 ((s.n : Int) + 1))) := (Keep.refl _ _).setCell (by simp) _; generalize wl.setCell ⟨xb, 2, none⟩ (.int .i64 ((s.n : Int) + 1)) = wm at vx kx2 ⊢; change VBlk rvT wm xb [.pointer (some ⟨cpx, 0, none⟩), rvx, .int .i64 ((s.n : Int) + 1), .map (some mbx)] at vx; refine K.kgo ?_; refine WL.loadMid rfl rfl rfl rfl rfl rfl (VBlk.rangeAt vx) rfl ?_; have hxb := mi xb hX.mrb; have vrb : VBlk rvT wm rb [.pointer (some ⟨cp, 0, none⟩), rv, .int .i64 s.n, .map (some mb)] := (VBlk.below h1.vb bl lrb).keep kx2 (fun e => by omega); have hone : Ones [Value.pointer (some ⟨cpx, 0, none⟩), rvx, .int .i64 ((s.n : Int) + 1), .map (some mbx)] := fun u hu => by
      simp at hu
      rcases hu with rfl | rfl | rfl | rfl <;> first | rfl | exact K.OwnE.one hX.rows
    refine K.kgo ?_; refine WL.storeRow rfl rfl rfl rfl rfl rfl vrb rfl rfl hone ?_; have vf := vrb.setRow [Value.pointer (some ⟨cpx, 0, none⟩), rvx, .int .i64 ((s.n : Int) + 1), .map (some mbx)]; have kf : Keep (fun x => x ≠ xb ∧ x ≠ rb) wl (wm.setRow rb [Value.pointer (some ⟨cpx, 0, none⟩), rvx, .int .i64 ((s.n : Int) + 1), .map (some mbx)].toArray) := Cr.keepRow (kx2.mono fun x hx => hx.1) (fun hh => hh.2 rfl) _; generalize wm.setRow rb _ = wf at vf kf ⊢; refine K.kgo ?_; have hl := hX.lt; obtain ⟨n1, n2⟩ := hX.ne; have nrb : ∀ x, w1.heap.size ≤ x → x ≠ rb := fun x hx e => by omega
    have nmx : mbx ≠ xb := fun e => Cat.MF.tag_ne hX.red (show wl.heap[xb]? = _ from hX.vb) e; have hDk : ∀ x, Di x → x < wl.heap.size → x ≠ xb ∧ x ≠ rb := fun x hx _ => ⟨fun e => hX.sep xb hX.mrb (e ▸ hx), fun e => (di x hx).elim (fun hd => h.sep rb h.mrb (e ▸ hd)) (fun hd => nrb x hd e)⟩; have hV : RV wf rb (fun x => x = rb ∨ Mi x) Di f { si with n := s.n + 1 } cpx Ox rvx mbx kx (N + b.ents.length + 1) :=
      ⟨by rw [show (((s.n + 1 : Nat)) : Int) = (s.n : Int) + 1 by omega]; exact vf, hX.cat.keep kf fun x hx => ⟨fun e => hX.orb (e ▸ hx), nrb x (mi x (hX.moc x hx))⟩,
        Go.Proofs.YtchgjaaadfjiiaaGreat.K.OwnE.keep hX.rows kf (fun g hg => ⟨fun e => n1 (e ▸ hg), nrb g (mi g (hX.rows.own hg))⟩) (fun _ hm => .inr hm) fun _ _ hp => hp.keep kf hDk (fun _ h => h),
        hX.red.keep kf ⟨nmx, nrb mbx (mi mbx hX.mmb)⟩, .inl rfl, .inr hX.mmb, fun x hx => .inr (hX.moc x hx), fun hh => nrb rb (mi rb (hX.moc rb hh)) rfl, hX.omb, hX.orow,
        fun x hx => Nat.lt_of_lt_of_le (by rcases hx with (hx | hx) | hx; · omega
                                           · exact hl x (.inl hx)
                                           · exact hl x (.inr hx)) kf.size,
        fun x hx hd => by
          rcases hx with hx | hx
          · exact (hDk x hd (hl x (.inr hd))).2 hx
          · exact hX.sep x hx hd, hX.vers, ⟨by show s.n + 1 ≤ _; omega, by have := hnN.2.1; show si.rows.length ≤ _; omega, by omega, by omega⟩⟩
    exact WQ.ret1 rfl rfl ⟨_, Di, rfl, ⟨_, _, _, _, _, hV⟩, ((Keep.of_below (b1.trans (bl.mono z1))).mono fun x hx => hx.1).trans (kf.mono fun x hx => ⟨fun e => by omega, fun e => hx.2 (e ▸ h.mrb)⟩), fun x hx => hx.elim (fun e => .inl (e ▸ h.mrb)) (fun hm => .inr (by have := mi x hm; omega)), fun x hx => (di x hx).imp id fun hh => by omega⟩
end Vw
namespace Vw
open K (En Bk zV formE formE_rng)
open Cat (Tb appC appL tabR)
structure Inv (s : St) : Prop where
  tab : ∀ r ∈ s.rows,(tabR s.cat r.tab).2.2 = 0
  doc : ∀ r ∈ s.rows,1 ≤ r.doc ∧ r.doc ≤ cnt r.tab s.rows
  ver : ∀ k,(Vw.of s.rows k).map Rw.ver = (List.range (Vw.of s.rows k).length).map fun i : Nat => (i : Int)
  dis : (s.rows.map Rw.adr).Nodup
  red : ∀ a,s.red a = true → ∃ r ∈ s.rows,r.adr = a
def Und (s : St) (bi k : Int) : Prop:=∀ r ∈ s.rows,r.blk < bi ∨ (r.blk = bi ∧ r.ent < k)
theorem of_snoc (L : List Rw) (r : Rw) (k : Int × Int) : Vw.of (L ++ [r]) k = Vw.of L k ++ if r.key = k then [r] else []:=by
  unfold Vw.of;rw [List.filter_append,List.filter_cons]
  by_cases h : r.key = k
  · rw [if_pos h,if_pos (by simpa using h)];rfl
  · rw [if_neg h,if_neg (by simpa using h)];rfl
theorem cnt_snoc (t : Int) (L : List Rw) (r : Rw) : cnt t (L ++ [r]) = cnt t L + if r.tab = t ∧ r.ver = 0 then 1 else 0:=by
  unfold cnt;rw [List.filter_append,List.filter_cons,List.length_append]
  by_cases h : r.tab = t ∧ r.ver = 0
  · rw [if_pos h,if_pos (by simpa using h)];rfl
  · rw [if_neg h,if_neg (by simpa using h)];rfl
theorem Inv.last {s : St} (h : Inv s) {k : Int × Int} {r : Rw} (hl : (Vw.of s.rows k).getLast? = some r) : r.ver + 1 = (Vw.of s.rows k).length:=by
  have hv:=h.ver k;have h1 : ((Vw.of s.rows k).map Rw.ver).getLast? = some r.ver:=by rw [List.getLast?_map,hl];rfl
  rw [hv] at h1;obtain ⟨n,hn⟩ : ∃ n,n = (Vw.of s.rows k).length:=⟨_,rfl⟩;rw [← hn] at h1 ⊢;cases n with
  | zero => simp at h1
  | succ n =>
    rw [List.range_succ,List.map_append] at h1;simp at h1
    omega
theorem Inv.none {s : St} (h : Inv s) {t d : Int} (hd : d < 1 ∨ (cnt t s.rows : Int) < d) : Vw.of s.rows (t,d) = []:=by
  unfold Vw.of;rw [List.filter_eq_nil_iff];intro r hr hk;have hk' : r.key = (t,d):=by simpa using hk
  have h1 : r.tab = t:=congrArg Prod.fst hk';have h2 : r.doc = d:=congrArg Prod.snd hk';have:=h.doc r hr;rw [h1,h2] at this;omega
def fitP (s : St) (e : En) : Bool :=
  if e.kind = 2 ∧ e.ver = 0 then decide (e.doc = next s e.table)
  else match (Vw.of s.rows (e.table,e.doc)).getLast? with
    | some r => !r.del && decide (e.ver = (Vw.of s.rows (e.table,e.doc)).length)
    | none => false
theorem form_ver {e : En} (h : formE e) (hk : e.kind = 2 ∨ e.kind = 3) : (1 ≤ e.table ∧ e.table ≤ 64) ∧ (1 ≤ e.doc ∧ e.doc ≤ 65536) ∧ (0 ≤ e.ver ∧ e.ver ≤ 2147483648) ∧ (e.kind = 3 → 1 ≤ e.ver):=by
  unfold formE at h;rcases hk with hk | hk
  · rw [if_neg (by omega),if_pos hk] at h
    exact ⟨h.1,h.2.1,h.2.2.1,fun q => by omega⟩
  · rw [if_neg (by omega),if_neg (by omega),if_pos hk] at h
    exact ⟨h.1,h.2.1,⟨by omega,h.2.2.1.2⟩,fun _ => h.2.2.1.1⟩
theorem Inv.fit {s : St} (h : Inv s) {e : En} (hf : formE e) (hk : e.kind = 2 ∨ e.kind = 3) : fits s e = fitP s e := by
  obtain ⟨-, -, hv, h3⟩ := form_ver hf hk; unfold fits fitP
  by_cases h0 : e.ver = 0
  · have : e.kind = 2 := by rcases hk with q | q; · exact q
                            · have := h3 q; omega
    rw [if_pos h0, if_pos ⟨this, h0⟩]
  · rw [if_neg h0, if_neg (fun q => h0 q.2)]
    cases hl : (Vw.of s.rows (e.table, e.doc)).getLast? with
    | none => rfl
    | some r =>
      have := h.last hl; simp only
      congr 1
      exact decide_eq_decide.2 ⟨fun q => by omega, fun q => by omega⟩
theorem set_split {L : List Rw} {i : Nat} (hi : i < L.length) : ∃ A B,L = A ++ L.getD i noR :: B ∧ A.length = i ∧ ∀ x,L.set i x = A ++ x :: B:=by
  have e : L = L.take i ++ (L.getD i noR :: L.drop (i + 1)):=by
    rw [getD_lt hi,← List.drop_eq_getElem_cons hi,List.take_append_drop]
  have hl : (L.take i).length = i:=by rw [List.length_take];omega
  refine ⟨_,_,e,hl,fun x => ?_⟩;rw [List.set_eq_take_append_cons_drop,if_pos hi]
theorem of_split (A B : List Rw) (r : Rw) (k : Int × Int) : Vw.of (A ++ r :: B) k = Vw.of A k ++ ((if r.key = k then [r] else []) ++ Vw.of B k):=by
  unfold Vw.of;rw [List.filter_append,List.filter_cons]
  by_cases h : r.key = k
  · rw [if_pos h,if_pos (by simpa using h)];rfl
  · rw [if_neg h,if_neg (by simpa using h)];rfl
theorem cnt_split (A B : List Rw) (r : Rw) (t : Int) : cnt t (A ++ shut r :: B) = cnt t (A ++ r :: B):=by
  unfold cnt;rw [List.filter_append,List.filter_append,List.filter_cons,List.filter_cons,List.length_append,List.length_append]
  by_cases h : r.tab = t ∧ r.ver = 0
  · rw [if_pos (by simpa using (show (shut r).tab = t ∧ (shut r).ver = 0 from h)),if_pos (by simpa using h)];rfl
  · rw [if_neg (by simpa using (show ¬ ((shut r).tab = t ∧ (shut r).ver = 0) from h)),if_neg (by simpa using h)]
theorem appL_len (L : List Tb) (kind : Int) (txt : ByteArray) (tbl : Int) : L.length ≤ (appL L kind txt tbl).length:=by
  unfold appL
  split
  · split
    · simp
    · split
      · simp
      · split
        · simp
        · exact Nat.le_refl _
  · exact Nat.le_refl _
theorem tab_up {L L' : List Tb} (h : L.length ≤ L'.length) {t : Int} (h0 : (tabR L t).2.2 = 0) : (tabR L' t).2.2 = 0:=by
  unfold tabR at h0 ⊢
  by_cases hc : 1 ≤ t ∧ t ≤ L.length
  · rw [if_pos (by omega)]
  · rw [if_neg hc] at h0
    exact absurd h0 (by decide)
theorem Inv.snoc {s : St} (h : Inv s) {e : En} {bi k tim : Int} (hu : Und s bi k) (hf : formE e) (hk : e.kind = 2 ∨ e.kind = 3) (ht : (tabR s.cat e.table).2.2 = 0) (hfit : fits s e = true) :
    Inv { s with rows:=s.rows ++ [rowOf e bi k tim] } ∧ Und { s with rows:=s.rows ++ [rowOf e bi k tim] } bi (k + 1):=by
  obtain ⟨-,hd,hv,h3⟩:=form_ver hf hk;have hnew : ∀ r ∈ s.rows,r.adr ≠ (bi,k):=fun r hr q => by
    have q1 : r.blk = bi:=congrArg Prod.fst q;have q2 : r.ent = k:=congrArg Prod.snd q;have:=hu r hr;omega
  have hdoc : ∀ x,cnt x s.rows ≤ cnt x (s.rows ++ [rowOf e bi k tim]):=fun x => by rw [cnt_snoc];omega
  refine ⟨⟨fun r hr => ?_,fun r hr => ?_,fun x => ?_,?_,fun a ha => ?_⟩,fun r hr => ?_⟩
  · rcases List.mem_append.1 hr with hr | hr
    · exact h.tab r hr
    · rw [List.mem_singleton.1 hr];exact ht
  · rcases List.mem_append.1 hr with hr | hr
    · have:=h.doc r hr;have:=hdoc r.tab;exact ⟨by omega,by show r.doc ≤ (cnt r.tab (s.rows ++ [rowOf e bi k tim]) : Nat);omega⟩
    · rw [List.mem_singleton.1 hr]
      show 1 ≤ e.doc ∧ e.doc ≤ (cnt e.table (s.rows ++ [rowOf e bi k tim]) : Nat)
      refine ⟨hd.1,?_⟩;rw [cnt_snoc];unfold fits at hfit
      by_cases h0 : e.ver = 0
      · rw [if_pos h0] at hfit
        have hdn : e.doc = next s e.table:=by simpa using hfit
        have : next s e.table = (cnt e.table s.rows : Int) + 1:=by unfold next;rw [if_pos ht]
        rw [if_pos ⟨rfl,h0⟩];omega
      · rw [if_neg h0] at hfit
        have : Vw.of s.rows (e.table,e.doc) ≠ []:=fun q => by rw [q] at hfit;simp at hfit
        by_cases hin : (cnt e.table s.rows : Int) < e.doc
        · exact absurd (h.none (.inr hin)) this
        · split <;> omega
  · show (Vw.of (s.rows ++ [rowOf e bi k tim]) x).map Rw.ver = (List.range (Vw.of (s.rows ++ [rowOf e bi k tim]) x).length).map fun i : Nat => (i : Int)
    rw [of_snoc]
    by_cases hx : (rowOf e bi k tim).key = x
    · rw [if_pos hx,List.map_append,List.length_append,List.length_singleton,List.range_succ,List.map_append,h.ver x]
      congr 1
      simp only [List.map_cons,List.map_nil,List.cons.injEq,and_true]
      show e.ver = _
      have hx' : (e.table,e.doc) = x:=hx;subst hx';unfold fits at hfit
      by_cases h0 : e.ver = 0
      · rw [if_pos h0] at hfit
        have hdn : e.doc = next s e.table:=by simpa using hfit
        have hn : next s e.table = (cnt e.table s.rows : Int) + 1:=by unfold next;rw [if_pos ht]
        rw [h.none (.inr (by omega))];exact h0
      · rw [if_neg h0] at hfit
        cases hl : (Vw.of s.rows (e.table,e.doc)).getLast? with
        | none => rw [hl] at hfit;simp at hfit
        | some r =>
          rw [hl] at hfit;have:=h.last hl;simp at hfit
          omega
    · rw [if_neg hx,List.append_nil]
      exact h.ver x
  · show ((s.rows ++ [rowOf e bi k tim]).map Rw.adr).Nodup
    rw [List.map_append,List.nodup_append];refine ⟨h.dis,by simp,fun a ha b hb q => ?_⟩;obtain ⟨r,hr,rfl⟩:=List.mem_map.1 ha;simp only [List.map_cons,List.map_nil,List.mem_singleton] at hb;exact hnew r hr (q.trans hb)
  · obtain ⟨r,hr,e1⟩:=h.red a ha
    exact ⟨r,List.mem_append_left _ hr,e1⟩
  · rcases List.mem_append.1 hr with hr | hr
    · have:=hu r hr;omega
    · rw [List.mem_singleton.1 hr]
      exact .inr ⟨rfl,by show k < k + 1;omega⟩
theorem Inv.shut {s : St} (h : Inv s) {i : Nat} (hi : i < s.rows.length) : Inv { s with rows:=s.rows.set i (shut (s.rows.getD i noR)),red:=redP s.red (s.rows.getD i noR).adr }:=by
  obtain ⟨A,B,e,-,hs⟩:=set_split hi;generalize s.rows.getD i noR = r at e hs;rw [hs];have h1:=h.tab;have h2:=h.doc;have h3:=h.ver;have h4:=h.dis;have h5:=h.red;rw [e] at h1 h2 h3 h4 h5;have mem : ∀ x,x ∈ A ++ Vw.shut r :: B → ∃ y ∈ A ++ r :: B,x.tab = y.tab ∧ x.doc = y.doc:=fun x hx => by
    rcases List.mem_append.1 hx with q | q
    · exact ⟨x,List.mem_append_left _ q,rfl,rfl⟩
    · rcases List.mem_cons.1 q with q | q
      · subst q;exact ⟨r,List.mem_append_right _ (List.mem_cons_self ..),rfl,rfl⟩
      · exact ⟨x,List.mem_append_right _ (List.mem_cons_of_mem _ q),rfl,rfl⟩
  refine ⟨fun x hx => ?_,fun x hx => ?_,fun k => ?_,?_,fun a ha => ?_⟩
  · obtain ⟨y,hy,e1,-⟩:=mem x hx
    have:=h1 y hy
    show (tabR s.cat x.tab).2.2 = 0
    rw [e1];exact this
  · obtain ⟨y,hy,e1,e2⟩:=mem x hx
    have:=h2 y hy
    show 1 ≤ x.doc ∧ x.doc ≤ (cnt x.tab (A ++ Vw.shut r :: B) : Nat)
    rw [e1,e2,cnt_split];exact this
  · have:=h3 k
    show (Vw.of (A ++ Vw.shut r :: B) k).map Rw.ver = (List.range (Vw.of (A ++ Vw.shut r :: B) k).length).map fun i : Nat => (i : Int)
    rw [of_split] at this ⊢
    by_cases q : r.key = k
    · rw [if_pos q] at this
      rw [if_pos (show (Vw.shut r).key = k from q)]
      simpa [Vw.shut] using this
    · rw [if_neg q] at this
      rw [if_neg (show ¬ (Vw.shut r).key = k from q)]
      simpa using this
  · show ((A ++ Vw.shut r :: B).map Rw.adr).Nodup
    have e1 : (A ++ Vw.shut r :: B).map Rw.adr = (A ++ r :: B).map Rw.adr:=by simp [Vw.shut]
    rw [e1];exact h4
  · show ∃ x ∈ A ++ Vw.shut r :: B,x.adr = a
    have key : ∀ a,(∃ x ∈ A ++ r :: B,x.adr = a) → ∃ x ∈ A ++ Vw.shut r :: B,x.adr = a:=fun a ⟨x,hx,ex⟩ => by
      rcases List.mem_append.1 hx with q | q
      · exact ⟨x,List.mem_append_left _ q,ex⟩
      · rcases List.mem_cons.1 q with q | q
        · subst q;exact ⟨Vw.shut x,List.mem_append_right _ (List.mem_cons_self ..),ex⟩
        · exact ⟨x,List.mem_append_right _ (List.mem_cons_of_mem _ q),ex⟩
    refine key a ?_;change redP s.red r.adr a = true at ha;unfold redP at ha
    by_cases q : a = r.adr
    · exact ⟨r,by simp,q.symm⟩
    · rw [if_neg q] at ha;exact h5 a ha
theorem Und.set {s : St} {bi k : Int} (h : Und s bi k) {i : Nat} (hi : i < s.rows.length) (f : Int × Int → Bool) : Und { s with rows:=s.rows.set i (shut (s.rows.getD i noR)),red:=f } bi (k + 1):=by
  intro x hx;rcases List.mem_or_eq_of_mem_set hx with q | q
  · have:=h x q;omega
  · subst q
    have:=h (s.rows.getD i noR) (by rw [getD_lt hi];exact List.getElem_mem hi)
    show (s.rows.getD i noR).blk < bi ∨ ((s.rows.getD i noR).blk = bi ∧ (s.rows.getD i noR).ent < k + 1)
    omega
theorem hit_some {s : St} {a : Int × Int} {i : Nat} (h : s.rows.findIdx? (hit s a) = some i) : i < s.rows.length ∧ (s.rows.getD i noR).adr = a ∧ (s.rows.getD i noR).del = false ∧ s.red a = false:=by
  obtain ⟨hi,h1,-⟩:=List.findIdx?_eq_some_iff_getElem.1 h;rw [getD_lt hi];unfold hit at h1;simp only [Bool.and_eq_true,decide_eq_true_eq,Bool.not_eq_true'] at h1;exact ⟨hi,Prod.ext h1.1.1.1 h1.1.1.2,h1.1.2,h1.2⟩
theorem entR_inv {s : St} (h : Inv s) {e : En} {bi k tim : Int} (hu : Und s bi k) (hf : formE e) (h0 : (entR s e bi k tim).1 = 0) : Inv (entR s e bi k tim).2 ∧ Und (entR s e bi k tim).2 bi (k + 1):=by
  have hup : Und s bi (k + 1):=fun r hr => by have:=hu r hr;omega
  revert h0
  unfold entR
  split
  · intro _;exact ⟨h,hup⟩
  · split
    · rename_i hk
      split
      · intro q;exact absurd q (show ¬ (3 : Int) = 0 by decide)
      · rename_i hc
        intro _;have hc' : (tabR s.cat e.table).2.2 = 0 ∧ fits s e = true:=by
          refine ⟨Decidable.byContradiction fun q => hc (.inl q),?_⟩;cases hq : fits s e with
          | true => rfl
          | false => exact absurd (.inr (.inr hq)) hc
        exact h.snoc hu hf hk hc'.1 hc'.2
    · split
      · split
        · rename_i i hi
          intro _;obtain ⟨hl,ha,-,-⟩:=hit_some hi;rw [← ha];exact ⟨h.shut hl,hu.set hl _⟩
        · intro q;exact absurd q (show ¬ (3 : Int) = 0 by decide)
      · intro _
        exact ⟨⟨fun r hr => tab_up (appL_len ..) (h.tab r hr),h.doc,h.ver,h.dis,h.red⟩,hup⟩
theorem runR_inv (b : Bk) : ∀ (l : List En) (k : Nat) (s : St),Inv s → Und s b.index k → (∀ e ∈ l,formE e) → (runR b l k s).1 = 0 → Inv (runR b l k s).2 ∧ Und (runR b l k s).2 b.index ((k + l.length : Nat) : Int)
  | [],k,s,h,hu,_,_ => ⟨h,hu⟩
  | e :: r,k,s,h,hu,hf,h0 => by
    unfold runR at h0 ⊢
    by_cases hc : (entR s e b.index k b.time).1 = 0
    · rw [if_pos hc] at h0 ⊢
      obtain ⟨h1,h2⟩:=entR_inv h hu (hf e (List.mem_cons_self ..)) hc;have:=runR_inv b r (k + 1) _ h1 h2 (fun x hx => hf x (List.mem_cons_of_mem _ hx)) h0;rw [List.length_cons]
      rwa [show k + (r.length + 1) = k + 1 + r.length by omega]
    · rw [if_neg hc] at h0
      exact absurd h0 hc
def InvN (s : St) : Prop:=Inv s ∧ ∀ r ∈ s.rows,r.blk < s.n
theorem inv0 : InvN st0:=⟨⟨(fun _ h => by cases h),(fun _ h => by cases h),fun _ => rfl,List.nodup_nil,(fun _ h => by cases h)⟩,(fun _ h => by cases h)⟩
theorem first_ok {α : Type} : ∀ {l : List α} {f : α → Int},firstBad (l.map f) = 0 → ∀ x ∈ l,f x = 0
  | [],_,_,x,hx => by cases hx
  | a :: r,f,h,x,hx => by
    rw [List.map_cons] at h;unfold firstBad at h
    by_cases q : f a = 0
    · rw [if_pos q] at h
      rcases List.mem_cons.1 hx with e | e
      · rw [e];exact q
      · exact first_ok h x e
    · rw [if_neg q] at h;exact absurd h q
theorem chk_form {b : Bk} (h : K.chkB b = 0) : (∀ e ∈ b.ents,formE e) ∧ 0 ≤ b.index ∧ 1 ≤ b.ents.length ∧ b.ents.length ≤ 200:=by
  unfold K.chkB at h
  split at h
  · rename_i hc
    refine ⟨fun e he => ?_,hc.1.1,hc.2.2.2⟩
    split at h
    · rename_i hq;exact absurd h hq
    · rename_i hq
      have h1:=first_ok (Decidable.byContradiction hq) e he;unfold K.chkE at h1
      split at h1
      · assumption
      · exact absurd h1 (by decide)
  · exact absurd h (by decide)
theorem appR_inv {s : St} (h : InvN s) (b : Bk) : InvN (appR s b).2:=by
  classical
  unfold appR
  split
  · exact h
  · rename_i hi
    split
    · exact h
    · rename_i hc
      obtain ⟨hf,-,-,-⟩:=chk_form (Decidable.byContradiction hc)
      split
      · rename_i h0
        have hu : Und s b.index 0:=fun r hr => .inl (by have:=h.2 r hr;omega);obtain ⟨h1,h2⟩:=runR_inv b b.ents 0 s h.1 hu hf h0;have hn:=runR_n' b b.ents 0 s;refine ⟨⟨h1.tab,h1.doc,h1.ver,h1.dis,h1.red⟩,fun r hr => ?_⟩;have:=h2 r hr
        show r.blk < (((s.n + 1 : Nat)) : Int)
        omega
      · exact h
theorem Inv.copy {s : St} (h : Inv s) : copyRed s.rows s.red = s.red:=by
  funext a
  unfold copyRed;cases q : s.red a with
  | false => rfl
  | true =>
    obtain ⟨r,hr,e⟩:=h.red a q;rw [Bool.true_and,List.any_eq_true];exact ⟨r,hr,by simpa using e⟩
end Vw
namespace Vw
open K (En Bk zV formE hashR noE)
structure Ac where
  kind : Int
  table : Int
  doc : Int
  pick : Int
  data : V
  field : ByteArray
  e : En
def verL (L : List Rw) (k : Int × Int) : Int:=match (Vw.of L k).getLast? with | some r => r.ver + 1 | none => 0
def verN (s : St) (t d : Int) : Int:=verL s.rows (t,d)
theorem verL_take {L : List Rw} {k : Int × Int} {i : Nat} (hi : i < L.length) : verL (L.take (i + 1)) k = if (L.getD i noR).key = k then (L.getD i noR).ver + 1 else verL (L.take i) k:=by
  unfold verL;rw [List.take_add_one,List.getElem?_eq_getElem hi,Option.toList_some,← getD_lt (d:=noR) hi,of_snoc]
  by_cases h : (L.getD i noR).key = k
  · rw [if_pos h,if_pos h,List.getLast?_append];rfl
  · rw [if_neg h,if_neg h,List.append_nil]
theorem verL_rng {L : List Rw} {k : Int × Int} (h : ∀ r ∈ L,-9223372036854775808 ≤ r.ver ∧ r.ver + 1 ≤ 9223372036854775807) : -9223372036854775808 ≤ verL L k ∧ verL L k ≤ 9223372036854775807:=by
  unfold verL
  split
  · rename_i r hr
    have:=h r ((List.mem_filter.1 (List.mem_of_getLast? hr)).1);omega
  · omega
def pickR (s : St) (p : Int) : Rw:=s.rows.getD ((bits .and .i64 p 65535).toNat % s.rows.length) noR
open Classical in
noncomputable def actE (s : St) (x : Ac) : En :=
  if x.kind = 0 then { noE with kind:=2,table:=x.table,doc:=next s x.table,data:=x.data,hash:=hashR x.data }
  else if x.kind = 1 then { noE with kind:=2,table:=x.table,doc:=x.doc,ver:=verN s x.table x.doc,data:=x.data,hash:=hashR x.data }
  else if x.kind = 2 then { noE with kind:=3,table:=x.table,doc:=x.doc,ver:=verN s x.table x.doc }
  else if x.kind = 3 then (if s.rows = [] then { noE with kind:=4 } else { noE with kind:=4,ab:=(pickR s x.pick).blk,ae:=(pickR s x.pick).ent })
  else if x.kind = 4 then { noE with kind:=5,table:=(s.cat.length : Int) + 1,text:=x.field }
  else if x.kind = 5 then { noE with kind:=6,table:=x.table }
  else if x.kind = 6 then { noE with kind:=7,table:=x.table,text:=x.field }
  else x.e
noncomputable def actsR (n : Nat) : List Ac → Nat → St → List En × St
  | [],_,s => ([],s)
  | x :: r,k,s => ((actE s x) :: (actsR n r (k + 1) (entR s (actE s x) n k (7 * n)).2).1,(actsR n r (k + 1) (entR s (actE s x) n k (7 * n)).2).2)
noncomputable def madeR (s : St) (l : List Ac) : Bk:={ index:=s.n,time:=7 * s.n,txn:=0,prev:=Dig.Z32,ents:=(actsR s.n l 0 s).1 }
theorem actsR_len (n : Nat) : ∀ (l : List Ac) (k : Nat) (s : St),(actsR n l k s).1.length = l.length
  | [],_,_ => rfl
  | x :: r,k,s => by
    unfold actsR;rw [List.length_cons,List.length_cons,actsR_len n r]
end Vw
namespace K
section
variable {fn : Func} {R : Ending → World → Prop} {l : Env} {w : World}
end
section
variable {n : NN} {Q : Exit → Act → World → Prop} {l : Env} {w : World} {ops : Array Oper} {o : Oper} {rest : List Oper} {d : Nat}
theorem made_rep (u : Value) (n : Nat) : (madeCells #[u] n).toList = List.replicate n u:=by
  apply List.ext_getElem
  · simp [madeCells]
  · intro i h1 h2
    simp [madeCells]
    have : i % 1 = 0:=by omega
    simp [this]
theorem WL.make {t e bytes : Nat} {x : Operand} {k : IntKind} {z : Value} (m : Nat) (u : Value) (hu : z.cells = #[u]) (hi : (Tryz.prog.info? e).map (fun i => (i.zero,i.size,i.bytes)) = some (some z,1,bytes)) (hg : o.guard = none) (hd : o.dst = some d) (hn : Nat.blt d n.n = true) (ho : o.op = .makeSlice t x x) (ht : tyOf ty t = some (.slice e 1))
    (hx : evl l x = some (.int k (m : Int))) (hb : bytes * m ≤ 140737488355328) (hm : m ≤ 140737488355328) (h : ∀ g w',Fresh w g w' e (List.replicate m u) → WL n ops Q rest ((d,.slice (some ⟨g,0,none⟩) m m) :: l) w') : WL n ops Q (o :: rest) l w:=by
  have hu2 : Tryz.prog.underlying t = some (.slice e):=(TyOk.of tyOk ht).1;obtain ⟨i,i1,i2,i3,i4⟩:=info_parts hi;have hb' : (i.bytes : Int) * (m : Int) ≤ 281474976710656:=by
    have : ((i.bytes * m : Nat) : Int) ≤ 281474976710656:=by rw [i4];omega
    rwa [Int.natCast_mul] at this
  have hr:=run_make (P:=Tryz.prog) w t e i z hu2 i1 i2 k k (m : Int) (m : Int) (by omega) (Int.le_refl _) hb' (by omega);simp only [Int.toNat_natCast,i3,Nat.mul_one,hu] at hr;refine WL.step hg hd hn (w':=w.alloc (.cells (madeCells #[u] m) e)) (fun a ha => ?_) (h w.heap.size _ ?_)
  · unfold execOp
    rw [ho];simp [ha.eval hx,hr,Result.andThen]
  · have : madeCells #[u] m = (List.replicate m u).toArray:=by rw [← made_rep]
    rw [this];exact Fresh.mk' w e _
end
end K
namespace Vw
open K
set_option maxRecDepth 100000
theorem rwC_data {r : Rw} {dc m : List Value} (hd : dc.length = 6) : (rwC r dc).take 3 ++ m ++ (rwC r dc).drop (3 + 6) = rwC r m:=by
  unfold rwC;simp only [List.take_succ_cons,List.take_zero,List.drop_succ_cons,List.cons_append,List.nil_append];rw [List.drop_append_of_le_length (by omega),List.drop_of_length_le (by omega),List.nil_append]
theorem rwC_len {r : Rw} {dc : List Value} (hd : dc.length = 6) : (rwC r dc).length = 14:=by simp [rwC,hd]
theorem rwC_one {r : Rw} {dc : List Value} (h1 : Ones dc) : Ones (rwC r dc):=by
  intro u hu;unfold rwC at hu;simp only [List.mem_cons,List.mem_append,List.not_mem_nil,or_false] at hu;rcases hu with rfl | rfl | rfl | hu | rfl | rfl | rfl | rfl | rfl
  all_goals first | rfl | exact h1 u hu
set_option maxHeartbeats 2000000 in
theorem rown_any {w : World} {f : Nat} {r : Rw} {dc : List Value} (hv : IsV f w r.data dc) (hsm : Sm 3000 f r.data) :
    Calls Tryz.prog 67 #[.agg (rwC r dc).toArray] w fun e w' => Below w.heap.size w w' ∧ ∃ dc',e = .returned (.agg (rwC r dc').toArray) ∧ IsVo (fun b => w.heap.size ≤ b) f w' r.data dc':=by
  have hdl:=hv.len;have hone:=IsV.one hv;refine enter (args:=[.agg (rwC r dc).toArray]) Tryz.func67 rfl Tryz.ntmps67 rfl ?_;refine K.kgn ?_;refine WL.box rfl rfl rfl rfl rfl fun g1 w1 f1 => ?_;have v1 : VBlk rrT w1 g1 (rwC r dc):=f1.blk;have b1:=f1.below;have e1:=f1.eq;have s1:=f1.size;clear f1;refine WL.alloc (z:=.agg (rwC noR zCells).toArray) rfl rfl rfl rfl (fun _ => by kernel_rfl) fun g2 w2 f2 => ?_;have v2 : VBlk rrT w2 g2 (rwC noR zCells):=f2.blk;have b2:=b1.trans (f2.below.mono b1.size);have e2:=f2.eq;replace v1:=VBlk.below v1 f2.below (VBlk.lt v1);have z1:=b1.size;clear f2;refine K.kgo ?_;refine WL.loadMid rfl rfl rfl rfl rfl rfl (RwAt.of (VBlk.rangeAt v1) hdl).data hdl ?_;refine WL.call rfl rfl rfl rfl rfl Tryz.func46 rfl (by kernel_rfl) (clone_any (B:=3000) (by omega) f (hv.below b2) hsm) ?_;rintro _ w3 ⟨b3,dc',rfl,hv3⟩;refine ⟨_,rfl,?_⟩;have hdl':=hv3.len;have l1:=VBlk.lt v1;have l2:=VBlk.lt v2;replace v1:=VBlk.below v1 b3 l1;replace v2:=VBlk.below v2 b3 l2;have bb:=b2.trans (b3.mono b2.size);refine K.kgo ?_;refine WL.storeMid rfl rfl rfl rfl rfl rfl v1 hdl' (by rw [rwC_len hdl];omega) hv3.one ?_;have v4:=VBlk.setRow v1 ((rwC r dc).take 3 ++ dc' ++ (rwC r dc).drop (3 + 6));have k4 : Keep (fun x => x ≠ g1) w3 (w3.setRow g1 ((rwC r dc).take 3 ++ dc' ++ (rwC r dc).drop (3 + 6)).toArray):=Cr.keepRow (Keep.refl _ _) (by simp) _;rw [rwC_data hdl] at v4 k4;change WL _ _ _ _ _ (w3.setRow g1 ((rwC r dc).take 3 ++ dc' ++ (rwC r dc).drop (3 + 6)).toArray);rw [rwC_data hdl];generalize w3.setRow g1 _ = w4 at v4 k4 ⊢;refine K.kgo ?_;refine WL.loadMid rfl rfl rfl rfl rfl rfl (VBlk.rangeAt v4) (rwC_len hdl') ?_;have v24:=v2.keep k4 (by omega);refine WL.storeRow rfl rfl rfl rfl rfl rfl v24 (rwC_len hdl') rfl (rwC_one hv3.one) ?_;have v5:=VBlk.setRow v24 (rwC r dc');have k5 : Keep (fun x => x ≠ g1 ∧ x ≠ g2) w3 (w4.setRow g2 (rwC r dc').toArray):=Cr.keepRow (k4.mono fun x hx => hx.1) (by simp) _;generalize w4.setRow g2 _ = w5 at v5 k5 ⊢;refine K.kgo ?_;exact WQ.retC rfl rfl rfl (rwC_len hdl') v5 ⟨((Keep.of_below bb).trans (k5.mono fun x (hx : x < w.heap.size) => ⟨by omega,by omega⟩)).below,dc',rfl,hv3.keep k5 (fun x hx _ => ⟨by omega,by omega⟩) fun x hx => by have:=b2.size;omega⟩
end Vw
end Go.Proofs.YtchgjaaadfjiiaaGreat
