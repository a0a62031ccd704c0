/-
  For every block, with its data or without, the law BlockEncodes answers true, and the arguments read as they did. No condition.
-/
import Derived.Test.YtlamdhekjlnccaaZLawBlkEnc4
import Derived.SizedLaws
import Derived.DataOpen
import Derived.ChangeMaps5
/- The document's blocks (chapter 11): u, Bytes, head, bytes. -/
namespace Go.Proofs.Ytlamdhekjlnccaa
open Go.RowKit
namespace K
theorem ru_any (u : Nat) (hu : u < 18446744073709551616) (w : World) :
    Calls Try.prog 49 #[.int .u64 u] w fun e w' => ∃ b, e = .returned b ∧ Bu w' b (uvB u) ∧ Below w.heap.size w w' ∧ ∀ g, b.ownBlock = some g → w.heap.size ≤ g := by
  refine enter (args := [.int .u64 u]) Try.func49 rfl Try.ntmps49 rfl ?_
  refine kgo ?_
  refine WL.call rfl rfl rfl rfl rfl Try.func35 rfl (by kernel_rfl) (ruvarint_any u hu w) ?_
  rintro _ w2 ⟨b, rfl, h1, h2, h3⟩
  refine ⟨_, rfl, ?_⟩
  refine kgo ?_
  exact WQ.ret1 rfl rfl ⟨b, rfl, h1, h2, h3⟩
theorem u64_in {x : Int} (h : 0 ≤ x) (h2 : x ≤ 9223372036854775807) : IntKind.u64.wrap x = ((x.toNat : Nat) : Int) := by rw [IntKind.wrap_u64]; omega
theorem u64_nat {x : Nat} (h2 : x ≤ 9223372036854775807) : IntKind.u64.wrap (x : Int) = ((x : Nat) : Int) := by rw [IntKind.wrap_u64]; omega
set_option maxHeartbeats 4000000 in
theorem rBytes_any {f : Nat} {w : World} {e : En} {cs : List Value} (h : IsE f w e cs) (hf : formE e) : Calls Try.prog 36 #[.agg cs.toArray] w (NewBu w (layE e)) := by
  obtain ⟨dc, rfl, hv, hdl, hone, hh, hby, -, -⟩ := h
  obtain ⟨hk, hta, hdo, hve, htx, hab, hae, -, -⟩ := formE_rng hf
  refine enter (args := [.agg (enC e dc).toArray]) Try.func36 rfl Try.ntmps36 rfl ?_
  refine kgo ?_
  refine WL.box rfl rfl rfl rfl rfl fun g wz hf1 => ?_
  have hf1' : Fresh w g wz 49 (enC e dc) := hf1
  clear hf1
  have A1 : EnAt 49 g wz e dc := ⟨hf1'.blk, hdl, hh⟩
  have hwz := hf1'.below
  clear hf1'
  have e8 : IntKind.u8.wrap e.kind = e.kind := by rw [IntKind.wrap_u8]; omega
  refine kgo ?_
  refine WL.load rfl rfl rfl rfl rfl rfl A1.kind ?_
  refine kgo ?_
  refine WL.lit rfl rfl rfl rfl rfl rfl rfl fun b0 w0 hb0 hk0 ho0 => ?_
  rw [e8] at hb0
  have a0 : Apart wz w0 b0 := ⟨hk0, ho0⟩
  have n0 : [e.kind].length ≤ 1 := Nat.le_refl _
  refine kgo ?_
  refine WL.load rfl rfl rfl rfl rfl rfl (A1.below a0.below).table ?_
  refine kgo ?_
  refine WL.call rfl rfl rfl rfl rfl Try.func49 rfl (by kernel_rfl) (by rw [u64_in (x := e.table) (by omega) (by omega)]; exact ru_any e.table.toNat (by omega) w0) ?_
  rintro _ x1 ⟨v1, rfl, hv1, hk1, -⟩
  refine ⟨_, rfl, ?_⟩
  have l1 := uvB_len (e.table.toNat)
  refine WL.app rfl rfl rfl rfl rfl (hb0.below hk1) rfl hv1.sl (by omega) fun b1 w1 hb1 hg1 => ?_
  have a1 : Apart wz w1 b1 := a0.grow (((Grow.refl w0 b0).below hk1).trans hg1)
  have n1 : ([e.kind] ++ uvB e.table.toNat).length ≤ 11 := by rw [List.length_append]; omega
  refine kgo ?_
  refine WL.load rfl rfl rfl rfl rfl rfl (A1.below a1.below).doc ?_
  refine kgo ?_
  refine WL.call rfl rfl rfl rfl rfl Try.func49 rfl (by kernel_rfl) (by rw [u64_in (x := e.doc) (by omega) (by omega)]; exact ru_any e.doc.toNat (by omega) w1) ?_
  rintro _ x2 ⟨v2, rfl, hv2, hk2, -⟩
  refine ⟨_, rfl, ?_⟩
  have l2 := uvB_len (e.doc.toNat)
  refine WL.app rfl rfl rfl rfl rfl (hb1.below hk2) rfl hv2.sl (by omega) fun b2 w2 hb2 hg2 => ?_
  have a2 : Apart wz w2 b2 := a1.grow (((Grow.refl w1 b1).below hk2).trans hg2)
  have n2 : ([e.kind] ++ uvB e.table.toNat ++ uvB e.doc.toNat).length ≤ 21 := by rw [List.length_append]; omega
  refine kgo ?_
  refine WL.load rfl rfl rfl rfl rfl rfl (A1.below a2.below).ver ?_
  refine kgo ?_
  refine WL.call rfl rfl rfl rfl rfl Try.func49 rfl (by kernel_rfl) (by rw [u64_in (x := e.ver) (by omega) (by omega)]; exact ru_any e.ver.toNat (by omega) w2) ?_
  rintro _ x3 ⟨v3, rfl, hv3, hk3, -⟩
  refine ⟨_, rfl, ?_⟩
  have l3 := uvB_len (e.ver.toNat)
  refine WL.app rfl rfl rfl rfl rfl (hb2.below hk3) rfl hv3.sl (by omega) fun b3 w3 hb3 hg3 => ?_
  have a3 : Apart wz w3 b3 := a2.grow (((Grow.refl w2 b2).below hk3).trans hg3)
  have n3 : ([e.kind] ++ uvB e.table.toNat ++ uvB e.doc.toNat ++ uvB e.ver.toNat).length ≤ 31 := by rw [List.length_append]; omega
  refine kgo ?_
  refine WL.load rfl rfl rfl rfl rfl rfl (A1.below a3.below).text ?_
  refine kgo ?_
  refine WL.call rfl rfl rfl rfl rfl Try.func49 rfl (by kernel_rfl) (by rw [u64_nat (x := e.text.size) (by omega)]; exact ru_any e.text.size (by omega) w3) ?_
  rintro _ x4 ⟨v4, rfl, hv4, hk4, -⟩
  refine ⟨_, rfl, ?_⟩
  have l4 := uvB_len (e.text.size)
  refine WL.app rfl rfl rfl rfl rfl (hb3.below hk4) rfl hv4.sl (by omega) fun b4 w4 hb4 hg4 => ?_
  have a4 : Apart wz w4 b4 := a3.grow (((Grow.refl w3 b3).below hk4).trans hg4)
  have n4 : ([e.kind] ++ uvB e.table.toNat ++ uvB e.doc.toNat ++ uvB e.ver.toNat ++ uvB e.text.size).length ≤ 41 := by rw [List.length_append]; omega
  refine kgo ?_
  refine WL.load rfl rfl rfl rfl rfl rfl (A1.below a4.below).text ?_
  refine WL.appS rfl rfl rfl rfl rfl hb4 rfl (by omega) fun b5 w5 hb5 hg5 => ?_
  have a5 : Apart wz w5 b5 := a4.grow hg5
  have n5 : ([e.kind] ++ uvB e.table.toNat ++ uvB e.doc.toNat ++ uvB e.ver.toNat ++ uvB e.text.size ++ bytesI e.text).length ≤ 5000 := by rw [List.length_append, bytesI_len]; omega
  refine kgo ?_
  refine WL.load rfl rfl rfl rfl rfl rfl (A1.below a5.below).ab ?_
  refine kgo ?_
  refine WL.call rfl rfl rfl rfl rfl Try.func49 rfl (by kernel_rfl) (by rw [u64_in (x := e.ab) (by omega) (by omega)]; exact ru_any e.ab.toNat (by omega) w5) ?_
  rintro _ x6 ⟨v6, rfl, hv6, hk6, -⟩
  refine ⟨_, rfl, ?_⟩
  have l6 := uvB_len (e.ab.toNat)
  refine WL.app rfl rfl rfl rfl rfl (hb5.below hk6) rfl hv6.sl (by omega) fun b6 w6 hb6 hg6 => ?_
  have a6 : Apart wz w6 b6 := a5.grow (((Grow.refl w5 b5).below hk6).trans hg6)
  have n6 : ([e.kind] ++ uvB e.table.toNat ++ uvB e.doc.toNat ++ uvB e.ver.toNat ++ uvB e.text.size ++ bytesI e.text ++ uvB e.ab.toNat).length ≤ 5010 := by rw [List.length_append]; omega
  refine kgo ?_
  refine WL.load rfl rfl rfl rfl rfl rfl (A1.below a6.below).ae ?_
  refine kgo ?_
  refine WL.call rfl rfl rfl rfl rfl Try.func49 rfl (by kernel_rfl) (by rw [u64_in (x := e.ae) (by omega) (by omega)]; exact ru_any e.ae.toNat (by omega) w6) ?_
  rintro _ x7 ⟨v7, rfl, hv7, hk7, -⟩
  refine ⟨_, rfl, ?_⟩
  have l7 := uvB_len (e.ae.toNat)
  refine WL.app rfl rfl rfl rfl rfl (hb6.below hk7) rfl hv7.sl (by omega) fun b7 w7 hb7 hg7 => ?_
  have a7 : Apart wz w7 b7 := a6.grow (((Grow.refl w6 b6).below hk7).trans hg7)
  have n7 : ([e.kind] ++ uvB e.table.toNat ++ uvB e.doc.toNat ++ uvB e.ver.toNat ++ uvB e.text.size ++ bytesI e.text ++ uvB e.ab.toNat ++ uvB e.ae.toNat).length ≤ 5020 := by rw [List.length_append]; omega
  have hb7' : Bu w7 b7 (e.kind :: (uvB e.table.toNat ++ (uvB e.doc.toNat ++ (uvB e.ver.toNat ++ (uvB e.text.size ++ (byI e.text ++ (uvB e.ab.toNat ++ uvB e.ae.toNat))))))) := by simpa [List.append_assoc, bytesI, byI] using hb7
  have A7 := A1.below a7.below
  have own : ∀ {wx : World} {bx : Value}, Apart wz wx bx → Below w.heap.size w wx ∧ ∀ g, bx.ownBlock = some g → w.heap.size ≤ g := fun h => ⟨hwz.trans (h.below.mono hwz.size), fun g hg => Nat.le_trans hwz.size (h.own g hg)⟩
  refine kgo ?_
  refine WL.load rfl rfl rfl rfl rfl rfl A7.kind ?_
  by_cases k2 : e.kind = 2
  · refine kgo ?_
    refine WL.all rfl rfl rfl rfl rfl rfl ?_
    refine WL.app rfl rfl rfl rfl rfl hb7 rfl (hash_sl A7.hash hh A7.blk.lt) (by omega) fun b8 w8 hb8 hg8 => ?_
    refine kgo ?_
    refine WQ.ret1 rfl rfl ⟨b8, rfl, ?_, own (a7.grow hg8)⟩
    unfold layE
    rw [if_pos k2]
    simpa [List.append_assoc, bytesI, byI] using hb8
  · refine kgo ?_
    refine WQ.ret1 rfl rfl ⟨b7, rfl, ?_, own a7⟩
    unfold layE
    rw [if_neg k2, List.append_nil]
    exact hb7'
theorem rhead_any {f : Nat} {w : World} {b : Bk} {cs : List Value} (h : IsB f w b cs) : Calls Try.prog 34 #[.agg cs.toArray] w (NewBu w (headL b)) := by
  obtain ⟨se, rfl, hents, hpl, hpb, hi, ht, hx⟩ := h
  refine enter (args := [.agg (bkC b se).toArray]) Try.func34 rfl Try.ntmps34 rfl ?_
  refine kgo ?_
  refine WL.box rfl rfl rfl rfl rfl fun g w1 hf => ?_
  have hf' : Fresh w g w1 26 (bkC b se) := hf
  clear hf
  have hw1 := hf'.below
  have B1 : BkAt 26 g w1 b se := ⟨hf'.blk, hpl⟩
  clear hf'
  refine kgo ?_
  refine WL.load rfl rfl rfl rfl rfl rfl B1.index ?_
  refine kgo ?_
  refine WL.load rfl rfl rfl rfl rfl rfl B1.time ?_
  refine kgo ?_
  refine WL.load rfl rfl rfl rfl rfl rfl B1.txn ?_
  refine WL.litV [.int .i64 b.index, .int .i64 b.time, .int .i64 b.txn] rfl rfl rfl rfl rfl rfl (by kernel_rfl) fun lg w2 hf2 => ?_
  have hf2' : Fresh w1 lg w2 3 [.int .i64 b.index, .int .i64 b.time, .int .i64 b.txn] := hf2
  clear hf2
  have hw2 := hf2'.below
  have H2 := hf2'.blk
  clear hf2'
  have B2 := B1.below hw2
  have hN : ∃ N : List Int, N = [b.index, b.time, b.txn] := ⟨_, rfl⟩
  obtain ⟨N, hN⟩ := hN
  have hNg : ∀ i, i < 3 → [Value.int .i64 b.index, .int .i64 b.time, .int .i64 b.txn][i]? = some (.int .i64 (N.getD i 0)) ∧ R64 (N.getD i 0) := fun i hi => by
    rw [hN]
    match i, hi with
    | 0, _ => exact ⟨rfl, by assumption⟩
    | 1, _ => exact ⟨rfl, ht⟩
    | 2, _ => exact ⟨rfl, hx⟩
  have hpl2 : ∀ i, i ≤ 3 → ((N.take i).flatMap fun n => uvB n.toNat).length ≤ 10 * i := fun i hi => by
    have h1 := uvB_len b.index.toNat
    have h2 := uvB_len b.time.toNat
    have h3 := uvB_len b.txn.toNat
    rw [hN]
    match i, hi with
    | 0, _ => simp
    | 1, _ => simp; omega
    | 2, _ => simp; omega
    | 3, _ => simp only [List.take_succ_cons, List.take_zero, List.flatMap_cons, List.flatMap_nil, List.length_append, List.length_nil]; omega
  refine kgo ?_
  refine WC.loop (fun i : Nat × Value => [(1, .pointer (some ⟨g, 0, none⟩)), (3, i.2), (4, .slice (some ⟨lg, 0, none⟩) 3 3), (5, .int .i64 i.1)])
    (fun i wx => i.1 ≤ 3 ∧ Bu wx i.2 ((N.take i.1).flatMap fun n => uvB n.toNat) ∧ Apart w2 wx i.2) (fun i => 3 - i.1) (0, .slice none 0 0) ⟨rfl, rfl, rfl, rfl, trivial⟩ ⟨Nat.zero_le _, by simpa using Bu.nil w2, ⟨Below.refl _ _, fun g hg => by cases hg⟩⟩ ?_
  rintro ⟨i, br⟩ wr ⟨hi3, hbr, har⟩
  simp only at hi3 hbr har ⊢
  have hpi := hpl2 i hi3
  by_cases hik : i < 3
  · obtain ⟨hn1, hn2⟩ := hNg i hik
    have hcell : wr.cell? ⟨lg, 0 + i, none⟩ = some (.int .i64 (N.getD i 0)) := VBlk.rangeAt (H2.below har.below H2.lt) i _ hn1
    refine kgo ?_
    refine WL.idx i (0 + i) rfl rfl rfl rfl rfl rfl rfl rfl hik (by omega) ?_
    refine WL.load rfl rfl rfl rfl rfl rfl hcell ?_
    have e := max0 (N.getD i 0) hn2
    have hul := uvB_len (N.getD i 0).toNat
    have hun : (N.getD i 0).toNat < 18446744073709551616 := by omega
    have hNl : N.length = 3 := by rw [hN]; rfl
    have htk : N.take (i + 1) = N.take i ++ [N.getD i 0] := by rw [List.take_add_one]; simp [show i < N.length by omega]
    generalize N.getD i 0 = x at e hul hun htk
    refine kgo ?_
    refine WL.call rfl rfl rfl rfl rfl Try.func35 rfl (by kernel_rfl) (by rw [show (bif false then (if (0 : Int) > x then x else 0) else (if x > 0 then x else 0)) = (if x > 0 then x else 0) from rfl, e]; exact ruvarint_any x.toNat hun wr) ?_
    rintro _ w3 ⟨b3, rfl, hb3, hk3, -⟩
    refine ⟨_, rfl, ?_⟩
    refine WL.app rfl rfl rfl rfl rfl (hbr.below hk3) rfl hb3.sl (by omega) fun b4 w4 hb4 hg4 => ?_
    refine kgo ?_
    refine WQ.again (i + 1, b4) ⟨rfl, rfl, rfl, rfl, trivial⟩ ⟨hik, ?_, har.grow (((Grow.refl wr br).below hk3).trans hg4)⟩ (by show 3 - (i + 1) < 3 - i; omega)
    show Bu w4 b4 ((N.take (i + 1)).flatMap _)
    rw [htk, List.flatMap_append]
    simpa using hb4
  · obtain rfl : i = 3 := by omega
    have B3 := B2.below har.below
    refine kgo ?_
    refine WL.all rfl rfl rfl rfl rfl rfl ?_
    refine WL.app rfl rfl rfl rfl rfl hbr rfl (hash_sl B3.prev hpl B3.blk.lt) (by omega) fun b4 w4 hb4 hg4 => ?_
    have a4 := har.grow hg4
    have hw12 := hw1.trans (hw2.mono hw1.size)
    refine kgo ?_
    refine WQ.ret1 rfl rfl ⟨b4, rfl, ?_, hw12.trans (a4.below.mono hw12.size), fun g hg => Nat.le_trans hw12.size (a4.own g hg)⟩
    rw [hN] at hb4
    unfold headL
    simpa [List.append_assoc] using hb4
set_option maxHeartbeats 8000000 in
theorem rbytes11_any {f : Nat} {w : World} {b : Bk} {cs : List Value} (data : Bool) (h : IsB f w b cs) (hck : ∀ e ∈ b.ents, chkE e = 0) (hle : b.ents.length ≤ 200) : Calls Try.prog 19 #[.agg cs.toArray, .bool data] w (NewBu w (layB data b)) := by
  have hall := h
  have hhs := BkP.hashes h
  have hcl := h.len
  obtain ⟨se, rfl, hents, hpl, hpb, hr⟩ := h
  obtain ⟨sp, cap, rfl⟩ := hents.slice
  refine enter (args := [.agg (bkC b (.slice sp b.ents.length cap)).toArray, .bool data]) Try.func19 rfl Try.ntmps19 rfl ?_
  refine kgo ?_
  refine WL.box rfl rfl rfl rfl rfl fun g w1 hf => ?_
  have hf' : Fresh w g w1 26 (bkC b (.slice sp b.ents.length cap)) := hf
  clear hf
  have hw1 := hf'.below
  have B1 : BkAt 26 g w1 b (.slice sp b.ents.length cap) := ⟨hf'.blk, hpl⟩
  clear hf'
  have hhl : (headL b).length ≤ 70 := by
    have h1 := uvB_len b.index.toNat
    have h2 := uvB_len b.time.toNat
    have h3 := uvB_len b.txn.toNat
    unfold headL; simp only [List.length_append]; omega
  have hun := uvB_len b.ents.length
  have eK : IntKind.u64.wrap (b.ents.length : Int) = ((b.ents.length : Nat) : Int) := u64_nat (by omega)
  refine kgo ?_
  refine WC.drawn 6 (fun wx => BkAt 26 g wx b (.slice sp b.ents.length cap)) fun w2 hd2 => ?_
  have hS : BkAt 26 g w2 b (.slice sp b.ents.length cap) := B1.below (hd2.below _)
  have hd12 : Below w1.heap.size w1 w2 := hd2.below _
  have hw2 := hw1.trans (hd12.mono hw1.size)
  refine WD.loadMid 0 [1, 6, 7, 8] rfl (by kernel_rfl) rfl rfl (fun _ _ _ _ _ h => h) rfl rfl rfl rfl (fun wx hx => VBlk.rangeAt hx.blk) hcl hS ?_
  (((first | refine WD.free 2 rfl (by kernel_rfl) rfl rfl (fun _ _ _ _ _ h => h) rfl rfl (.inr hS) ?_ | refine WD.skip 2 rfl (by kernel_rfl) rfl rfl (fun _ _ _ _ _ h => h) rfl (.inr hS) ?_); try (first | ((with_reducible refine WD.topT ?_ ?_); omega) | ((with_reducible refine WD.topF ?_ ?_); omega) | ((with_reducible refine WD.top64 ?_ ?_); omega))))
  refine WD.load 3 [4, 5, 6, 7, 8] rfl (by kernel_rfl) rfl rfl (fun _ _ _ _ _ h => h) rfl rfl rfl rfl (fun wx hx => hx.ents) hS ?_
  (((first | refine WD.free 4 rfl (by kernel_rfl) rfl rfl (fun _ _ _ _ _ h => h) rfl rfl (.inr hS) ?_ | refine WD.skip 4 rfl (by kernel_rfl) rfl rfl (fun _ _ _ _ _ h => h) rfl (.inr hS) ?_); try (first | ((with_reducible refine WD.topT ?_ ?_); omega) | ((with_reducible refine WD.topF ?_ ?_); omega) | ((with_reducible refine WD.top64 ?_ ?_); omega))); ((first | refine WD.free 5 rfl (by kernel_rfl) rfl rfl (fun _ _ _ _ _ h => h) rfl rfl (.inr hS) ?_ | refine WD.skip 5 rfl (by kernel_rfl) rfl rfl (fun _ _ _ _ _ h => h) rfl (.inr hS) ?_); try (first | ((with_reducible refine WD.topT ?_ ?_); omega) | ((with_reducible refine WD.topF ?_ ?_); omega) | ((with_reducible refine WD.top64 ?_ ?_); omega))))
  refine WD.one 1 (by kernel_rfl) rfl ?_
  refine WL.call rfl rfl rfl rfl rfl Try.func34 rfl (by kernel_rfl) (rhead_any (IsB.below hw2 hall)) ?_
  rintro _ w3 ⟨b3, rfl, hb3, hk3, ho3⟩
  refine ⟨_, rfl, ?_⟩
  refine WL.nil (WQ.dk (.inr (hS.below hk3)) ?_)
  refine WD.one 6 (by kernel_rfl) rfl ?_
  refine WL.call rfl rfl rfl rfl rfl Try.func35 rfl (by kernel_rfl) (by rw [eK]; exact ruvarint_any b.ents.length (by omega) w3) ?_
  rintro _ w4 ⟨b4, rfl, hb4, hk4, -⟩
  refine ⟨_, rfl, ?_⟩
  refine WL.nil (WQ.dk (.inl rfl) ?_)
  refine WD.one 7 (by kernel_rfl) rfl ?_
  refine WL.app rfl rfl rfl rfl rfl (hb3.below hk4) rfl hb4.sl (by omega) fun b5 w5 hb5 hg5 => ?_
  refine WL.nil (WQ.dk (.inl rfl) ?_)
  refine WD.one 8 (by kernel_rfl) rfl ?_
  refine WL.pure rfl rfl rfl rfl ?_
  refine WL.nil (WQ.dk (.inl rfl) ?_)
  refine WD.done (by kernel_rfl) ?_
  have a3 : Apart w1 w3 b3 := ⟨hd12.trans (hk3.mono hd12.size), fun g hg => Nat.le_trans hd12.size (ho3 g hg)⟩
  have a5 : Apart w1 w5 b5 := a3.grow (((Grow.refl w3 b3).below hk4).trans hg5)
  have hM : (headL b ++ uvB b.ents.length).length ≤ 80 := by rw [List.length_append]; omega
  have hML : layB data b = (headL b ++ uvB b.ents.length) ++ b.ents.flatMap fun e => layE e ++ layD data e := by unfold layB; rw [List.append_assoc]
  generalize headL b ++ uvB b.ents.length = M at hb5 hM hML
  refine kgo ?_
  refine WC.loop (fun i : Nat × Value => [(1, .bool data), (2, .pointer (some ⟨g, 0, none⟩)), (5, i.2), (6, .int .i64 i.1)])
    (fun i w' => i.1 ≤ b.ents.length ∧ Bu w' i.2 (M ++ (b.ents.take i.1).flatMap fun e => layE e ++ layD data e) ∧ Apart w1 w' i.2) (fun i => b.ents.length - i.1) (0, b5) ⟨rfl, rfl, rfl, rfl, trivial⟩ ⟨Nat.zero_le _, by simpa using hb5, a5⟩ ?_
  rintro ⟨i, br⟩ wr ⟨hi, hbr, har⟩
  simp only at hi hbr har ⊢
  have Br := B1.below har.below
  have hwr : Below w.heap.size w wr := hw1.trans (har.below.mono hw1.size)
  refine kgo ?_
  refine WL.load rfl rfl rfl rfl rfl rfl Br.ents ?_
  by_cases hik : i < b.ents.length
  · have hlen : (M ++ (b.ents.take i).flatMap fun e => layE e ++ layD data e).length ≤ 80 + 80000 * 200 := by
      have := layXs_len (data := data) (b.ents.take i) fun e he => ⟨hck e (List.mem_of_mem_take he), (hhs e (List.mem_of_mem_take he)).1⟩
      rw [List.length_take] at this
      rw [List.length_append]
      have h2 : min i b.ents.length ≤ 200 := by omega
      have := Nat.mul_le_mul_left 80000 h2
      omega
    have hts := take_snoc b.ents noE hik
    obtain ⟨kb, ko, cap', cs, hse, hkb, hc46, hce, hcr⟩ := hents.at hik
    injection hse with hse1 _ hse2
    subst hse1; subst hse2
    have hmem : b.ents.getD i noE ∈ b.ents := by simp [hik]
    have hce0 := hck _ hmem
    have hh32 := (hhs _ hmem).1
    obtain ⟨hform, hdat⟩ := chkE_ok hce0
    obtain ⟨hkd, -, -, -, htx, -⟩ := formE_rng hform
    generalize b.ents.getD i noE = e at hce hce0 hh32 hform hdat hkd htx hts
    generalize hLL : (M ++ (b.ents.take i).flatMap fun e => layE e ++ layD data e) = L at hbr hlen
    have hle := layE_len e hh32
    have again : ∀ {wx : World} {bx : Value}, Bu wx bx (L ++ (layE e ++ layD data e)) → Apart w1 wx bx → Bu wx bx (M ++ (b.ents.take (i + 1)).flatMap fun e => layE e ++ layD data e) ∧ Apart w1 wx bx := fun {wx bx} h1 h2 => by
      rw [hts, List.flatMap_append, ← List.append_assoc, hLL]
      exact ⟨by simpa using h1, h2⟩
    have hone := hce.one
    have hce' := hce
    obtain ⟨dc, rfl, hv, hdl, -, hh, -⟩ := hce
    refine kgo ?_
    refine WL.load rfl rfl rfl rfl rfl rfl Br.ents ?_
    refine kgo ?_
    refine WL.idx i (ko + i * 46) rfl rfl rfl rfl rfl rfl rfl rfl hik rfl ?_
    refine WL.loadMid rfl rfl rfl rfl rfl rfl (fun j u hu => (hwr.cell (p := ⟨kb, ko + i * 46 + j, none⟩) hkb).trans (hcr j u hu)) hc46 ?_
    refine WL.alloc (z := .agg (enC noE zCells).toArray) rfl rfl rfl rfl (fun _ => by kernel_rfl) fun c w5 hf5 => ?_
    have hf5' : Fresh wr c w5 49 (enC noE zCells) := hf5
    clear hf5
    refine kgo ?_
    refine WL.storeRow rfl rfl rfl rfl rfl rfl hf5'.blk hc46 (by rfl) hone ?_
    have hk6 : Below wr.heap.size wr (w5.setRow c (enC e dc).toArray) := below_setRow hf5'.below (by rw [hf5'.eq]; exact Nat.le_refl _) _
    have C6 : EnAt 49 c (w5.setRow c (enC e dc).toArray) e dc := ⟨hf5'.blk.setRow _, hdl, hh⟩
    have hce5 := hf5'.eq
    generalize w5.setRow c (enC e dc).toArray = w6 at hk6 C6
    clear hf5'
    have hw6 := hwr.trans (hk6.mono hwr.size)
    have hb6 := hbr.below hk6
    have a6 : Apart w1 w6 br := har.grow ((Grow.refl wr br).below hk6)
    refine kgo ?_
    refine WL.loadMid rfl rfl rfl rfl rfl rfl (VBlk.rangeAt C6.blk) hc46 ?_
    refine WL.call rfl rfl rfl rfl rfl Try.func36 rfl (by kernel_rfl) (rBytes_any (IsE.below hw6 hce') hform) ?_
    rintro _ w7 ⟨b7, rfl, hb7, hk7, ho7⟩
    refine ⟨_, rfl, ?_⟩
    have C7 := C6.below hk7
    have hcw7 := C7.blk.lt
    refine WL.app rfl rfl rfl rfl rfl (hb6.below hk7) rfl hb7.sl (by omega) fun b8 w8 hb8 hg8 => ?_
    have a8 : Apart w1 w8 b8 := a6.grow (((Grow.refl w6 br).below hk7).trans hg8)
    have hbo : br.ownBlock ≠ some c := fun e => by have := hbr.lt _ e; omega
    have C8 : EnAt 49 c w8 e dc := C7.keep hg8.1 ⟨hcw7, hbo⟩
    have n8 : (L ++ layE e).length ≤ 16100000 := by rw [List.length_append]; omega
    have hw8 : Below w.heap.size w w8 := hw1.trans (a8.below.mono hw1.size)
    refine kgo ?_
    refine WL.load rfl rfl rfl rfl rfl rfl C8.kind ?_
    by_cases k2 : e.kind = 2
    rotate_left
    · have hX : layD data e = [] := by unfold layD; rw [if_neg k2]
      refine kgo ?_
      exact WQ.again (i + 1, b8) ⟨rfl, rfl, rfl, rfl, trivial⟩ ⟨hik, again (by rw [hX, List.append_nil]; exact hb8) a8⟩ (by show b.ents.length - (i + 1) < b.ents.length - i; omega)
    refine kgo ?_
    refine WL.load rfl rfl rfl rfl rfl rfl C8.gone ?_
    by_cases hgd : e.gone = true ∨ data = false
    · have hX : layD data e = [0] := by unfold layD; rw [if_pos k2, if_pos hgd]
      have hcase : e.gone = true ∨ (e.gone = false ∧ data = false) := by
        cases hq : e.gone with
        | true => exact .inl rfl
        | false => exact .inr ⟨rfl, hgd.resolve_left (by rw [hq]; simp)⟩
      rcases hcase with hq | ⟨hq, hdf⟩
      · rw [hq]
        refine kgo ?_
        refine WL.push rfl rfl rfl rfl rfl rfl rfl rfl rfl rfl rfl (fun _ => rfl) rfl hb8 (by simp only [List.length_cons, List.length_nil]; omega) fun b9 w9 hb9 g9 => ?_
        refine kgo ?_
        exact WQ.again (i + 1, b9) ⟨rfl, rfl, rfl, rfl, trivial⟩ ⟨hik, again (by rw [hX, ← List.append_assoc]; exact hb9) (a8.grow g9)⟩ (by show b.ents.length - (i + 1) < b.ents.length - i; omega)
      · rw [hq]
        subst hdf
        refine kgo ?_
        refine WL.push rfl rfl rfl rfl rfl rfl rfl rfl rfl rfl rfl (fun _ => rfl) rfl hb8 (by simp only [List.length_cons, List.length_nil]; omega) fun b9 w9 hb9 g9 => ?_
        refine kgo ?_
        exact WQ.again (i + 1, b9) ⟨rfl, rfl, rfl, rfl, trivial⟩ ⟨hik, again (by rw [hX, ← List.append_assoc]; exact hb9) (a8.grow g9)⟩ (by show b.ents.length - (i + 1) < b.ents.length - i; omega)
    · have hgf : e.gone = false := by cases hq : e.gone with
        | true => exact absurd (.inl hq) hgd
        | false => rfl
      obtain rfl : data = true := by cases data with
        | true => rfl
        | false => exact absurd (.inr rfl) hgd
      have hX : layD true e = 1 :: (uvB (encR e.data).1.length ++ (encR e.data).1) := by unfold layD; rw [if_pos k2, if_neg hgd]
      obtain ⟨he, -⟩ := hdat k2 hgf
      obtain ⟨hc, hl65, hx⟩ := encR_ok he
      have hun := uvB_len (encR e.data).1.length
      rw [← hx] at hl65
      rw [hgf]
      refine kgo ?_
      refine WL.loadMid rfl rfl rfl rfl rfl rfl C8.data hdl ?_
      refine WL.call rfl rfl rfl rfl rfl Try.func37 rfl (by kernel_rfl) (rencode_any (hv.below hw8) fun _ => by rw [← hx]; omega) ?_
      rintro _ w9 ⟨b9, rfl, hb9, hk9, ho9⟩
      refine ⟨_, rfl, ?_⟩
      obtain ⟨sp9, cap9, rfl, -⟩ := hb9.form
      have hb89 := hb8.below hk9
      have a9 : Apart w1 w9 b8 := a8.grow ((Grow.refl w8 b8).below hk9)
      refine kgo ?_
      refine WL.push rfl rfl rfl rfl rfl rfl rfl rfl rfl rfl rfl (fun _ => rfl) rfl hb89 (by simp only [List.length_cons, List.length_nil]; omega) fun b10 w10 hb10 g10 => ?_
      have n10 : ((L ++ layE e) ++ [1]).length ≤ 16100001 := by rw [List.length_append]; simp only [List.length_cons, List.length_nil]; omega
      refine kgo ?_
      refine WL.call rfl rfl rfl rfl rfl Try.func35 rfl (by kernel_rfl) (by rw [u64_nat (x := (encR e.data).1.length) (by omega)]; exact ruvarint_any (encR e.data).1.length (by omega) w10) ?_
      rintro _ w11 ⟨b11, rfl, hb11, hk11, -⟩
      refine ⟨_, rfl, ?_⟩
      refine WL.app rfl rfl rfl rfl rfl (hb10.below hk11) rfl hb11.sl (by omega) fun b12 w12 hb12 g12 => ?_
      have g11 : Grow w10 b10 w11 b10 := (Grow.refl w10 b10).below hk11
      have hgall : Grow w9 b8 w12 b12 := g10.trans (g11.trans g12)
      have hs12 : Sl .u8 w12 (.slice sp9 (encR e.data).1.length cap9) (encR e.data).1 := hb9.sl.keep hgall.1 fun b o n c hb hlt => ⟨hlt, fun e1 => by
        injection hb with hb1 _ _
        have h1 := ho9 b (by rw [hb1]; rfl)
        have h2 := hb8.lt _ e1
        omega⟩
      have n12 : (((L ++ layE e) ++ [1]) ++ uvB (encR e.data).1.length).length ≤ 16100011 := by rw [List.length_append]; omega
      refine kgo ?_
      refine WL.app rfl rfl rfl rfl rfl hb12 rfl hs12 (by omega) fun b13 w13 hb13 g13 => ?_
      refine kgo ?_
      exact WQ.again (i + 1, b13) ⟨rfl, rfl, rfl, rfl, trivial⟩ ⟨hik, again (by rw [hX]; simpa [List.append_assoc] using hb13) (a9.grow (hgall.trans g13))⟩ (by show b.ents.length - (i + 1) < b.ents.length - i; omega)
  · obtain rfl : i = b.ents.length := by omega
    rw [List.take_length] at hbr
    refine kgo ?_
    refine WQ.ret1 rfl rfl ⟨br, rfl, ?_, hwr, fun g hg => Nat.le_trans hw1.size (har.own g hg)⟩
    rw [hML]
    exact hbr
end K
end Go.Proofs.Ytlamdhekjlnccaa

/- The document's blocks (chapter 11): May, Check, Encode. -/
namespace Go.Proofs.Ytlamdhekjlnccaa
open Go.RowKit
namespace K
theorem rmay_any {f : Nat} {w : World} {e : En} {cs : List Value} (h : IsE f w e cs) (hlen : chk 16 e.data = 0 → (encV 16 e.data).length ≤ 70368744177664) :
    Calls Try.prog 33 #[.agg cs.toArray] w fun r w' => r = .returned (.int .i64 (chkE e)) ∧ Below w.heap.size w w' := by
  obtain ⟨dc, rfl, hv, hdl, hone, hh, hby, htx, hr⟩ := h
  have hall : EnP (IsV f w) e (enC e dc) := ⟨dc, rfl, hv, hdl, hone, hh, hby, htx, hr⟩
  refine enter (args := [.agg (enC e dc).toArray]) Try.func33 rfl Try.ntmps33 rfl ?_
  refine kgo ?_
  refine WL.box rfl rfl rfl rfl rfl fun g w1 hf => ?_
  have hf' : Fresh w g w1 49 (enC e dc) := hf
  clear hf
  have B1 : EnAt _ g w1 e dc := ⟨hf'.blk, hdl, hh⟩
  have hw1 := hf'.below
  clear hf'
  refine kgo ?_
  refine WL.loadMid rfl rfl rfl rfl rfl rfl (VBlk.rangeAt B1.blk) B1.len ?_
  refine WL.call rfl rfl rfl rfl rfl Try.func47 rfl (by kernel_rfl) (rform_any (IsE.below hw1 hall)) ?_
  rintro _ w2 ⟨⟨b, rfl, hb⟩, hk2⟩
  refine ⟨_, rfl, ?_⟩
  have hw2 := hw1.trans (hk2.mono hw1.size)
  have B2 := B1.below hk2
  cases b with
  | false =>
    have hf : ¬ formE e := fun h => by have := hb.2 h; cases this
    refine kgo ?_
    exact WQ.ret1 rfl rfl ⟨by unfold chkE; rw [if_neg hf], hw2⟩
  | true =>
    have hf := hb.1 rfl
    refine kgo ?_
    refine WL.load rfl rfl rfl rfl rfl rfl B2.kind ?_
    by_cases k2 : e.kind = 2
    rotate_left
    · refine kgo ?_
      exact WQ.ret1 rfl rfl ⟨by unfold chkE; rw [if_pos hf, if_pos (.inl k2)], hw2⟩
    refine kgo ?_
    refine WL.load rfl rfl rfl rfl rfl rfl B2.gone ?_
    cases hg : e.gone with
    | true =>
      refine kgo ?_
      exact WQ.ret1 rfl rfl ⟨by unfold chkE; rw [if_pos hf, if_pos (.inr hg)], hw2⟩
    | false =>
      have hc0 : chkE e = if (encR e.data).2 ≠ 0 then (encR e.data).2 else if hashR e.data = e.hash then 0 else 18 := by unfold chkE; rw [if_pos hf, if_neg (by simp [k2, hg])]
      refine kgo ?_
      refine WL.loadMid rfl rfl rfl rfl rfl rfl B2.data hdl ?_
      refine WL.call rfl rfl rfl rfl rfl Try.func48 rfl (by kernel_rfl) (rhash_any (hv.below hw2) hlen) ?_
      rintro _ w3 ⟨rfl, hk3⟩
      refine ⟨_, rfl, ?_⟩
      have hw3 := hw2.trans (hk3.mono hw2.size)
      have B3 := B2.below hk3
      have hhl : (hashC (hashR e.data)).length = 32 := by rw [List.length_map]; exact hashR_len _
      refine kgo ?_
      refine WL.alloc (z := .agg (hashC Dig.Z32).toArray) rfl rfl rfl rfl (Dig.zero25) fun c w4 hf4 => ?_
      have hf4' : Fresh w3 c w4 23 (hashC Dig.Z32) := hf4
      clear hf4
      refine WL.storeRow rfl rfl rfl rfl rfl rfl hf4'.blk hhl (by rfl) (Ones.int _ _) ?_
      have hk5 : Below w3.heap.size w3 (w4.setRow c (hashC (hashR e.data)).toArray) := below_setRow hf4'.below (by rw [hf4'.eq]; exact Nat.le_refl _) _
      have H5 : VBlk 23 (w4.setRow c (hashC (hashR e.data)).toArray) c (hashC (hashR e.data)) := hf4'.blk.setRow _
      generalize w4.setRow c (hashC (hashR e.data)).toArray = w5 at hk5 H5
      have hw5 := hw3.trans (hk5.mono hw3.size)
      have B5 := B3.below hk5
      clear hf4'
      by_cases he : (encR e.data).2 = 0
      rotate_left
      · refine kgo ?_
        exact WQ.ret1 rfl rfl ⟨by rw [hc0, if_pos he]; rfl, hw5⟩
      rw [if_neg (by simpa using he)] at hc0
      refine kgo ?_
      refine WL.loadMid rfl rfl rfl rfl rfl rfl (VBlk.rangeAt H5) hhl ?_
      refine kgo ?_
      refine WL.loadMid rfl rfl rfl rfl rfl rfl B5.hash (by rw [List.length_map]; exact hh) ?_
      refine WL.neqH rfl rfl rfl rfl rfl rfl (hashR_len _) hh ?_
      by_cases hq : hashR e.data = e.hash
      · refine WL.as 27 (.bool false) rfl (congrArg Value.bool (by simp [hq])) ?_
        refine kgo ?_
        exact WQ.ret1 rfl rfl ⟨by rw [hc0, if_pos hq], hw5⟩
      · refine WL.as 27 (.bool true) rfl (congrArg Value.bool (by simp [hq])) ?_
        refine kgo ?_
        exact WQ.ret1 rfl rfl ⟨by rw [hc0, if_neg hq], hw5⟩
set_option maxHeartbeats 4000000 in
theorem rcheck11_any {f : Nat} {w : World} {b : Bk} {cs : List Value} (h : IsB f w b cs) (hlen : ∀ e ∈ b.ents, chk 16 e.data = 0 → (encV 16 e.data).length ≤ 70368744177664) : Calls Try.prog 18 #[.agg cs.toArray] w fun r w' => r = .returned (.int .i64 (chkB b)) ∧ Below w.heap.size w w' := by
  have hall := h
  have hcl := h.len
  obtain ⟨se, rfl, hents, hpl, hpb, hi, ht, hx⟩ := h
  obtain ⟨sp, cap, rfl⟩ := hents.slice
  refine enter (args := [.agg (bkC b (.slice sp b.ents.length cap)).toArray]) Try.func18 rfl Try.ntmps18 rfl ?_
  refine kgo ?_
  refine WL.box rfl rfl rfl rfl rfl fun g w1 hf => ?_
  have hf' : Fresh w g w1 26 (bkC b (.slice sp b.ents.length cap)) := hf
  clear hf
  have hw1 := hf'.below
  have B1 : BkAt 26 g w1 b (.slice sp b.ents.length cap) := ⟨hf'.blk, hpl⟩
  clear hf'
  have bad : ¬ ((0 ≤ b.index ∧ b.index ≤ 2147483648) ∧ (0 ≤ b.time ∧ b.time ≤ 9007199254740992) ∧ (0 ≤ b.txn ∧ b.txn ≤ 9007199254740992) ∧ (1 ≤ b.ents.length ∧ b.ents.length ≤ 200)) → Ending.returned (Value.int .i64 1) = .returned (.int .i64 (chkB b)) := fun h => by unfold chkB; rw [if_neg h]
  refine kgo ?_
  refine WL.load rfl rfl rfl rfl rfl rfl B1.index ?_
  refine WL.call rfl rfl rfl rfl rfl Try.func32 rfl (by kernel_rfl) (rin_any _ _ _ _) ?_
  rintro _ w1 ⟨rfl, rfl⟩
  refine ⟨_, rfl, ?_⟩
  by_cases c1 : 0 ≤ b.index ∧ b.index ≤ 2147483648
  rotate_left
  · refine WL.as 7 (.bool false) rfl (congrArg Value.bool (decide_eq_false c1)) ?_
    refine kgo ?_
    exact WQ.ret1 rfl rfl ⟨bad fun h => c1 h.1, hw1⟩
  refine WL.as 7 (.bool true) rfl (congrArg Value.bool (decide_eq_true c1)) ?_
  refine kgo ?_
  refine WL.load rfl rfl rfl rfl rfl rfl B1.time ?_
  refine WL.on rfl rfl ?_
  refine WL.call rfl rfl rfl rfl rfl Try.func32 rfl (by kernel_rfl) (rin_any _ _ _ _) ?_
  rintro _ w1 ⟨rfl, rfl⟩
  refine ⟨_, rfl, ?_⟩
  by_cases c2 : 0 ≤ b.time ∧ b.time ≤ 9007199254740992
  rotate_left
  · refine WL.as 12 (.bool false) rfl (congrArg Value.bool (decide_eq_false c2)) ?_
    refine kgo ?_
    exact WQ.ret1 rfl rfl ⟨bad fun h => c2 h.2.1, hw1⟩
  refine WL.as 12 (.bool true) rfl (congrArg Value.bool (decide_eq_true c2)) ?_
  refine kgo ?_
  refine WL.load rfl rfl rfl rfl rfl rfl B1.txn ?_
  refine WL.on rfl rfl ?_
  refine WL.call rfl rfl rfl rfl rfl Try.func32 rfl (by kernel_rfl) (rin_any _ _ _ _) ?_
  rintro _ w1 ⟨rfl, rfl⟩
  refine ⟨_, rfl, ?_⟩
  by_cases c3 : 0 ≤ b.txn ∧ b.txn ≤ 9007199254740992
  rotate_left
  · refine WL.as 18 (.bool false) rfl (congrArg Value.bool (decide_eq_false c3)) ?_
    refine kgo ?_
    exact WQ.ret1 rfl rfl ⟨bad fun h => c3 h.2.2.1, hw1⟩
  refine WL.as 18 (.bool true) rfl (congrArg Value.bool (decide_eq_true c3)) ?_
  refine kgo ?_
  refine WL.load rfl rfl rfl rfl rfl rfl B1.ents ?_
  refine kgo ?_
  refine WL.call rfl rfl rfl rfl rfl Try.func32 rfl (by kernel_rfl) (rin_any _ _ _ _) ?_
  rintro _ w1 ⟨rfl, rfl⟩
  refine ⟨_, rfl, ?_⟩
  by_cases c4 : (1 : Int) ≤ (b.ents.length : Int) ∧ (b.ents.length : Int) ≤ 200
  rotate_left
  · refine WL.as 25 (.bool false) rfl (congrArg Value.bool (decide_eq_false c4)) ?_
    refine kgo ?_
    exact WQ.ret1 rfl rfl ⟨bad fun h => c4 (by omega), hw1⟩
  refine WL.as 25 (.bool true) rfl (congrArg Value.bool (decide_eq_true c4)) ?_
  have hgood : chkB b = if firstBad (b.ents.map chkE) ≠ 0 then firstBad (b.ents.map chkE) else if 262144 < (layB true b).length then 5 else 0 := by unfold chkB; rw [if_pos ⟨c1, c2, c3, by omega⟩]
  have hmap : ∀ j, j < b.ents.length → (b.ents.map chkE).getD j 0 = chkE (b.ents.getD j noE) := fun j hj => by simp [hj]
  refine kgo ?_
  refine WC.loop (fun i : Nat => [(1, .pointer (some ⟨g, 0, none⟩)), (3, .int .i64 i)])
    (fun i w' => i ≤ b.ents.length ∧ Below w1.heap.size w1 w' ∧ ∀ j, j < i → chkE (b.ents.getD j noE) = 0) (fun i => b.ents.length - i) 0 ⟨rfl, rfl, trivial⟩ ⟨Nat.zero_le _, Below.refl _ _, fun j hj => by omega⟩ ?_
  rintro i wr ⟨hi, hbr, hz⟩
  have hwr : Below w.heap.size w wr := hw1.trans (hbr.mono hw1.size)
  have Br := B1.below hbr
  refine kgo ?_
  refine WL.load rfl rfl rfl rfl rfl rfl Br.ents ?_
  by_cases hik : i < b.ents.length
  · obtain ⟨kb, ko, cap', cs, hse, hkb, hc46, hce, hcr⟩ := hents.at hik
    injection hse with hse1 _ hse2
    subst hse1; subst hse2
    have hmem : b.ents.getD i noE ∈ b.ents := by simp [hik]
    have hl := hlen _ hmem
    have hmi := hmap i hik
    refine kgo ?_
    refine WL.load rfl rfl rfl rfl rfl rfl Br.ents ?_
    refine kgo ?_
    refine WL.idx i (ko + i * 46) rfl rfl rfl rfl rfl rfl rfl rfl hik rfl ?_
    refine WL.loadMid rfl rfl rfl rfl rfl rfl (fun j u hu => (hwr.cell (p := ⟨kb, ko + i * 46 + j, none⟩) hkb).trans (hcr j u hu)) hc46 ?_
    refine WL.call rfl rfl rfl rfl rfl Try.func33 rfl (by kernel_rfl) (rmay_any (IsE.below hwr hce) hl) ?_
    rintro _ w7 ⟨rfl, hk7⟩
    refine ⟨_, rfl, ?_⟩
    have hw7 := hwr.trans (hk7.mono hwr.size)
    by_cases hc : chkE (b.ents.getD i noE) = 0
    · refine kgo ?_
      refine WQ.again (i + 1) ⟨rfl, rfl, trivial⟩ ⟨hik, hbr.trans (hk7.mono hbr.size), fun j hj => ?_⟩ (by show b.ents.length - (i + 1) < b.ents.length - i; omega)
      rcases Nat.lt_or_ge j i with h | h
      · exact hz j h
      · obtain rfl : j = i := by omega
        exact hc
    · have hfb : firstBad (b.ents.map chkE) = chkE (b.ents.getD i noE) := by
        rw [← hmi]
        exact firstBad_take (by simpa using hik) (fun j hj => by rw [hmap j (by omega)]; exact hz j hj) (by rw [hmi]; exact hc)
      refine kgo ?_
      exact WQ.ret1 rfl rfl ⟨by rw [hgood, hfb, if_pos hc], hw7⟩
  · obtain rfl : i = b.ents.length := by omega
    have hfb : firstBad (b.ents.map chkE) = 0 := firstBad_all fun j hj => by
      rw [List.length_map] at hj
      rw [hmap j hj]; exact hz j hj
    have hck : ∀ e ∈ b.ents, chkE e = 0 := fun e he => firstBad_zero.1 hfb _ (List.mem_map_of_mem he)
    rw [if_neg (by simpa using hfb)] at hgood
    refine kgo ?_
    refine WL.loadMid rfl rfl rfl rfl rfl rfl (VBlk.rangeAt Br.blk) hcl ?_
    refine WL.call rfl rfl rfl rfl rfl Try.func19 rfl (by kernel_rfl) (rbytes11_any true (IsB.below hwr hall) hck (by omega)) ?_
    rintro _ w8 ⟨b8, rfl, hb8, hk8, -⟩
    refine ⟨_, rfl, ?_⟩
    obtain ⟨sp8, cap8, rfl, -⟩ := hb8.form
    have hw8 := hwr.trans (hk8.mono hwr.size)
    by_cases hbig : 262144 < (layB true b).length
    · refine kgo ?_
      exact WQ.ret1 rfl rfl ⟨by rw [hgood, if_pos hbig], hw8⟩
    · refine kgo ?_
      exact WQ.ret1 rfl rfl ⟨by rw [hgood, if_neg hbig], hw8⟩
theorem rencode11_any {f : Nat} {w : World} {b : Bk} {cs : List Value} (data : Bool) (h : IsB f w b cs) (hlen : ∀ e ∈ b.ents, chk 16 e.data = 0 → (encV 16 e.data).length ≤ 70368744177664) : Calls Try.prog 9 #[.agg cs.toArray, .bool data] w (EncBPost data w b) := by
  have hcl := h.len
  refine enter (args := [.agg cs.toArray, .bool data]) Try.func9 rfl Try.ntmps9 rfl ?_
  refine kgo ?_
  refine WL.box rfl rfl rfl rfl rfl fun g w1 hf => ?_
  have hf' : Fresh w g w1 26 cs := hf
  clear hf
  have hw1 := hf'.below
  have B1 := hf'.blk
  clear hf'
  refine kgo ?_
  refine WL.loadMid rfl rfl rfl rfl rfl rfl (VBlk.rangeAt B1) hcl ?_
  refine WL.call rfl rfl rfl rfl rfl Try.func18 rfl (by kernel_rfl) (rcheck11_any (IsB.below hw1 h) hlen) ?_
  rintro _ w2 ⟨rfl, hk2⟩
  refine ⟨_, rfl, ?_⟩
  have hw2 := hw1.trans (hk2.mono hw1.size)
  by_cases hc : chkB b = 0
  · have hr : encB data b = (layB data b, 0) := by unfold encB; rw [if_neg (by simpa using hc)]
    obtain ⟨⟨-, -, -, hl⟩, hck, -⟩ := chkB_ok hc
    refine kgo ?_
    refine WL.loadMid rfl rfl rfl rfl rfl rfl (VBlk.rangeAt (B1.below hk2 B1.lt)) hcl ?_
    refine kgo ?_
    refine WL.call rfl rfl rfl rfl rfl Try.func19 rfl (by kernel_rfl) (rbytes11_any data (IsB.below hw2 h) hck hl.2) ?_
    rintro _ w3 ⟨b3, rfl, hb3, hk3, ho3⟩
    refine ⟨_, rfl, ?_⟩
    refine kgo ?_
    exact WQ.ret2 rfl rfl rfl ⟨b3, by rw [hr], by rw [hr]; exact hb3, hw2.trans (hk3.mono hw2.size), fun g hg => Nat.le_trans hw2.size (ho3 g hg)⟩
  · have hr : encB data b = ([], chkB b) := by unfold encB; rw [if_pos hc]
    refine kgo ?_
    exact WQ.ret2 rfl rfl rfl ⟨_, by rw [hr], by rw [hr]; exact Bu.nil _, hw2, fun g hg => by cases hg⟩
end K
end Go.Proofs.Ytlamdhekjlnccaa

/- The document's Clone (chapter 5). -/
namespace Go.Proofs.Ytlamdhekjlnccaa
open Go.RowKit
namespace K
section
variable {n : Nat} {Q : Exit → Act → World → Prop} {l : Env} {w w' : World} {ops : Array Oper} {o : Oper} {rest : List Oper} {d : Nat}
/-- append of nothing. -/
theorem WL.app0 {s x : Operand} {t e sz : Nat} {sp xp : Option Addr} {m cap xc : Nat} (hg : o.guard = none) (hd : o.dst = some d) (hn : Nat.blt d n = true)
    (ho : o.op = .call { callee := .builtin .append, args := #[s, x], argTypes := #[t, t] }) (ht : tyOf ty t = some (.slice e sz)) (hs : evl l s = some (.slice sp m cap)) (hc : m ≤ cap) (hx : evl l x = some (.slice xp 0 xc))
    (h : WL n ops Q rest ((d, .slice sp m cap) :: l) w) : WL n ops Q (o :: rest) l w :=
  WL.step hg hd hn (fun a ha => by
    obtain ⟨hu, hsz⟩ := TyOk.of tyOk ht
    have hs' : (sizeOf e).run Try.prog w = .ok sz w := by
      cases hq : Try.prog.info? e with
      | none => rw [hq] at hsz; cases hsz
      | some q => rw [hq] at hsz; simp at hsz; simp [sizeOf, typeInfo, hq, hsz]
    unfold execOp
    simp only [ho, resolve, invoke, builtin, Sem.run_bind, Sem.run_pure, Result.andThen_ok, List.map_toArray, List.map_cons, List.map_nil, ha.eval hs, ha.eval hx]
    have hrun : (Builtin.append_ #[t, t] o.type #[.slice sp m cap, .slice xp 0 xc]).run Try.prog w = .ok (.slice sp m cap) w := by
      cases sp <;> cases xp <;> simp [Builtin.append_, run_underlying hu, hs', Builtin.lenOf, Builtin.firstCells, hc, loadCells, loadCellsFrom, storeCells]
    rw [hrun]
    rfl) h
end
theorem strs_slV {w : World} {v : Value} {l : List ByteArray} (h : Strs w v l) (h0 : 0 < l.length) : SlV w (fun _ => True) 1 v l.length (l.map Value.string) := by
  obtain ⟨sp, cap, rfl, h1, h2, -, h4⟩ := h
  obtain ⟨b, o, rfl, hb, hr⟩ := h4 h0
  refine ⟨by simp, Ones.str l, _, cap, rfl, h1, h2, (fun h => by cases h), fun _ => ⟨b, o, rfl, hb, trivial, fun j hj => ?_⟩⟩
  rw [List.length_map] at hj
  rw [hr j hj]
  simp [hj]
/-- An own row of texts reads so. -/
theorem own_strs {w : World} {O : Nat → Prop} {v : Value} {l : List ByteArray} (h : OwnV 9 1 w O v l.length (l.map Value.string)) (hz : ∀ s ∈ l, s.size ≤ 140737488355328) : Els 1 noT strP O w v l := by
  obtain ⟨q1, q2, sp, cap, rfl, h4, h5, h6, h7⟩ := h.slV
  refine ⟨sp, cap, rfl, h4, h5, h6, fun h0 => ?_⟩
  obtain ⟨b, o, e, hb, hO, hr⟩ := h7 h0
  refine ⟨b, o, e, hb, hO, fun j hj => ⟨[.string (l.getD j noT)], rfl, ⟨rfl, ?_⟩, fun i u hu => ?_⟩⟩
  · exact hz _ (by simp [hj])
  · cases i with
    | zero =>
      have := hr j (by simpa using hj)
      simp at hu
      rw [Nat.mul_one, Nat.add_zero, this, ← hu]
      simp [hj]
    | succ i => simp at hu

/-- No list in a value is longer. -/
def Sm (B : Nat) : Nat → V → Prop
  | 0, _ => False
  | f + 1, v => v.names.length ≤ B ∧ v.kids.length ≤ B ∧ ∀ x ∈ v.kids, Sm B f x
theorem grtK_sm {B f : Nat} (ih : ∀ (v : V) (n : Nat), Sml f v → grt B f v n ≤ B → n + 1 ≤ grt B f v n ∧ Sm B f v) : ∀ (l : List V) (n : Nat), (∀ x ∈ l, Sml f x) → grtK B (grt B f) l n ≤ B → n + l.length ≤ grtK B (grt B f) l n ∧ ∀ x ∈ l, Sm B f x
  | [], n, _, _ => ⟨by simp [grtK], fun x hx => by cases hx⟩
  | k :: r, n, h, hB => by
    unfold grtK at hB ⊢
    by_cases hn : n ≤ B
    · rw [if_pos hn] at hB ⊢
      have hle : grt B f k n ≤ B := by
        rcases Nat.lt_or_ge B (grt B f k n) with h1 | h1
        · rw [grtK_over r h1] at hB; omega
        · exact h1
      have h1 := ih k n (h k (by simp)) hle
      have h2 := grtK_sm ih r (grt B f k n) (fun x hx => h x (List.mem_cons_of_mem _ hx)) hB
      refine ⟨by simp only [List.length_cons]; omega, fun x hx => ?_⟩
      rcases List.mem_cons.1 hx with rfl | hx
      · exact h1.2
      · exact h2.2 x hx
    · rw [if_neg hn] at hB; omega
theorem grt_sm {B : Nat} : ∀ (f : Nat) (v : V) (n : Nat), Sml f v → grt B f v n ≤ B → n + 1 ≤ grt B f v n ∧ Sm B f v
  | 0, _, _, h, _ => h.elim
  | f + 1, v, n, h, hB => by
    unfold grt at hB ⊢
    have := grtK_sm (grt_sm f) v.kids _ h.2.2 hB
    exact ⟨by omega, by omega, by omega, this.2⟩

set_option maxHeartbeats 8000000 in
theorem clone_any {B : Nat} (hB : B ≤ 1000000) : ∀ (f : Nat) {w : World} {v : V} {cs : List Value}, IsV f w v cs → Sm B f v →
    Calls Try.prog 15 #[.agg cs.toArray] w fun e w' => Below w.heap.size w w' ∧ ∃ cs', e = .returned (.agg cs'.toArray) ∧ IsVo (fun b => w.heap.size ≤ b) f w' v cs'
  | 0, _, _, _, h, _ => h.elim
  | f + 1, w, v, cs, h, hm => by
    obtain ⟨sn, sk, rfl, wk, wn, ws, wt, hnames, hkids⟩ := h
    obtain ⟨hmn, hmk, hms⟩ := hm
    obtain ⟨sp, cap, rfl, hcap1, hcap2, hrow⟩ := hkids
    refine enter (args := [.agg (six v sn (.slice sp v.kids.length cap)).toArray]) Try.func15 rfl Try.ntmps15 rfl ?_
    refine kgo ?_
    refine WL.box rfl rfl rfl rfl rfl fun g1 w1 hf1 => ?_
    have hf1' : Fresh w g1 w1 45 (six v sn (.slice sp v.kids.length cap)) := hf1
    clear hf1
    refine WL.alloc (z := .agg zCells.toArray) rfl rfl rfl rfl (fun _ => by kernel_rfl) fun g2 w2 hf2 => ?_
    have hf2' : Fresh w1 g2 w2 45 zCells := hf2
    clear hf2
    have hz1 := hf1'.size
    have hz2 := hf2'.size
    have he1 := hf1'.eq
    have he2 := hf2'.eq
    have hw2 : Below w.heap.size w w2 := hf1'.below.trans (hf2'.below.mono hf1'.below.size)
    have B1 := hf1'.blk.below hf2'.below hf1'.blk.lt
    have B2 := hf2'.blk
    clear hf1' hf2'
    repeat (first | refine WC.seq ?_ | refine WC.block ?_ | refine WC.region ?_ | refine WL.nil ?_ | refine WC.skip ?_ | refine WC.exit ?_ | refine WC.ret ?_ | refine WQ.then rfl ?_ | refine WQ.thenExit ?_ | refine WQ.thenRet ?_ | refine WQ.blk ?_ | refine WQ.blkRet ?_ | refine WQ.blkHere rfl ?_ | refine WQ.blkOther rfl ?_)
    refine WL.mid (fun _ : Value => [(1, .pointer (some ⟨g1, 0, none⟩)), (2, .pointer (some ⟨g2, 0, none⟩))]) (fun sx wx => VBlk 45 wx g1 (six v sx (.slice sp v.kids.length cap)) ∧ VBlk 45 wx g2 zCells ∧ Below w.heap.size w wx ∧
      Els 1 noT strP (fun b => w.heap.size ≤ b ∧ b ≠ g1 ∧ b ≠ g2) wx sx v.names ∧ sx.oneCell' = true) rfl ?_ ?_
    · refine WL.empty rfl rfl rfl rfl rfl fun g5 w3 hf3 => ?_
      have hf3' : Fresh w2 g5 w3 9 [] := hf3
      clear hf3
      have hz3 := hf3'.size
      have he3 := hf3'.eq
      have hb3 := hf3'.blk
      have hw3 : Below w.heap.size w w3 := hw2.trans (hf3'.below.mono hw2.size)
      have B13 := B1.below hf3'.below B1.lt
      have B23 := B2.below hf3'.below B2.lt
      clear hf3'
      -- the store behind the append
      have go : ∀ {wx : World} {sx : Value}, Grow w3 (.slice (some ⟨g5, 0, none⟩) 0 0) wx sx → VBlk 45 wx g1 (six v sn (.slice sp v.kids.length cap)) ∧ VBlk 45 (wx.setCell ⟨g1, 4, none⟩ sx) g1 (six v sx (.slice sp v.kids.length cap)) ∧ VBlk 45 (wx.setCell ⟨g1, 4, none⟩ sx) g2 zCells ∧ Below w.heap.size w (wx.setCell ⟨g1, 4, none⟩ sx) := fun {wx sx} h => by
        have hk : Keep (fun b => b < g5) w3 wx := Keep.mono h.1 fun b hb => ⟨by omega, fun e => by have : g5 = b := Option.some.inj e; omega⟩
        have b1 := B13.keep hk (by omega)
        refine ⟨b1, b1.set 4 sx, (B23.keep hk (by omega)).other _ _ (by show g2 ≠ g1; omega), Keep.below (Keep.setCell (Keep.of_below (hw3.trans (Keep.below (Keep.mono hk fun b (hb : b < w.heap.size) => by omega)))) (fun hk => by simp only at hk; omega) _)⟩
      obtain ⟨np, nc, rfl, nl, nm, nz, nr⟩ := hnames
      refine kgo ?_
      refine WL.load rfl rfl rfl rfl rfl rfl (B13.cell 4 (by simp)) ?_
      by_cases hn0 : v.names.length = 0
      · refine WL.as 7 (.slice np 0 nc) rfl (by show Value.slice np v.names.length nc = _; rw [hn0]) ?_
        refine WL.app0 rfl rfl rfl rfl rfl rfl (Nat.le_refl 0) rfl ?_
        obtain ⟨b1, b2, b3, b4⟩ := go (Grow.refl w3 (.slice (some ⟨g5, 0, none⟩) 0 0))
        refine kgo ?_
        refine WL.store rfl rfl rfl rfl rfl rfl (by kernel_rfl) (b1.cell 4 (by simp)) (b1.free 4) ?_
        refine WL.nil ?_
        exact WQ.meet (.slice (some ⟨g5, 0, none⟩) 0 0) ⟨rfl, rfl, trivial⟩ ⟨b2, b3, b4, ⟨_, 0, by rw [hn0], by omega, by omega, (fun h => by cases h), fun h => by omega⟩, rfl⟩
      · have hown : OwnV 9 1 w3 (fun g => g = g5) (.slice (some ⟨g5, 0, none⟩) 0 0) 0 [] := ⟨⟨by simp, .inr ⟨g5, 0, #[], rfl, Nat.zero_le _, hb3, Nat.le_refl _, by unfold maxLen; omega, by simp, by simp⟩⟩, fun _ h => (List.not_mem_nil h).elim, fun g h => by cases h; rfl⟩
        have hsl := strs_slV (w := w3) (v := .slice np v.names.length nc) (l := v.names) (Strs.below (w := w) ⟨np, nc, rfl, nl, nm, nz, nr⟩ hw3) (by omega)
        refine WL.appV rfl rfl rfl rfl elemS1 rfl hown rfl hsl (by omega) (by omega) fun sx wx ho hg => ?_
        obtain ⟨b1, b2, b3, b4⟩ := go hg
        have hone : sx.oneCell' = true := by obtain ⟨_, _, rfl, -⟩ := ho.slice; rfl
        refine kgo ?_
        refine WL.store rfl rfl rfl rfl rfl hone (by kernel_rfl) (b1.cell 4 (by simp)) (b1.free 4) ?_
        refine WL.nil ?_
        refine WQ.meet sx ⟨rfl, rfl, trivial⟩ ⟨b2, b3, b4, ?_, hone⟩
        have hset : Keep (fun b => b ≠ g1) wx (wx.setCell ⟨g1, 4, none⟩ sx) := (Keep.refl _ wx).setCell (fun hk => hk rfl) _
        simp only [Nat.zero_add, List.nil_append] at ho
        refine (own_strs (O := fun b => w.heap.size ≤ b ∧ b ≠ g1 ∧ b ≠ g2) (ho.mono fun b hb => by omega) fun s hs => ?_).keep hset (fun b hb _ => hb.2.1) (fun b hb => hb) fun _ _ h => h
        obtain ⟨j, hj, rfl⟩ := List.getElem_of_mem hs
        simpa [hj] using nz j hj
    rintro sx w5 ⟨C1, C2, hw5, hnm, hsx⟩
    have hz5 := hw5.size
    have hgg : g1 ≠ g2 := by omega
    have hg1w := C1.lt
    have hg2w := C2.lt
    refine kgo ?_
    refine WC.loop (fun i : Nat × Value => [(1, .pointer (some ⟨g1, 0, none⟩)), (2, .pointer (some ⟨g2, 0, none⟩)), (3, i.2), (4, .int .i64 i.1)])
      (fun i wr => i.1 ≤ v.kids.length ∧ Below w5.heap.size w5 wr ∧ ∃ q : Nat → Prop, OwnE 45 6 noV (IsVo q f wr) (fun b => w5.heap.size ≤ b) wr i.2 (v.kids.take i.1) ∧ ∀ b, q b → w5.heap.size ≤ b ∧ b < wr.heap.size ∧ i.2.ownBlock ≠ some b) (fun i => v.kids.length - i.1) (0, .slice none 0 0)
      ⟨rfl, rfl, rfl, rfl, trivial⟩ ⟨Nat.zero_le _, Below.refl _ _, fun _ => False, OwnE.nil _ _ _ _ _ _, fun b h => h.elim⟩ ?_
    rintro ⟨i, vk⟩ wr ⟨hi, hbr, q, hoE, hq⟩
    simp only at hi hbr hoE hq ⊢
    have D1 := C1.below hbr hg1w
    have D2 := C2.below hbr hg2w
    have hwr : Below w.heap.size w wr := hw5.trans (hbr.mono hz5)
    have hzr := hbr.size
    refine kgo ?_
    refine WL.load rfl rfl rfl rfl rfl rfl (D1.cell 5 (by simp)) ?_
    by_cases hik : i < v.kids.length
    · obtain ⟨kb, ko, rfl, hkb, hcells⟩ := hrow (by omega)
      obtain ⟨c, hc6, hci, hcr⟩ := hcells i hik
      refine kgo ?_
      refine WL.load rfl rfl rfl rfl rfl rfl (D1.cell 5 (by simp)) ?_
      refine kgo ?_
      refine WL.idx i (ko + i * 6) rfl rfl rfl rfl rfl rfl rfl rfl hik rfl ?_
      refine WL.loadMid rfl rfl rfl rfl rfl rfl (fun j u hu => (hwr.cell (p := ⟨kb, ko + i * 6 + j, none⟩) hkb).trans (hcr j u hu)) hc6 ?_
      refine WL.call rfl rfl rfl rfl rfl Try.func15 rfl (by kernel_rfl) (clone_any hB f (hci.below hwr) (hms _ (by simp [hik]))) ?_
      rintro _ w6 ⟨hb6, c6, rfl, hv6⟩
      refine ⟨_, rfl, ?_⟩
      have hz6 := hb6.size
      refine WL.lit1 rfl rfl rfl rfl rfl rfl rfl hv6.len ⟨by omega, by omega⟩ (by kernel_rfl) fun g7 w7 hf7 => ?_
      have hz7 := hf7.size
      have hk7 : Below wr.heap.size wr w7 := hb6.trans (hf7.below.mono hz6)
      have hoE7 : OwnE 45 6 noV (IsVo (fun b => q b ∨ (wr.heap.size ≤ b ∧ b < w7.heap.size)) f w7) (fun b => w5.heap.size ≤ b) w7 vk (v.kids.take i) :=
        hoE.keep (Keep.of_below hk7) (fun g hg => hoE.lt hg) (fun _ h => h) fun x cs hx => hx.keep (Keep.of_below hk7) (fun b hb _ => (hq b hb).2.1) fun b hb => .inl hb
      have hv7 : IsVo (fun b => q b ∨ (wr.heap.size ≤ b ∧ b < w7.heap.size)) f w7 (v.kids.getD i noV) c6 := hv6.there.keep (Keep.of_below hf7.below) (fun b _ h => h) fun b hb => .inr ⟨hb.1, by omega⟩
      have hlt : (v.kids.take i).length ≤ i := by rw [List.length_take]; omega
      refine WL.snoc rfl rfl rfl rfl elemV6 rfl hoE7 rfl hf7.blk hv6.one hv6.len hv7 (by omega) (by omega) fun vk8 w8 ho8 hg8 => ?_
      have hbel8 : Below w5.heap.size w5 w8 := (hbr.trans (hk7.mono hzr)).trans (hg8.old (by omega) fun g hg => hoE7.own hg)
      have hq8 : ∀ b, (q b ∨ (wr.heap.size ≤ b ∧ b < w7.heap.size)) → w5.heap.size ≤ b ∧ b < w7.heap.size ∧ vk.ownBlock ≠ some b := fun b hb => hb.elim (fun h => by
          obtain ⟨h1, h2, h3⟩ := hq b h
          exact ⟨h1, by omega, h3⟩) fun h => ⟨by omega, h.2, fun e => by have := hoE.lt e; omega⟩
      have htk : v.kids.take (i + 1) = v.kids.take i ++ [v.kids.getD i noV] := by
        rw [List.take_add_one]
        simp [hik]
      refine kgo ?_
      refine WQ.again (i + 1, vk8) ⟨rfl, rfl, rfl, rfl, trivial⟩ ⟨hik, hbel8, (fun b => q b ∨ (wr.heap.size ≤ b ∧ b < w7.heap.size)), ?_, fun b hb => ?_⟩ (by show v.kids.length - (i + 1) < v.kids.length - i; omega)
      · show OwnE _ _ _ _ _ _ _ (v.kids.take (i + 1))
        rw [htk]
        exact ho8.keep (Keep.refl (fun _ => True) w8) (fun _ _ => trivial) (fun b hb => by omega) fun x cs hx => hx.keep hg8.1 (fun b hb _ => (hq8 b hb).2) fun b hb => hb
      · obtain ⟨h1, h2, h3⟩ := hq8 b hb
        exact ⟨h1, Nat.lt_of_lt_of_le h2 hg8.1.size, fun e => (hg8.2 b e).elim h3 fun h4 => by omega⟩
    · obtain rfl : i = v.kids.length := by omega
      rw [List.take_length] at hoE
      have hvk := hoE.one
      have hset : Keep (fun b => b ≠ g1) wr (wr.setCell ⟨g1, 5, none⟩ vk) := (Keep.refl _ wr).setCell (fun hk => hk rfl) _
      refine kgo ?_
      refine WL.store rfl rfl rfl rfl rfl hvk (by kernel_rfl) (D1.cell 5 (by simp)) (D1.free 5) ?_
      have E1 := D1.set 5 vk
      have E2 : VBlk 45 (wr.setCell ⟨g1, 5, none⟩ vk) g2 zCells := D2.other _ _ (by show g2 ≠ g1; omega)
      have hwE : Below w.heap.size w (wr.setCell ⟨g1, 5, none⟩ vk) := Keep.below (Keep.setCell (Keep.of_below hwr) (fun hk => by simp only at hk; omega) _)
      have hnmE := (hnm.there (fun _ _ h => h)).keep (O' := fun b => (w.heap.size ≤ b ∧ b ≠ g1 ∧ b ≠ g2)) (Keep.of_below hbr) (fun b hb hlt => hlt) (fun b hb => hb.1) fun _ _ h => h
      have hnmF := hnmE.keep hset (fun b hb _ => hb.2.1) (fun b hb => hb) fun _ _ h => h
      have hkdF : Els 6 noV (IsVo (fun b => w5.heap.size ≤ b) f (wr.setCell ⟨g1, 5, none⟩ vk)) (fun b => w5.heap.size ≤ b) (wr.setCell ⟨g1, 5, none⟩ vk) vk v.kids :=
        hoE.els.keep hset (fun b hb _ => by omega) (fun b hb => hb) fun x cs hx => hx.keep hset (fun b hb _ => by have := (hq b hb).1; omega) fun b hb => (hq b hb).1
      generalize wr.setCell ⟨g1, 5, none⟩ vk = w9 at E1 E2 hwE hnmF hkdF
      simp only [List.set_cons_zero, List.set_cons_succ] at E1
      refine kgo ?_
      refine WL.loadMid rfl rfl rfl rfl rfl rfl (VBlk.rangeAt E1) rfl ?_
      have hone : Ones [Value.int .i64 v.k, .int .i64 v.n, .int .i64 v.s, .string v.t, sx, vk] := by
        intro u hu
        simp at hu
        rcases hu with rfl | rfl | rfl | rfl | rfl | rfl <;> first | rfl | assumption
      refine WL.storeRow rfl rfl rfl rfl rfl rfl E2 rfl rfl hone ?_
      refine kgo ?_
      have hset2 : ∀ a, Keep (fun b => b ≠ g2) w9 (w9.setRow g2 a) := fun a => Keep.setRow (Keep.refl _ w9) (fun hk => hk rfl) a
      refine WQ.retC rfl rfl rfl rfl (E2.setRow _) ⟨Keep.below (Keep.setRow (Keep.of_below hwE) (fun hk => by omega) _), _, rfl, sx, vk, rfl, wk, wn, ws, wt, hnmF.keep (hset2 _) (fun b hb _ => hb.2.2) (fun b hb => hb.1) fun _ _ h => h, ?_⟩
      exact hkdF.keep (hset2 _) (fun b hb _ => by omega) (fun b hb => by omega) fun x cs hx => hx.keep (hset2 _) (fun b hb _ => by omega) fun b hb => by omega
end K
end Go.Proofs.Ytlamdhekjlnccaa

/- The document's blocks (chapter 11): Clone. -/
namespace Go.Proofs.Ytlamdhekjlnccaa
open Go.RowKit
namespace K
set_option maxHeartbeats 8000000 in
theorem rclone11_any {f : Nat} {w : World} {b : Bk} {cs : List Value} (h : IsB f w b cs) (hsm : ∀ e ∈ b.ents, Sm 3000 f e.data) (hle : b.ents.length ≤ 3000) :
    Calls Try.prog 7 #[.agg cs.toArray] w fun r w' => Below w.heap.size w w' ∧ ∃ cs', r = .returned (.agg cs'.toArray) ∧ IsBo (fun x => w.heap.size ≤ x) f w' b cs' := by
  have hcl := h.len
  obtain ⟨se, rfl, hents, hpl, hpb, hr⟩ := h
  obtain ⟨sp, cap, rfl⟩ := hents.slice
  refine enter (args := [.agg (bkC b (.slice sp b.ents.length cap)).toArray]) Try.func7 rfl Try.ntmps7 rfl ?_
  refine kgo ?_
  refine WL.box rfl rfl rfl rfl rfl fun g w1 hf => ?_
  have hf' : Fresh w g w1 26 (bkC b (.slice sp b.ents.length cap)) := hf
  clear hf
  refine WL.alloc (z := .agg (bkC noB (.slice none 0 0)).toArray) rfl rfl rfl rfl (fun _ => by kernel_rfl) fun rg w2 hf2 => ?_
  have hf2' : Fresh w1 rg w2 26 (bkC noB (.slice none 0 0)) := hf2
  clear hf2
  have hg := hf'.eq
  have hz1 := hf'.size
  have hrg := hf2'.eq
  have hz2 := hf2'.size
  have hw2 : Below w.heap.size w w2 := hf'.below.trans (hf2'.below.mono hf'.below.size)
  have B2 : BkAt 26 g w2 b (.slice sp b.ents.length cap) := ⟨hf'.blk.below hf2'.below hf'.blk.lt, hpl⟩
  have R2 := hf2'.blk
  clear hf' hf2'
  refine kgo ?_
  refine WC.loop (fun i : Nat × Value => [(1, .pointer (some ⟨g, 0, none⟩)), (2, .pointer (some ⟨rg, 0, none⟩)), (3, i.2), (4, .int .i64 i.1)])
    (fun i wr => i.1 ≤ b.ents.length ∧ Below w2.heap.size w2 wr ∧ ∃ q : Nat → Prop, OwnE 49 46 noE (IsEo q f wr) (fun x => w2.heap.size ≤ x) wr i.2 (b.ents.take i.1) ∧ ∀ x, q x → w2.heap.size ≤ x ∧ x < wr.heap.size ∧ i.2.ownBlock ≠ some x) (fun i => b.ents.length - i.1) (0, .slice none 0 0)
    ⟨rfl, rfl, rfl, rfl, trivial⟩ ⟨Nat.zero_le _, Below.refl _ _, fun _ => False, OwnE.nil _ _ _ _ _ _, fun x h => h.elim⟩ ?_
  rintro ⟨i, vk⟩ wr ⟨hi, hbr, q, hoE, hq⟩
  simp only at hi hbr hoE hq ⊢
  have Br := B2.below hbr
  have Rr := R2.below hbr R2.lt
  have hwr : Below w.heap.size w wr := hw2.trans (hbr.mono hw2.size)
  have hzr := hbr.size
  refine kgo ?_
  refine WL.load rfl rfl rfl rfl rfl rfl Br.ents ?_
  by_cases hik : i < b.ents.length
  · obtain ⟨kb, ko, cap', cs, hse, hkb, hc46, hce, hcr⟩ := hents.at hik
    injection hse with hse1 _ hse2
    subst hse1; subst hse2
    have hmem : b.ents.getD i noE ∈ b.ents := by simp [hik]
    have hsm1 := hsm _ hmem
    have hts := take_snoc b.ents noE hik
    generalize b.ents.getD i noE = e at hce hsm1 hts
    have hone := hce.one
    obtain ⟨dc, rfl, hv, hdl, hdo, hh, hby, htx, hrr⟩ := hce
    refine kgo ?_
    refine WL.load rfl rfl rfl rfl rfl rfl Br.ents ?_
    refine kgo ?_
    refine WL.idx i (ko + i * 46) rfl rfl rfl rfl rfl rfl rfl rfl hik rfl ?_
    refine WL.loadMid rfl rfl rfl rfl rfl rfl (fun j u hu => (hwr.cell (p := ⟨kb, ko + i * 46 + j, none⟩) hkb).trans (hcr j u hu)) hc46 ?_
    refine WL.alloc (z := .agg (enC noE zCells).toArray) rfl rfl rfl rfl (fun _ => by kernel_rfl) fun c w5 hf5 => ?_
    have hf5' : Fresh wr c w5 49 (enC noE zCells) := hf5
    clear hf5
    refine kgo ?_
    refine WL.storeRow rfl rfl rfl rfl rfl rfl hf5'.blk hc46 (by rfl) hone ?_
    have hk6 : Below wr.heap.size wr (w5.setRow c (enC e dc).toArray) := below_setRow hf5'.below (by rw [hf5'.eq]; exact Nat.le_refl _) _
    have C6 : EnAt 49 c (w5.setRow c (enC e dc).toArray) e dc := ⟨hf5'.blk.setRow _, hdl, hh⟩
    have hce5 := hf5'.eq
    generalize w5.setRow c (enC e dc).toArray = w6 at hk6 C6
    clear hf5'
    have hw6 := hwr.trans (hk6.mono hwr.size)
    have hz6 := hk6.size
    refine kgo ?_
    refine WL.loadMid rfl rfl rfl rfl rfl rfl C6.data hdl ?_
    refine WL.call rfl rfl rfl rfl rfl Try.func15 rfl (by kernel_rfl) (clone_any (B := 3000) (by omega) f (hv.below hw6) hsm1) ?_
    rintro _ w7 ⟨hk7, c7, rfl, hv7⟩
    refine ⟨_, rfl, ?_⟩
    have hz7 := hk7.size
    have C7 := C6.below hk7
    have hc7 := hv7.len
    refine kgo ?_
    refine WL.storeMid rfl rfl rfl rfl rfl rfl C7.blk hc7 (by rw [C7.len]; omega) hv7.one ?_
    have C8 := C7.setData (m := c7) (off := 0 + 5) e.data hc7 rfl
    have hk8 : Keep (fun x => x ≠ c) w7 (w7.setRow c ((enC e dc).take (0 + 5) ++ c7 ++ (enC e dc).drop (0 + 5 + 6)).toArray) := Keep.setRow (Keep.refl _ w7) (fun hk => hk rfl) _
    have hv8 : IsVo (fun x => w6.heap.size ≤ x ∧ x ≠ c ∧ x < (w7.setRow c ((enC e dc).take (0 + 5) ++ c7 ++ (enC e dc).drop (0 + 5 + 6)).toArray).heap.size) f (w7.setRow c ((enC e dc).take (0 + 5) ++ c7 ++ (enC e dc).drop (0 + 5 + 6)).toArray) e.data c7 :=
      hv7.there.keep hk8 (fun x hx _ => by have := C6.blk.lt; omega) fun x hx => by have := C6.blk.lt; have := hk8.size; omega
    have hw8 : Below wr.heap.size wr (w7.setRow c ((enC e dc).take (0 + 5) ++ c7 ++ (enC e dc).drop (0 + 5 + 6)).toArray) := Keep.below (Keep.setRow (Keep.of_below (hk6.trans (hk7.mono hz6))) (fun hk => by omega) _)
    generalize w7.setRow c ((enC e dc).take (0 + 5) ++ c7 ++ (enC e dc).drop (0 + 5 + 6)).toArray = w8 at C8 hv8 hw8 hk8
    have C8b : EnAt 49 c w8 e c7 := C8
    have hz8 := hw8.size
    refine kgo ?_
    refine WL.loadMid rfl rfl rfl rfl rfl rfl (VBlk.rangeAt C8b.blk) C8b.len ?_
    have hE8 : IsEo (fun x => w6.heap.size ≤ x ∧ x ≠ c ∧ x < w8.heap.size) f w8 e (enC e c7) := ⟨c7, rfl, hv8, hc7, hv7.one, hh, hby, htx, hrr⟩
    refine WL.lit1 rfl rfl rfl rfl rfl rfl rfl hE8.len ⟨by omega, by omega⟩ (by kernel_rfl) fun g9 w9 hf9 => ?_
    have hz9 := hf9.size
    have hk9 : Below wr.heap.size wr w9 := hw8.trans (hf9.below.mono hz8)
    have hoE9 : OwnE 49 46 noE (IsEo (fun x => q x ∨ (wr.heap.size ≤ x ∧ x < w9.heap.size)) f w9) (fun x => w2.heap.size ≤ x) w9 vk (b.ents.take i) :=
      hoE.keep (Keep.of_below hk9) (fun g hg => hoE.lt hg) (fun _ h => h) fun x cs hx => EnP.mono (fun v cs hv => IsVo.keep (Keep.of_below hk9) (fun x hx _ => (hq x hx).2.1) (fun x hx => .inl hx) hv) hx
    have hE9 : IsEo (fun x => q x ∨ (wr.heap.size ≤ x ∧ x < w9.heap.size)) f w9 e (enC e c7) := EnP.mono (fun v cs hv => IsVo.keep (Keep.of_below hf9.below) (fun x hx _ => hx.2.2) (fun x hx => .inr (by omega)) hv) hE8
    have hlt : (b.ents.take i).length ≤ i := by rw [List.length_take]; omega
    refine kgo ?_
    refine WL.snoc rfl rfl rfl rfl elemE rfl hoE9 rfl hf9.blk hE8.one hE8.len hE9 (by omega) (by omega) fun vk10 w10 ho10 hg10 => ?_
    have hbel10 : Below w2.heap.size w2 w10 := (hbr.trans (hk9.mono hzr)).trans (hg10.old (by omega) fun g hg => hoE9.own hg)
    have hq10 : ∀ x, (q x ∨ (wr.heap.size ≤ x ∧ x < w9.heap.size)) → w2.heap.size ≤ x ∧ x < w9.heap.size ∧ vk.ownBlock ≠ some x := fun x hx => hx.elim (fun h => by
      obtain ⟨h1, h2, h3⟩ := hq x h
      exact ⟨h1, by omega, h3⟩) fun h => ⟨by omega, h.2, fun e => by have := hoE.lt e; omega⟩
    refine kgo ?_
    refine WQ.again (i + 1, vk10) ⟨rfl, rfl, rfl, rfl, trivial⟩ ⟨hik, hbel10, (fun x => q x ∨ (wr.heap.size ≤ x ∧ x < w9.heap.size)), ?_, fun x hx => ?_⟩ (by show b.ents.length - (i + 1) < b.ents.length - i; omega)
    · show OwnE _ _ _ _ _ _ _ (b.ents.take (i + 1))
      rw [hts]
      exact ho10.keep (Keep.refl (fun _ => True) w10) (fun _ _ => trivial) (fun x hx => by omega) fun x cs hx => EnP.mono (fun v cs hv => IsVo.keep hg10.1 (fun x hx _ => (hq10 x hx).2) (fun x hx => hx) hv) hx
    · obtain ⟨h1, h2, h3⟩ := hq10 x hx
      exact ⟨h1, Nat.lt_of_lt_of_le h2 hg10.1.size, fun e => (hg10.2 x e).elim h3 fun h4 => by omega⟩
  · obtain rfl : i = b.ents.length := by omega
    rw [List.take_length] at hoE
    have hvk := hoE.one
    have hset : Keep (fun x => x ≠ g) wr (wr.setCell ⟨g, 35, none⟩ vk) := (Keep.refl _ wr).setCell (fun hk => hk rfl) _
    refine kgo ?_
    refine WL.store rfl rfl rfl rfl rfl hvk (by kernel_rfl) Br.ents (Br.blk.free 35) ?_
    have E1 := Br.setEnts vk b.ents
    have E2 : VBlk 26 (wr.setCell ⟨g, 35, none⟩ vk) rg (bkC noB (.slice none 0 0)) := Rr.other _ _ (by show rg ≠ g; omega)
    have hwE : Below w.heap.size w (wr.setCell ⟨g, 35, none⟩ vk) := Keep.below (Keep.setCell (Keep.of_below hwr) (fun hk => by simp only at hk; omega) _)
    have hels : Els 46 noE (IsEo (fun x => w2.heap.size ≤ x) f (wr.setCell ⟨g, 35, none⟩ vk)) (fun x => w2.heap.size ≤ x) (wr.setCell ⟨g, 35, none⟩ vk) vk b.ents :=
      hoE.els.keep hset (fun x hx _ => by omega) (fun x hx => hx) fun x cs hx => EnP.mono (fun v cs hv => IsVo.keep hset (fun x hx _ => by have := (hq x hx).1; omega) (fun x hx => (hq x hx).1) hv) hx
    generalize wr.setCell ⟨g, 35, none⟩ vk = w9 at E1 E2 hwE hels
    have E1b : BkAt 26 g w9 b vk := E1
    refine kgo ?_
    refine WL.loadMid rfl rfl rfl rfl rfl rfl (VBlk.rangeAt E1b.blk) E1b.len ?_
    have hone : Ones (bkC b vk) := by
      intro u hu
      unfold bkC at hu
      simp only [List.mem_cons, List.mem_append, List.not_mem_nil, or_false] at hu
      rcases hu with rfl | rfl | rfl | hu | rfl
      all_goals first | rfl | exact Ones.int _ _ u hu | exact hvk
    refine WL.storeRow rfl rfl rfl rfl rfl rfl E2 E1b.len (by rfl) hone ?_
    refine kgo ?_
    have hset2 : ∀ a, Keep (fun x => x ≠ rg) w9 (w9.setRow rg a) := fun a => Keep.setRow (Keep.refl _ w9) (fun hk => hk rfl) a
    refine WQ.retC rfl rfl rfl E1b.len (E2.setRow _) ⟨Keep.below (Keep.setRow (Keep.of_below hwE) (fun hk => by omega) _), _, rfl, vk, rfl, ?_, hpl, hpb, hr⟩
    exact hels.keep (hset2 _) (fun x hx _ => by omega) (fun x hx => by omega) fun x cs hx => EnP.mono (fun v cs hv => IsVo.keep (hset2 _) (fun x hx _ => by omega) (fun x hx => by omega) hv) hx
end K
end Go.Proofs.Ytlamdhekjlnccaa

/- The laws' same. -/
namespace Go.Proofs.Ytlamdhekjlnccaa
open Go.RowKit
namespace K

theorem same7_any {w : World} {a b : Value} {l1 l2 : List Int} (h1 : Sl .u8 w a l1) (h2 : Sl .u8 w b l2) :
    Calls Try.prog 10 #[a, b] w fun e w' => e = .returned (.bool (decide (l1 = l2))) ∧ Below w.heap.size w w' := by
  refine enter (args := [a, b]) Try.func10 rfl Try.ntmps10 rfl ?_
  have hs1 := h1
  have hs2 := h2
  obtain ⟨sp1, cap1, rfl, hc1, hm1, -, -⟩ := h1
  obtain ⟨sp2, cap2, rfl, -, -, -, -⟩ := h2
  by_cases hl : l1.length = l2.length
  · refine kgo ?_
    refine WC.loop (fun i : Nat => [(0, .slice sp1 l1.length cap1), (1, .slice sp2 l2.length cap2), (5, .int .i64 i)]) (fun i w' => i ≤ l1.length ∧ l1.take i = l2.take i ∧ Below w.heap.size w w') (fun i => l1.length - i) 0 ⟨rfl, rfl, rfl, trivial⟩
      ⟨Nat.zero_le _, by simp, Below.refl _ _⟩ ?_
    rintro i wr ⟨hi, ht, hb⟩
    have hr1 := hs1.of_below hb
    have hr2 := hs2.of_below hb
    by_cases hik : i < l1.length
    · refine kgo ?_
      refine WC.drawn 8 (fun wx => wx.heap = wr.heap) fun w2 hd => ?_
      have hb2 : Below w.heap.size w w2 := hb.trans (hd.below _)
      have hS : w2.heap = wr.heap := hd.heap
      (((first | refine WD.free 0 rfl (by kernel_rfl) rfl rfl (fun _ _ _ _ _ h => h) rfl rfl (.inr hS) ?_ | refine WD.skip 0 rfl (by kernel_rfl) rfl rfl (fun _ _ _ _ _ h => h) rfl (.inr hS) ?_); try (first | ((with_reducible refine WD.topT ?_ ?_); omega) | ((with_reducible refine WD.topF ?_ ?_); omega) | ((with_reducible refine WD.top64 ?_ ?_); omega))); ((first | refine WD.free 1 rfl (by kernel_rfl) rfl rfl (fun _ _ _ _ _ h => h) rfl rfl (.inr hS) ?_ | refine WD.skip 1 rfl (by kernel_rfl) rfl rfl (fun _ _ _ _ _ h => h) rfl (.inr hS) ?_); try (first | ((with_reducible refine WD.topT ?_ ?_); omega) | ((with_reducible refine WD.topF ?_ ?_); omega) | ((with_reducible refine WD.top64 ?_ ?_); omega))))
      refine WD.idxI 2 i rfl (by kernel_rfl) rfl rfl (fun _ _ _ _ _ h => h) rfl rfl rfl rfl hr1 rfl rfl hik (.inr hS) fun p hp => ?_
      refine WD.load 3 [8] rfl (by kernel_rfl) rfl rfl (fun _ _ _ _ _ h => h) rfl rfl rfl rfl (fun wx hx => (heap_cell hx _).trans hp) hS ?_
      (((first | refine WD.free 4 rfl (by kernel_rfl) rfl rfl (fun _ _ _ _ _ h => h) rfl rfl (.inr hS) ?_ | refine WD.skip 4 rfl (by kernel_rfl) rfl rfl (fun _ _ _ _ _ h => h) rfl (.inr hS) ?_); try (first | ((with_reducible refine WD.topT ?_ ?_); omega) | ((with_reducible refine WD.topF ?_ ?_); omega) | ((with_reducible refine WD.top64 ?_ ?_); omega))); ((first | refine WD.free 5 rfl (by kernel_rfl) rfl rfl (fun _ _ _ _ _ h => h) rfl rfl (.inr hS) ?_ | refine WD.skip 5 rfl (by kernel_rfl) rfl rfl (fun _ _ _ _ _ h => h) rfl (.inr hS) ?_); try (first | ((with_reducible refine WD.topT ?_ ?_); omega) | ((with_reducible refine WD.topF ?_ ?_); omega) | ((with_reducible refine WD.top64 ?_ ?_); omega))))
      refine WD.idxI 6 i rfl (by kernel_rfl) rfl rfl (fun _ _ _ _ _ h => h) rfl rfl rfl rfl hr2 rfl rfl (by omega) (.inr hS) fun p2 hp2 => ?_
      refine WD.load 7 [8] rfl (by kernel_rfl) rfl rfl (fun _ _ _ _ _ h => h) rfl rfl rfl rfl (fun wx hx => (heap_cell hx _).trans hp2) hS ?_
      refine WD.one 8 (by kernel_rfl) rfl ?_
      refine WL.pure rfl rfl rfl rfl ?_
      refine WL.nil (WQ.dk (.inl rfl) ?_)
      refine WD.done (by kernel_rfl) ?_
      refine kgo ?_
      refine WC.condS rfl (fun hne => ?_) fun heq => ?_
      · refine kgo ?_
        refine WQ.ret1 rfl rfl ⟨?_, hb2⟩
        rw [decide_eq_false (fun e => hne (by rw [e]))]
      · refine kgo ?_
        refine WQ.again (i + 1) ⟨rfl, rfl, rfl, trivial⟩ ⟨hik, take_snoc_eq ht hik (by omega) ?_, hb2⟩ (by show l1.length - (i + 1) < l1.length - i; omega)
        have : nth l1 i = nth l2 i := by simpa using heq
        simpa [nth, hik, show i < l2.length by omega] using this
    · obtain rfl : i = l1.length := by omega
      refine kgo ?_
      refine WQ.ret1 rfl rfl ⟨?_, hb⟩
      have : l1 = l2 := by rw [List.take_length, hl, List.take_length] at ht; exact ht
      simp [this]
  · refine kgo ?_
    refine WQ.ret1 rfl rfl ⟨?_, Below.refl _ _⟩
    rw [decide_eq_false (fun e => hl (by rw [e]))]
end K
end Go.Proofs.Ytlamdhekjlnccaa

/- BlockEncodes (chapter 11): the law. -/
namespace Go.Proofs.Ytlamdhekjlnccaa
open Go.RowKit
namespace K
theorem heavy_sm {f : Nat} {b : Bk} (hs : ∀ e ∈ b.ents, Sml f e.data) (h : ∀ e ∈ b.ents, ∃ n, ¬ 3000 < grt 3000 f e.data n) :
    (∀ e ∈ b.ents, chk 16 e.data = 0 → (encV 16 e.data).length ≤ 70368744177664) ∧ ∀ e ∈ b.ents, Sm 3000 f e.data :=
  ⟨fun e he => by obtain ⟨n, hn⟩ := h e he; exact enc_len (hs e he) hn, fun e he => by obtain ⟨n, hn⟩ := h e he; exact (grt_sm (B := 3000) f e.data n (hs e he) (by omega)).2⟩
set_option maxHeartbeats 4000000 in
theorem blockEncodes_law {f : Nat} {w : World} {b : Bk} {c1 : List Value} (data : Bool) (h : IsB f w b c1) (hm : ∀ e ∈ b.ents, Sml f e.data) :
    Calls Try.prog 3 #[.agg c1.toArray, .bool data] w fun e w' => e = .returned (.bool true) ∧ Below w.heap.size w w' := by
  have hl1 := h.len
  refine enter (args := [.agg c1.toArray, .bool data]) Try.func3 rfl Try.ntmps3 rfl ?_
  refine kgo ?_
  refine WL.box rfl rfl rfl rfl rfl fun g1 w1 hf1 => ?_
  have hf1' : Fresh w g1 w1 26 c1 := hf1
  clear hf1
  have hw1 := hf1'.below
  have B1 := hf1'.blk
  clear hf1'
  refine kgo ?_
  refine WL.loadMid rfl rfl rfl rfl rfl rfl (VBlk.rangeAt B1) hl1 ?_
  refine WL.call rfl rfl rfl rfl rfl Try.func6 rfl (by kernel_rfl) (heavy_grt (IsB.below hw1 h) hm) ?_
  rintro _ w2 ⟨hk2, p1, rfl, hp1⟩
  refine ⟨_, rfl, ?_⟩
  have hw2 := hw1.trans (hk2.mono hw1.size)
  have B2 := B1.below hk2 B1.lt
  cases p1 with
  | true =>
    refine kgo ?_
    exact WQ.ret1 rfl rfl ⟨rfl, hw2⟩
  | false =>
  obtain ⟨hn, hgr⟩ := hp1 rfl
  obtain ⟨hlen, hsm⟩ := heavy_sm hm hgr
  refine kgo ?_
  refine WL.loadMid rfl rfl rfl rfl rfl rfl (VBlk.rangeAt B2) hl1 ?_
  refine WL.call rfl rfl rfl rfl rfl Try.func7 rfl (by kernel_rfl) (rclone11_any (IsB.below hw2 h) hsm hn) ?_
  rintro _ w3 ⟨hk3, c3, rfl, hB3⟩
  refine ⟨_, rfl, ?_⟩
  have hl3 := hB3.len
  refine WL.alloc (z := .agg (bkC noB (.slice none 0 0)).toArray) rfl rfl rfl rfl (fun _ => by kernel_rfl) fun xg w4 hf4 => ?_
  have hf4' : Fresh w3 xg w4 26 (bkC noB (.slice none 0 0)) := hf4
  clear hf4
  refine WL.storeRow rfl rfl rfl rfl rfl rfl hf4'.blk hl3 rfl hB3.one ?_
  have hk5 : Below w3.heap.size w3 (w4.setRow xg c3.toArray) := below_setRow hf4'.below (by rw [hf4'.eq]; exact Nat.le_refl _) _
  have X5 : VBlk 26 (w4.setRow xg c3.toArray) xg c3 := hf4'.blk.setRow c3
  generalize w4.setRow xg c3.toArray = w5 at hk5 X5
  clear hf4'
  have hk25 : Below w2.heap.size w2 w5 := hk3.trans (hk5.mono hk3.size)
  have hw5 : Below w.heap.size w w5 := hw2.trans (hk25.mono hw2.size)
  have B5 := B2.below hk25 B2.lt
  have hX5 : IsB f w5 b c3 := IsB.below hk5 (isB_of hB3)
  refine kgo ?_
  refine WL.loadMid rfl rfl rfl rfl rfl rfl (VBlk.rangeAt X5) hl3 ?_
  refine kgo ?_
  refine WL.call rfl rfl rfl rfl rfl Try.func8 rfl (by kernel_rfl) (encode11_any data hX5 hlen) ?_
  rintro _ w7 ⟨b7, rfl, hb7, hk7, ho7⟩
  refine ⟨_, rfl, ?_⟩
  have hw7 : Below w.heap.size w w7 := hw5.trans (hk7.mono hw5.size)
  have B7 := B5.below hk7 B5.lt
  have X7 := X5.below hk7 X5.lt
  refine kgo ?_
  refine WL.loadMid rfl rfl rfl rfl rfl rfl (VBlk.rangeAt B7) hl1 ?_
  refine kgo ?_
  refine WL.call rfl rfl rfl rfl rfl Try.func9 rfl (by kernel_rfl) (rencode11_any data (IsB.below hw7 h) hlen) ?_
  rintro _ w8 ⟨b8, rfl, hb8, hk8, ho8⟩
  refine ⟨_, rfl, ?_⟩
  have hw8 : Below w.heap.size w w8 := hw7.trans (hk8.mono hw7.size)
  have B8 := B7.below hk8 B7.lt
  have X8 := X7.below hk8 X7.lt
  have hk58 : Below w5.heap.size w5 w8 := hk7.trans (hk8.mono hk7.size)
  have hb78 := hb7.below hk8
  generalize (encB data b).1 = L at hb78 hb8
  generalize (encB data b).2 = ee
  refine kgo ?_
  refine WL.call rfl rfl rfl rfl rfl Try.func10 rfl (by kernel_rfl) (same7_any hb78.sl hb8.sl) ?_
  rintro _ w9 ⟨rfl, hk9⟩
  refine ⟨_, rfl, ?_⟩
  have hw9 : Below w.heap.size w w9 := hw8.trans (hk9.mono hw8.size)
  have B9 := B8.below hk9 B8.lt
  have X9 := X8.below hk9 X8.lt
  have hk59 : Below w5.heap.size w5 w9 := hk58.trans (hk9.mono hk58.size)
  refine WL.as 28 (.bool true) rfl (congrArg Value.bool (decide_eq_true rfl)) ?_
  refine kgo ?_
  refine WL.loadMid rfl rfl rfl rfl rfl rfl (VBlk.rangeAt X9) hl3 ?_
  refine kgo ?_
  refine WL.loadMid rfl rfl rfl rfl rfl rfl (VBlk.rangeAt B9) hl1 ?_
  refine WL.on rfl rfl ?_
  refine WL.call rfl rfl rfl rfl rfl Try.func11 rfl (by kernel_rfl) (blocks_any (IsB.below hk59 hX5) (IsB.below hw9 h)) ?_
  rintro _ w10 ⟨⟨bb, rfl, hbb⟩, hk10⟩
  refine ⟨_, rfl, ?_⟩
  obtain rfl : bb = true := hbb.2 rfl
  have hw10 : Below w.heap.size w w10 := hw9.trans (hk10.mono hw9.size)
  refine kgo ?_
  refine WL.call rfl rfl rfl rfl rfl Try.func12 rfl (by kernel_rfl) known_any ?_
  rintro _ w11 ⟨rfl, hk11⟩
  refine ⟨_, rfl, ?_⟩
  refine kgo ?_
  exact WQ.ret1 rfl rfl ⟨rfl, hw10.trans (hk11.mono hw10.size)⟩
end K
end Go.Proofs.Ytlamdhekjlnccaa

/- Values that come in: what they read as. -/
namespace Go.Proofs.Ytlamdhekjlnccaa
open Go.ChangeShapes Go.WideShapes Go.ChangeAt Go.RowKit
namespace K

section
variable {H : Type} {P : Program}
/-- All weights are within reach. -/
def WOk (P : Program) (t : TypeId) (d : DataW H) : Prop := ∀ n ∈ d.weights P t, n ≤ reachBytes
theorem weightsAll_mem {e : TypeId} : ∀ {ds : List (DataW H)} {d : DataW H} {n : Nat}, d ∈ ds → n ∈ d.weights P e → n ∈ DataW.weightsAll P e ds
  | d0 :: ds, d, n, hd, hn => by
    rw [DataW.weightsAll, List.mem_append]
    rcases List.mem_cons.1 hd with rfl | hd
    · exact .inl hn
    · exact .inr (weightsAll_mem hd hn)
theorem WOk.slice {t e : TypeId} {elems spare : List (DataW H)} (hu : P.underlying t = some (.slice e)) (h : WOk P t (.slice elems spare)) : (elems.length + spare.length) * P.bytesOf e ≤ reachBytes ∧ ∀ d ∈ elems, WOk P e d := by
  unfold WOk at h
  rw [DataW.weights, hu] at h
  simp only [List.mem_cons, List.mem_append] at h
  exact ⟨h _ (.inl rfl), fun d hd n hn => h n (.inr (.inl (weightsAll_mem hd hn)))⟩
theorem WOk.agg {t : TypeId} {fs : Array Field} {parts : List (DataW H)} (hu : P.underlying t = some (.struct fs)) (h : WOk P t (.agg parts)) {i : Nat} {f : Field} {d : DataW H} (hf : fs[i]? = some f) (hd : parts[i]? = some d) : WOk P f.type d := by
  unfold WOk at h
  rw [DataW.weights, hu] at h
  exact fun n hn => h n (DataW.weights_mem_each (j := i) (by simp [hf]) hd n hn)
theorem WOk.string {t : TypeId} {l : List UInt8} (h : WOk P t (.lit (.string l) : DataW H)) : l.length ≤ reachBytes := h _ (by simp [DataW.weights])
end

section
variable {H : Type} {enc : TypeId × Value → H} {W : World} {base : Nat} {held : Bool}
theorem reach_le {n : Nat} (h : n ≤ reachBytes) : n ≤ 140737488355328 := Nat.le_trans h (by decide)

/-- A slice, opened at each place. -/
theorem open_sl2 {t e : TypeId} {fuel : Nat} {v : Value} {x : DataW H × List MemPlace} (m : Nat) (hm0 : 0 < m) (hu : Try.prog.underlying t = some (.slice e)) (hce : Try.prog.cellsOf e = m) (h : DataW.trod enc Try.prog W base (fun _ => true) held fuel t [v] = some x) :
    ∃ sp len cap, v = .slice sp len cap ∧ len ≤ cap ∧ cap ≤ 9223372036854775807 ∧ ∃ n elems rest, n < fuel ∧ (x.1 = .slice (elems.map (·.1)) rest ∨ (x.1 = .nil ∧ elems = [])) ∧ elems.length = len ∧
      ∀ i, i < len → ∃ (b o : Nat) (cs : List Value) (y : DataW H × List MemPlace), sp = some ⟨b, o, none⟩ ∧ b < W.heap.size ∧ cs.length = m ∧ W.rangeAt b (o + i * m) cs ∧ elems[i]? = some y ∧ DataW.trod enc Try.prog W base (fun _ => true) held n e cs = some y := by
  rcases DataW.trod_slice hu h with ⟨hcs, rfl⟩ | ⟨a, len, cap, elems, rest, n, rfl, hcs, rfl, hb, hl, hcap, hlen, hel, -, -⟩
  · obtain rfl : v = .slice none 0 0 := by simpa using hcs
    cases fuel with
    | zero => simp [DataW.trod] at h
    | succ f => exact ⟨none, 0, 0, rfl, Nat.le_refl _, by omega, f, [], [], by omega, .inr ⟨rfl, rfl⟩, rfl, fun i hi => absurd hi (by omega)⟩
  · obtain rfl : v = .slice (some a) len cap := by simpa using hcs
    refine ⟨some a, len, cap, rfl, hl, by unfold maxLen at hcap; exact hcap, n, elems, rest.map (·.1), by omega, .inl rfl, hlen, fun i hi => ?_⟩
    have h1 := hel i hi
    rw [hce] at h1
    obtain ⟨y, hy⟩ : ∃ y, elems[i]? = some y := ⟨elems[i], List.getElem?_eq_getElem (by omega)⟩
    rw [hy] at h1
    obtain ⟨cs, hc1, hc2⟩ := Option.bind_eq_some_iff.1 h1
    obtain ⟨-, hcl, hat⟩ := World.cells?_some hc1
    have h00 := hel 0 (by omega)
    rw [hce] at h00
    obtain ⟨y0, hy0⟩ : ∃ y, elems[0]? = some y := ⟨elems[0], List.getElem?_eq_getElem (by omega)⟩
    rw [hy0] at h00
    obtain ⟨cs0, hc01, -⟩ := Option.bind_eq_some_iff.1 h00
    obtain ⟨-, hcl0, hat0⟩ := World.cells?_some hc01
    have hx0 := hat0 0 hm0
    have e0 : (a.add (0 * m)).add 0 = a := by rw [Nat.zero_mul]; rfl
    rw [e0, List.getElem?_eq_getElem (by omega)] at hx0
    have hsp := cell_spot hx0
    obtain ⟨b, o, s⟩ := a
    simp only at hsp
    subst hsp
    refine ⟨b, o, cs, y, rfl, block_lt_of_cell hx0, hcl, fun j u hj => ?_, hy, hc2⟩
    have hjl : j < m := by
      rcases Nat.lt_or_ge j m with h | h
      · exact h
      · rw [List.getElem?_eq_none (by omega)] at hj; cases hj
    have := hat j hjl
    rw [addr_add, addr_add] at this
    rw [this]; exact hj

theorem Six.mono {P P' : V → List Value → Prop} {w : World} {v : Value} {l : List V} (h : Six P w v l) (hP : ∀ x cs, P x cs → P' x cs) : Six P' w v l := by
  obtain ⟨sp, cap, h1, h2, h3, h4⟩ := h
  refine ⟨sp, cap, h1, h2, h3, fun h0 => ?_⟩
  obtain ⟨b, o, e, hlt, hr⟩ := h4 h0
  refine ⟨b, o, e, hlt, fun j hj => ?_⟩
  obtain ⟨cs, hc, hp, hat⟩ := hr j hj
  exact ⟨cs, hc, hP _ _ hp, hat⟩
theorem IsV.mono {w : World} : ∀ {f f' : Nat} {v : V} {cs : List Value}, f ≤ f' → IsV f w v cs → IsV f' w v cs
  | 0, _, _, _, _, h => h.elim
  | f + 1, f', v, cs, hf, h => by
    obtain ⟨g, rfl⟩ : ∃ g, f' = g + 1 := ⟨f' - 1, by omega⟩
    obtain ⟨sn, sk, h1, h2, h3, h4, h5, h6, h7⟩ := h
    exact ⟨sn, sk, h1, h2, h3, h4, h5, h6, Six.mono h7 fun _ _ hp => IsV.mono (by omega) hp⟩
theorem Sml.mono : ∀ {f f' : Nat} {v : V}, f ≤ f' → Sml f v → Sml f' v
  | 0, _, _, _, h => h.elim
  | f + 1, f', v, hf, h => by
    obtain ⟨g, rfl⟩ : ∃ g, f' = g + 1 := ⟨f' - 1, by omega⟩
    exact ⟨h.1, h.2.1, fun x hx => Sml.mono (by omega) (h.2.2 x hx)⟩

theorem cellsV : Try.prog.cellsOf 45 = 6 := by kernel_rfl
theorem cellsI : Try.prog.cellsOf 3 = 1 := by kernel_rfl
theorem cellsS : Try.prog.cellsOf 9 = 1 := by kernel_rfl
theorem cellsSS : Try.prog.cellsOf 42 = 1 := by kernel_rfl
theorem cellsVV : Try.prog.cellsOf 43 = 1 := by kernel_rfl
theorem bytesS : Try.prog.bytesOf 9 = 16 := by kernel_rfl
theorem bytesV : Try.prog.bytesOf 45 = 88 := by kernel_rfl

theorem open_strs2 {fuel : Nat} {v : Value} {x : DataW H × List MemPlace} (h : DataW.trod enc Try.prog W base (fun _ => true) held fuel 42 [v] = some x) (hz : WOk Try.prog 42 x.1) :
    ∃ l, Strs W v l ∧ l.length ≤ 140737488355328 := by
  obtain ⟨sp, len, cap, rfl, hl, hc, n, elems, rest, -, hx, hlen, hel⟩ := open_sl2 1 (by omega) Try.underlying42 cellsS h
  have key : ∀ i, i < len → ∃ (s : ByteArray), s.size ≤ 140737488355328 ∧ ∃ b o, sp = some ⟨b, o, none⟩ ∧ b < W.heap.size ∧ W.cell? ⟨b, o + i, none⟩ = some (.string s) := by
    intro i hi
    obtain ⟨b, o, cs, y, hsp, hb, hcl, hat, hy, ht⟩ := hel i hi
    obtain ⟨s, rfl, rfl, -⟩ := DataW.trod_string Try.underlying9 ht
    have hw : WOk Try.prog 9 (.lit (.string s.data.toList) : DataW H) := by
      rcases hx with hx | ⟨-, rfl⟩
      · rw [hx] at hz
        exact (hz.slice Try.underlying42).2 _ (List.mem_map.2 ⟨_, List.mem_of_getElem? hy, rfl⟩)
      · cases hy
    have := hw.string
    rw [Array.length_toList] at this
    refine ⟨s, reach_le this, b, o, hsp, hb, ?_⟩
    have := hat 0 _ rfl
    rw [Nat.mul_one] at this
    exact this
  have : Inhabited ByteArray := ⟨noT⟩
  obtain ⟨g, hg⟩ := Deep.choose_lt key
  have hget : ∀ k, k < len → ((List.range len).map g).getD k noT = g k := fun k hk => by simp [hk]
  have hll : ((List.range len).map g).length = len := by simp
  refine ⟨(List.range len).map g, ⟨sp, cap, by rw [hll], by rw [hll]; exact hl, hc, fun j hj => ?_, fun h0 => ?_⟩, ?_⟩
  · rw [hll] at hj; rw [hget j hj]; exact (hg j hj).1
  · rw [hll] at h0
    obtain ⟨-, b, o, hsp, hb, -⟩ := hg 0 h0
    refine ⟨b, o, hsp, hb, fun j hj => ?_⟩
    rw [hll] at hj
    obtain ⟨-, b2, o2, hsp2, -, hcell⟩ := hg j hj
    rw [hsp] at hsp2
    cases hsp2
    rw [hget j hj]; exact hcell
  · rw [hll]
    rcases hx with hx | ⟨-, rfl⟩
    · rw [hx] at hz
      have := (hz.slice Try.underlying42).1
      rw [bytesS, List.length_map, hlen] at this
      exact reach_le (by omega)
    · simp at hlen; omega

theorem open_vals2 : ∀ (fuel : Nat), (∀ n, n < fuel → ∀ {cs : List Value} {x : DataW H × List MemPlace}, DataW.trod enc Try.prog W base (fun _ => true) held n 45 cs = some x → WOk Try.prog 45 x.1 → ∃ v, IsV n W v cs ∧ Sml n v) →
    ∀ {v : Value} {x : DataW H × List MemPlace}, DataW.trod enc Try.prog W base (fun _ => true) held fuel 43 [v] = some x → WOk Try.prog 43 x.1 → ∃ l n, n < fuel ∧ IsVs n W v l ∧ (∀ y ∈ l, Sml n y) ∧ l.length ≤ 140737488355328 := by
  intro fuel ih v x h hz
  obtain ⟨sp, len, cap, rfl, hl, hc, n, elems, rest, hn, hx, hlen, hel⟩ := open_sl2 6 (by omega) Try.underlying43 cellsV h
  have key : ∀ i, i < len → ∃ (y : V), Sml n y ∧ ∃ b o cs, sp = some ⟨b, o, none⟩ ∧ b < W.heap.size ∧ cs.length = 6 ∧ IsV n W y cs ∧ W.rangeAt b (o + i * 6) cs := by
    intro i hi
    obtain ⟨b, o, cs, y, hsp, hb, hcl, hat, hy, ht⟩ := hel i hi
    have hw : WOk Try.prog 45 y.1 := by
      rcases hx with hx | ⟨-, rfl⟩
      · rw [hx] at hz
        exact (hz.slice Try.underlying43).2 _ (List.mem_map.2 ⟨_, List.mem_of_getElem? hy, rfl⟩)
      · cases hy
    obtain ⟨v, hv, hs⟩ := ih n hn ht hw
    exact ⟨v, hs, b, o, cs, hsp, hb, hcl, hv, hat⟩
  obtain ⟨g, hg⟩ := Deep.choose_lt key
  have hget : ∀ k, k < len → ((List.range len).map g).getD k noV = g k := fun k hk => by simp [hk]
  have hll : ((List.range len).map g).length = len := by simp
  refine ⟨(List.range len).map g, n, hn, ⟨sp, cap, by rw [hll], by rw [hll]; exact hl, hc, fun h0 => ?_⟩, fun y hy => ?_, ?_⟩
  · rw [hll] at h0
    obtain ⟨-, b, o, -, hsp, hb, -⟩ := hg 0 h0
    refine ⟨b, o, hsp, hb, fun j hj => ?_⟩
    rw [hll] at hj
    obtain ⟨-, b2, o2, cs, hsp2, -, hcl, hv, hat⟩ := hg j hj
    rw [hsp] at hsp2
    cases hsp2
    rw [hget j hj]
    exact ⟨cs, hcl, hv, hat⟩
  · obtain ⟨i, hi, rfl⟩ := List.mem_map.1 hy
    exact (hg i (List.mem_range.1 hi)).1
  · rw [hll]
    rcases hx with hx | ⟨-, rfl⟩
    · rw [hx] at hz
      have := (hz.slice Try.underlying43).1
      rw [bytesV, List.length_map, hlen] at this
      exact reach_le (by omega)
    · simp at hlen; omega

theorem take1 {l : List Value} {o : Nat} {v : Value} (h : (l.drop o).take 1 = [v]) : l[o]? = some v := by
  have : ((l.drop o).take 1)[0]? = some v := by rw [h]; rfl
  simpa [List.getElem?_take] using this
set_option maxRecDepth 100000 in
set_option maxHeartbeats 1000000 in
theorem open_val : ∀ (fuel : Nat) {cs : List Value} {x : DataW H × List MemPlace}, DataW.trod enc Try.prog W base (fun _ => true) held fuel 45 cs = some x → WOk Try.prog 45 x.1 → ∃ v, IsV fuel W v cs ∧ Sml fuel v := by
  intro fuel
  induction fuel using Nat.strongRecOn with
  | _ fuel ih =>
    intro cs x h hz
    obtain ⟨xs, n, rfl, rfl, hl, hxl, hx⟩ := DataW.trod_struct Try.underlying45 h
    have hxl' : xs.length = 6 := hxl
    rw [cellsV] at hl
    have e : ∀ i, i < 6 → ∃ y, xs[i]? = some y := fun i hi => ⟨xs[i], List.getElem?_eq_getElem (by omega)⟩
    obtain ⟨x0, e0⟩ := e 0 (by omega)
    obtain ⟨x1, e1⟩ := e 1 (by omega)
    obtain ⟨x2, e2⟩ := e 2 (by omega)
    obtain ⟨x3, e3⟩ := e 3 (by omega)
    obtain ⟨x4, e4⟩ := e 4 (by omega)
    obtain ⟨x5, e5⟩ := e 5 (by omega)
    have h0 := hx 0 _ rfl
    have h1 := hx 1 _ rfl
    have h2 := hx 2 _ rfl
    have h3 := hx 3 _ rfl
    have h4 := hx 4 _ rfl
    have h5 := hx 5 _ rfl
    rw [e0] at h0; rw [e1] at h1; rw [e2] at h2; rw [e3] at h3; rw [e4] at h4; rw [e5] at h5
    have z : ∀ {i : Nat} {f : Field} {y : DataW H × List MemPlace}, _ → xs[i]? = some y → WOk Try.prog f.type y.1 := fun {i f y} hf hy => WOk.agg Try.underlying45 hz (i := i) (f := f) hf (by rw [List.getElem?_map, hy]; rfl)
    have z3 : WOk Try.prog 9 x3.1 := z (i := 3) rfl e3
    have z4 : WOk Try.prog 42 x4.1 := z (i := 4) rfl e4
    have z5 : WOk Try.prog 43 x5.1 := z (i := 5) rfl e5
    obtain ⟨a, ha, -, wa⟩ := DataW.trod_int Try.underlying3 h0
    obtain ⟨b, hb, -, wb⟩ := DataW.trod_int Try.underlying3 h1
    obtain ⟨c, hc, -, wc⟩ := DataW.trod_int Try.underlying3 h2
    obtain ⟨s, hs, hs2, -⟩ := DataW.trod_string Try.underlying9 h3
    have t0 : cs[0]? = some (.int .i64 a) := take1 (by rw [← cellsI]; exact ha)
    have t1 : cs[1]? = some (.int .i64 b) := take1 (by rw [← cellsI]; exact hb)
    have t2 : cs[2]? = some (.int .i64 c) := take1 (by rw [← cellsI]; exact hc)
    have t3 : cs[3]? = some (.string s) := take1 (by rw [← cellsS]; exact hs)
    match cs, hl with
    | [c0, c1, c2, c3, c4, c5], _ =>
      simp at t0 t1 t2 t3
      subst t0; subst t1; subst t2; subst t3
      have h4' : DataW.trod enc Try.prog W base (fun _ => true) held n 42 [c4] = some x4 := h4
      have h5' : DataW.trod enc Try.prog W base (fun _ => true) held n 43 [c5] = some x5 := h5
      obtain ⟨names, hnm, hnl⟩ := open_strs2 h4' z4
      obtain ⟨kids, k, hk, hkd, hks, hkl⟩ := open_vals2 n (fun q hq {cs x} h1 h2 => ih q (by omega) h1 h2) h5' z5
      rw [hs2] at z3
      have hsz := z3.string
      rw [Array.length_toList] at hsz
      refine ⟨.mk a b c s names kids, ⟨c4, c5, rfl, wa, wb, wc, reach_le hsz, hnm, Six.mono hkd fun _ _ hp => IsV.mono (by omega) hp⟩, hnl, hkl, fun y hy => Sml.mono (by omega) (hks y hy)⟩
set_option maxRecDepth 100000 in
/-- A row of values that comes in. -/
theorem open_vals {b0 : Nat} {r : Reach} {v : Value} {d : DataW H} {p : List MemPlace} (hval : Value.okWide Try.prog W r b0 43 v) (h : DataW.Trod enc Try.prog W base (fun _ => true) held 43 v d p) :
    (∀ n ∈ d.weights Try.prog 43, n ≤ reachBytes) → ∃ f l, IsVs f W v l ∧ (∀ x ∈ l, Sml f x) ∧ l.length ≤ 140737488355328 := by
  intro hz
  obtain ⟨a, len, cap, rfl⟩ := okWide_slice Try.underlying43 hval
  obtain ⟨fuel, hf⟩ := h
  obtain ⟨l, n, -, h1, h2, h3⟩ := open_vals2 fuel (fun n _ {cs x} h1 h2 => open_val n h1 h2) (v := .slice a len cap) hf hz
  exact ⟨n, l, h1, h2, h3⟩
set_option maxRecDepth 100000
/-- A value that comes in. -/
theorem open_valA {b0 : Nat} {r : Reach} {v : Value} {d : DataW H} {p : List MemPlace} (hval : Value.okWide Try.prog W r b0 45 v) (h : DataW.Trod enc Try.prog W base (fun _ => true) held 45 v d p) :
    (∀ n ∈ d.weights Try.prog 45, n ≤ reachBytes) → ∃ f x cs, v = .agg cs.toArray ∧ IsV f W x cs ∧ Sml f x := by
  intro hz
  obtain ⟨cs, rfl, -⟩ := okWide_struct Try.underlying45 hval
  obtain ⟨fuel, hf⟩ := h
  obtain ⟨x, h1, h2⟩ := open_val fuel (cs := cs.toList) hf hz
  exact ⟨fuel, x, cs.toList, by rw [Array.toArray_toList], h1, h2⟩
/-- A row of bytes that comes in, with its size. -/
theorem open_bytes {b0 : Nat} {r : Reach} {v : Value} {d : DataW H} {p : List MemPlace} (hval : Value.okWide Try.prog W r b0 29 v) (h : DataW.Trod enc Try.prog W base (fun _ => true) held 29 v d p) :
    (∀ n ∈ d.weights Try.prog 29, n ≤ reachBytes) → ∃ l, Sl .u8 W v l ∧ (∀ c ∈ l, 0 ≤ c ∧ c ≤ 255) ∧ l.length ≤ 140737488355328 := by
  intro hz
  obtain ⟨l, hs, hw⟩ := open_sl Try.underlying29 Try.underlying5 (by kernel_rfl) hval h
  refine ⟨l, hs, fun c hc => ?_, ?_⟩
  · have := hw c hc
    simp [Lit.wf, IntKind.min, IntKind.max, IntKind.bits, IntKind.signed] at this
    omega
  · obtain ⟨sp0, cap0, rfl, -⟩ := hs
    obtain ⟨fuel, hf⟩ := h
    obtain ⟨sp, len, cap, e, -, -, n, elems, rest, -, hx, hlen, -⟩ := open_sl2 1 (by omega) Try.underlying29 (by kernel_rfl) (v := .slice sp0 l.length cap0) hf
    injection e with _ e2 _
    rcases hx with hx | ⟨-, rfl⟩
    · have hz' : WOk Try.prog 29 d := hz
      simp only at hx
      rw [hx] at hz'
      have := (hz'.slice Try.underlying29).1
      rw [show Try.prog.bytesOf 5 = 1 by kernel_rfl, List.length_map, hlen] at this
      exact reach_le (by omega)
    · simp at hlen; omega
end
end K
end Go.Proofs.Ytlamdhekjlnccaa

/- Blocks and entries that come in: what they read as. -/
namespace Go.Proofs.Ytlamdhekjlnccaa
open Go.ChangeShapes Go.WideShapes Go.ChangeAt Go.RowKit
namespace K
section
variable {H : Type} {enc : TypeId × Value → H} {W : World} {base : Nat} {held : Bool}
/-- A digest. -/
theorem open_hash {fuel : Nat} {cs : List Value} {x : DataW H × List MemPlace} (h : DataW.trod enc Try.prog W base (fun _ => true) held fuel 23 cs = some x) (hl : cs.length = 32) :
    ∃ l : List Int, cs = hashC l ∧ l.length = 32 ∧ Byt l := by
  obtain ⟨xs, m, -, -, -, hxl, hx⟩ := DataW.trod_array Try.underlying23 h
  have he : Try.prog.cellsOf 5 = 1 := by kernel_rfl
  have hel : ∀ i, i < 32 → ∃ q : Int, cs[i]? = some (.int .u8 q) ∧ 0 ≤ q ∧ q ≤ 255 := by
    intro i hi
    have h1 := hx i hi
    rw [he, Nat.mul_one, List.getElem?_eq_getElem (by omega)] at h1
    obtain ⟨q, e1, -, e2⟩ := DataW.trod_int Try.underlying5 h1
    refine ⟨q, take1 e1, ?_⟩
    simp [Lit.wf, IntKind.min, IntKind.max, IntKind.bits, IntKind.signed] at e2
    omega
  have : Inhabited Int := ⟨0⟩
  obtain ⟨g, hg⟩ := Deep.choose_lt hel
  refine ⟨(List.range 32).map g, ?_, by simp, fun c hc => ?_⟩
  · refine List.ext_getElem? fun i => ?_
    by_cases hi : i < 32
    · rw [(hg i hi).1]; simp [hi]
    · rw [List.getElem?_eq_none (by omega), List.getElem?_eq_none (by simp; omega)]
  · obtain ⟨i, hi, rfl⟩ := List.mem_map.1 hc
    exact (hg i (List.mem_range.1 hi)).2
theorem cut5 {α : Type} (cs : List α) : cs = cs.take 5 ++ ((cs.drop 5).take 6 ++ ((cs.drop 11).take 32 ++ cs.drop 43)) := by
  have h1 : cs.drop 43 = (cs.drop 11).drop 32 := by rw [List.drop_drop]
  have h2 : cs.drop 11 = (cs.drop 5).drop 6 := by rw [List.drop_drop]
  rw [h1, List.take_append_drop, h2, List.take_append_drop, List.take_append_drop]
theorem r64_of_wf {x : Int} (h : (Lit.int .i64 x).wf = true) : R64 x := by
  simp [Lit.wf, IntKind.min, IntKind.max, IntKind.bits, IntKind.signed] at h; omega
set_option maxRecDepth 100000 in
set_option maxHeartbeats 2000000 in
theorem open_en {fuel : Nat} {cs : List Value} {x : DataW H × List MemPlace} (h : DataW.trod enc Try.prog W base (fun _ => true) held fuel 49 cs = some x) (hz : WOk Try.prog 49 x.1) :
    ∃ e, IsE fuel W e cs ∧ Sml fuel e.data := by
  obtain ⟨xs, n, rfl, rfl, hl, hxl, hx⟩ := DataW.trod_struct Try.underlying49 h
  have hxl' : xs.length = 9 := hxl
  have hcl : cs.length = 46 := hl.trans (by kernel_rfl)
  have e : ∀ i, i < 9 → ∃ y, xs[i]? = some y := fun i hi => ⟨xs[i], List.getElem?_eq_getElem (by omega)⟩
  obtain ⟨x0, e0⟩ := e 0 (by omega)
  obtain ⟨x1, e1⟩ := e 1 (by omega)
  obtain ⟨x2, e2⟩ := e 2 (by omega)
  obtain ⟨x3, e3⟩ := e 3 (by omega)
  obtain ⟨x4, e4⟩ := e 4 (by omega)
  obtain ⟨x5, e5⟩ := e 5 (by omega)
  obtain ⟨x6, e6⟩ := e 6 (by omega)
  obtain ⟨x7, e7⟩ := e 7 (by omega)
  obtain ⟨x8, e8⟩ := e 8 (by omega)
  have h0 := hx 0 _ rfl
  have h1 := hx 1 _ rfl
  have h2 := hx 2 _ rfl
  have h3 := hx 3 _ rfl
  have h4 := hx 4 _ rfl
  have h5 := hx 5 _ rfl
  have h6 := hx 6 _ rfl
  have h7 := hx 7 _ rfl
  have h8 := hx 8 _ rfl
  rw [e0] at h0; rw [e1] at h1; rw [e2] at h2; rw [e3] at h3; rw [e4] at h4; rw [e5] at h5; rw [e6] at h6; rw [e7] at h7; rw [e8] at h8
  have z : ∀ {i : Nat} {f : Field} {y : DataW H × List MemPlace}, _ → xs[i]? = some y → WOk Try.prog f.type y.1 := fun {i f y} hf hy => WOk.agg Try.underlying49 hz (i := i) (f := f) hf (by rw [List.getElem?_map, hy]; rfl)
  have z1 : WOk Try.prog 9 x1.1 := z (i := 1) rfl e1
  have z5 : WOk Try.prog 45 x5.1 := z (i := 5) rfl e5
  obtain ⟨a, ha, -, wa⟩ := DataW.trod_int Try.underlying3 h0
  obtain ⟨s, hs, hs2, -⟩ := DataW.trod_string Try.underlying9 h1
  obtain ⟨b, hb, -, wb⟩ := DataW.trod_int Try.underlying3 h2
  obtain ⟨c, hc, -, wc⟩ := DataW.trod_int Try.underlying3 h3
  obtain ⟨d, hd, -, wd⟩ := DataW.trod_int Try.underlying3 h4
  have h5' : DataW.trod enc Try.prog W base (fun _ => true) held n 45 ((cs.drop 5).take (Try.prog.cellsOf 45)) = some x5 := h5
  rw [cellsV] at h5'
  obtain ⟨v, hv, hvs⟩ := open_val n h5' z5
  have h6' : DataW.trod enc Try.prog W base (fun _ => true) held n 23 ((cs.drop 11).take (Try.prog.cellsOf 23)) = some x6 := h6
  rw [show Try.prog.cellsOf 23 = 32 by kernel_rfl] at h6'
  obtain ⟨hh, hhe, hhl, hhb⟩ := open_hash h6' (by simp [hcl])
  obtain ⟨g, hg, -⟩ := DataW.trod_bool Try.underlying4 h7
  have h8' : DataW.trod enc Try.prog W base (fun _ => true) held n 47 ((cs.drop 44).take (Try.prog.cellsOf 47)) = some x8 := h8
  rw [show Try.prog.cellsOf 47 = 2 by kernel_rfl] at h8'
  obtain ⟨ys, n8, -, -, hl8, hyl, hy⟩ := DataW.trod_struct Try.underlying47 h8'
  have hyl' : ys.length = 2 := hyl
  obtain ⟨y0, f0⟩ : ∃ y, ys[0]? = some y := ⟨ys[0], List.getElem?_eq_getElem (by omega)⟩
  obtain ⟨y1, f1⟩ : ∃ y, ys[1]? = some y := ⟨ys[1], List.getElem?_eq_getElem (by omega)⟩
  have k0 := hy 0 _ rfl
  have k1 := hy 1 _ rfl
  rw [f0] at k0; rw [f1] at k1
  obtain ⟨ab, hab, -, wab⟩ := DataW.trod_int Try.underlying3 k0
  obtain ⟨ae, hae, -, wae⟩ := DataW.trod_int Try.underlying3 k1
  have t0 : cs[0]? = some (.int .i64 a) := take1 (by rw [← cellsI]; exact ha)
  have t1 : cs[1]? = some (.string s) := take1 (by rw [← cellsS]; exact hs)
  have t2 : cs[2]? = some (.int .i64 b) := take1 (by rw [← cellsI]; exact hb)
  have t3 : cs[3]? = some (.int .i64 c) := take1 (by rw [← cellsI]; exact hc)
  have t4 : cs[4]? = some (.int .i64 d) := take1 (by rw [← cellsI]; exact hd)
  have t43 : cs[43]? = some (.bool g) := take1 (by rw [← show Try.prog.cellsOf 4 = 1 by kernel_rfl]; exact hg)
  have t44 : ((cs.drop 44).take 2)[0]? = some (.int .i64 ab) := take1 (by rw [← cellsI]; exact hab)
  have t45 : ((cs.drop 44).take 2)[1]? = some (.int .i64 ae) := take1 (by rw [← cellsI]; exact hae)
  have t44' : cs[44]? = some (.int .i64 ab) := by simpa using t44
  have t45' : cs[45]? = some (.int .i64 ae) := by simpa using t45
  have hsz : s.size ≤ 140737488355328 := by
    rw [hs2] at z1
    have := z1.string
    rw [Array.length_toList] at this
    exact reach_le this
  have hhead : cs.take 5 = [.int .i64 a, .string s, .int .i64 b, .int .i64 c, .int .i64 d] := by
    refine List.ext_getElem? fun i => ?_
    match i with
    | 0 => simpa using t0
    | 1 => simpa using t1
    | 2 => simpa using t2
    | 3 => simpa using t3
    | 4 => simpa using t4
    | i + 5 => rw [List.getElem?_eq_none (by simp; omega), List.getElem?_eq_none (by simp)]
  have htail : cs.drop 43 = [.bool g, .int .i64 ab, .int .i64 ae] := by
    refine List.ext_getElem? fun i => ?_
    match i with
    | 0 => simpa using t43
    | 1 => simpa using t44'
    | 2 => simpa using t45'
    | i + 3 => rw [List.getElem?_eq_none (by simp; omega), List.getElem?_eq_none (by simp)]
  refine ⟨⟨a, s, b, c, d, v, hh, g, ab, ae⟩, ⟨(cs.drop 5).take 6, ?_, IsV.mono (by omega) hv, by simp [hcl], IsV.one hv, hhl, hhb, hsz, r64_of_wf wa, r64_of_wf wb, r64_of_wf wc, r64_of_wf wd, r64_of_wf wab, r64_of_wf wae⟩, Sml.mono (by omega) hvs⟩
  have := cut5 cs
  rw [hhead, htail, hhe] at this
  exact this.trans rfl
theorem cellsE : Try.prog.cellsOf 49 = 46 := by kernel_rfl
/-- A row of entries. -/
theorem open_ens (fuel : Nat) {v : Value} {x : DataW H × List MemPlace} (h : DataW.trod enc Try.prog W base (fun _ => true) held fuel 24 [v] = some x) (hz : WOk Try.prog 24 x.1) :
    ∃ l n, n < fuel ∧ Els 46 noE (IsE n W) (fun _ => True) W v l ∧ ∀ y ∈ l, Sml n y.data := by
  obtain ⟨sp, len, cap, rfl, hl, hc, n, elems, rest, hn, hx, hlen, hel⟩ := open_sl2 46 (by omega) Try.underlying24 cellsE h
  have key : ∀ i, i < len → ∃ (y : En), Sml n y.data ∧ ∃ b o cs, sp = some ⟨b, o, none⟩ ∧ b < W.heap.size ∧ cs.length = 46 ∧ IsE n W y cs ∧ W.rangeAt b (o + i * 46) cs := by
    intro i hi
    obtain ⟨b, o, cs, y, hsp, hb, hcl, hat, hy, ht⟩ := hel i hi
    have hw : WOk Try.prog 49 y.1 := by
      rcases hx with hx | ⟨-, rfl⟩
      · rw [hx] at hz
        exact (hz.slice Try.underlying24).2 _ (List.mem_map.2 ⟨_, List.mem_of_getElem? hy, rfl⟩)
      · cases hy
    obtain ⟨v, hv, hs⟩ := open_en ht hw
    exact ⟨v, hs, b, o, cs, hsp, hb, hcl, hv, hat⟩
  have : Inhabited En := ⟨noE⟩
  obtain ⟨g, hg⟩ := Deep.choose_lt key
  have hget : ∀ k, k < len → ((List.range len).map g).getD k noE = g k := fun k hk => by simp [hk]
  have hll : ((List.range len).map g).length = len := by simp
  refine ⟨(List.range len).map g, n, hn, ⟨sp, cap, by rw [hll], by rw [hll]; exact hl, hc, fun h0 => ?_, fun h0 => ?_⟩, fun y hy => ?_⟩
  · subst h0
    rcases DataW.trod_slice Try.underlying24 h with ⟨hcs, -⟩ | ⟨a, len', cap', elems', rest', n', -, hcs, -⟩
    · injection hcs with hcs
      injection hcs
    · injection hcs with hcs
      injection hcs with h1
      cases h1
  · rw [hll] at h0
    obtain ⟨-, b, o, -, hsp, hb, -⟩ := hg 0 h0
    refine ⟨b, o, hsp, hb, trivial, fun j hj => ?_⟩
    rw [hll] at hj
    obtain ⟨-, b2, o2, cs, hsp2, -, hcl, hv, hat⟩ := hg j hj
    rw [hsp] at hsp2
    cases hsp2
    rw [hget j hj]
    exact ⟨cs, hcl, hv, hat⟩
  · obtain ⟨i, hi, rfl⟩ := List.mem_map.1 hy
    exact (hg i (List.mem_range.1 hi)).1
set_option maxRecDepth 100000 in
set_option maxHeartbeats 2000000 in
theorem open_blk {fuel : Nat} {cs : List Value} {x : DataW H × List MemPlace} (h : DataW.trod enc Try.prog W base (fun _ => true) held fuel 26 cs = some x) (hz : WOk Try.prog 26 x.1) :
    ∃ f b, IsB f W b cs ∧ ∀ e ∈ b.ents, Sml f e.data := by
  obtain ⟨xs, n, rfl, rfl, hl, hxl, hx⟩ := DataW.trod_struct Try.underlying26 h
  have hxl' : xs.length = 5 := hxl
  have hcl : cs.length = 36 := hl.trans (by kernel_rfl)
  have e : ∀ i, i < 5 → ∃ y, xs[i]? = some y := fun i hi => ⟨xs[i], List.getElem?_eq_getElem (by omega)⟩
  obtain ⟨x0, e0⟩ := e 0 (by omega)
  obtain ⟨x1, e1⟩ := e 1 (by omega)
  obtain ⟨x2, e2⟩ := e 2 (by omega)
  obtain ⟨x3, e3⟩ := e 3 (by omega)
  obtain ⟨x4, e4⟩ := e 4 (by omega)
  have h0 := hx 0 _ rfl
  have h1 := hx 1 _ rfl
  have h2 := hx 2 _ rfl
  have h3 := hx 3 _ rfl
  have h4 := hx 4 _ rfl
  rw [e0] at h0; rw [e1] at h1; rw [e2] at h2; rw [e3] at h3; rw [e4] at h4
  have z : ∀ {i : Nat} {f : Field} {y : DataW H × List MemPlace}, _ → xs[i]? = some y → WOk Try.prog f.type y.1 := fun {i f y} hf hy => WOk.agg Try.underlying26 hz (i := i) (f := f) hf (by rw [List.getElem?_map, hy]; rfl)
  have z4 : WOk Try.prog 24 x4.1 := z (i := 4) rfl e4
  obtain ⟨a, ha, -, wa⟩ := DataW.trod_int Try.underlying3 h0
  obtain ⟨b, hb, -, wb⟩ := DataW.trod_int Try.underlying3 h1
  obtain ⟨c, hc, -, wc⟩ := DataW.trod_int Try.underlying3 h2
  have h3' : DataW.trod enc Try.prog W base (fun _ => true) held n 23 ((cs.drop 3).take (Try.prog.cellsOf 23)) = some x3 := h3
  rw [show Try.prog.cellsOf 23 = 32 by kernel_rfl] at h3'
  obtain ⟨hh, hhe, hhl, hhb⟩ := open_hash h3' (by simp [hcl])
  have h4' : DataW.trod enc Try.prog W base (fun _ => true) held n 24 ((cs.drop 35).take (Try.prog.cellsOf 24)) = some x4 := h4
  rw [show Try.prog.cellsOf 24 = 1 by kernel_rfl] at h4'
  obtain ⟨se, hse⟩ : ∃ se, (cs.drop 35).take 1 = [se] := ⟨cs[35], by rw [List.drop_eq_getElem_cons (by omega)]; rfl⟩
  rw [hse] at h4'
  obtain ⟨l, m, hm, hels, hsm⟩ := open_ens n h4' z4
  have t0 : cs[0]? = some (.int .i64 a) := take1 (by rw [← cellsI]; exact ha)
  have t1 : cs[1]? = some (.int .i64 b) := take1 (by rw [← cellsI]; exact hb)
  have t2 : cs[2]? = some (.int .i64 c) := take1 (by rw [← cellsI]; exact hc)
  refine ⟨m, ⟨a, b, c, hh, l⟩, ⟨se, ?_, hels, hhl, hhb, r64_of_wf wa, r64_of_wf wb, r64_of_wf wc⟩, hsm⟩
  have hhead : cs.take 3 = [.int .i64 a, .int .i64 b, .int .i64 c] := by
    refine List.ext_getElem? fun i => ?_
    match i with
    | 0 => simpa using t0
    | 1 => simpa using t1
    | 2 => simpa using t2
    | i + 3 => rw [List.getElem?_eq_none (by simp; omega), List.getElem?_eq_none (by simp)]
  have h35 : cs.drop 35 = [se] := by rw [← hse, List.take_of_length_le (by simp [hcl])]
  have hcut : cs = cs.take 3 ++ ((cs.drop 3).take 32 ++ cs.drop 35) := by
    have h2 : cs.drop 35 = (cs.drop 3).drop 32 := by rw [List.drop_drop]
    rw [h2, List.take_append_drop, List.take_append_drop]
  rw [hhead, h35, hhe] at hcut
  exact hcut.trans rfl
set_option maxRecDepth 100000
/-- A block that comes in. -/
theorem open_blkA {b0 : Nat} {r : Reach} {v : Value} {d : DataW H} {p : List MemPlace} (hval : Value.okWide Try.prog W r b0 26 v) (h : DataW.Trod enc Try.prog W base (fun _ => true) held 26 v d p) :
    (∀ n ∈ d.weights Try.prog 26, n ≤ reachBytes) → ∃ f x cs, v = .agg cs.toArray ∧ IsB f W x cs ∧ ∀ e ∈ x.ents, Sml f e.data := by
  intro hz
  obtain ⟨cs, rfl, -⟩ := okWide_struct Try.underlying26 hval
  obtain ⟨fuel, hf⟩ := h
  obtain ⟨f, x, h1, h2⟩ := open_blk (cs := cs.toList) hf hz
  exact ⟨f, x, cs.toList, by rw [Array.toArray_toList], h1, h2⟩
end
end K
end Go.Proofs.Ytlamdhekjlnccaa

/-
  For every block, with its data or without, the law BlockEncodes answers true, and the arguments read as they did. No condition.
-/
namespace Go.Proofs.Ytlamdhekjlnccaa.blockEncodes
open Go.ChangeShapes Go.WideShapes Go.ChangeAt Go.RowKit
open Go.ChangeMaps (open_string shut_string)
open Go.Proofs.Ytlamdhekjlnccaa

set_option maxRecDepth 100000 in
theorem lifted (os : Os) (started : os.Started) (H : Type) (enc : TypeId × Value → H) :
    ReturnsInHanded {} Try.checked os 3 .any (Rows.blockEncodesSpec.pre6 enc Try.prog Try.f3 Rows.blockEncodesRow.domain false) (Rows.blockEncodesSpec.post enc Try.prog Try.f3 false true false false) := by
  refine returnsInHanded_of_change_sized (C := Try.checked) Try.ownKnob started (by kernel_rfl) Try.func3
    (ChangeSpec.witness6 (enc := enc) (C := Try.checked) false ⟨#[], #[.agg (K.bkC K.noB (.slice none 0 0)).toArray, .bool false], []⟩ 8 (by kernel_rfl) (by kernel_rfl) (by kernel_rfl) (by kernel_rfl)) ?_
  intro W base args ds gs before hval0 hW hcnd hsz _
  have hval : ∀ (j : Nat) t v, Try.f3.params[j]? = some t → args[j]? = some v → Value.okWide Try.prog W .any base t v := hval0
  have hW' := hW
  obtain ⟨p, q, hA0, hV, rfl, hfz, hnd⟩ := hW
  have hA : DataW.TrodAll enc Try.prog W 0 (fun _ => true) true Try.f3.params.toList args.toList ds p := hA0
  rw [Try.params3] at hA hval
  obtain ⟨v0, vs0, d0, ds0, p0, q0, hargs, rfl, rfl, h0, r0⟩ := trodAll_cons hA
  obtain ⟨v1, vs1, d1, ds1, p1, q1, rfl, rfl, rfl, h1, r1⟩ := trodAll_cons r0
  obtain ⟨rfl, rfl, rfl⟩ := trodAll_nil r1
  obtain rfl : args = #[v0, v1] := by cases args; simp_all
  obtain ⟨rfl, rfl⟩ := trodVars_none hV
  have k0 := h0
  have lt0 : ∀ x ∈ p0, x.block < W.heap.size := by obtain ⟨m, hm⟩ := k0; exact DataW.trod_lt m _ _ _ hm
  obtain ⟨f0, x0, c0, rfl, iv0, sm0⟩ := K.open_blkA (hval 0 26 v0 rfl rfl) h0 (fun n hn => by have := List.all_eq_true.1 hsz n (DataW.weights_mem_each (j := 0) rfl rfl n hn); simpa using this)
  have k1 := h1
  have lt1 : ∀ x ∈ p1, x.block < W.heap.size := by obtain ⟨m, hm⟩ := k1; exact DataW.trod_lt m _ _ _ hm
  obtain ⟨b1, rfl, -, -⟩ := open_bool Try.underlying4 (hval 1 4 v1 rfl rfl) h1
  clear hA0 hval0
  refine (K.blockEncodes_law b1 iv0 sm0).mono fun e W' ⟨he, bel⟩ => ?_
  subst he
  exact ⟨_, rfl, _, _, _, [], _, [], hW', trodAll_mk1 (shut_bool Try.underlying4 _), (trodAll_cons_mk (Below.trod Try.laid (by kernel_rfl) (of_decide_eq_true (by kernel_rfl)) k0 bel lt0) (trodAll_cons_mk (Below.trod Try.laid (by kernel_rfl) (of_decide_eq_true (by kernel_rfl)) k1 bel lt1) trodAll_mk0)), rfl, bel.frame _, fun h => by cases h⟩

theorem over : Rows.blockEncodesRow.holds Try.pinned (OpenSpec.ofChange Rows.blockEncodesSpec) :=
  OpenClaim.holds_of_wide 3 Try.f3 rfl rfl rfl rfl rfl rfl rfl ⟨rfl, rfl, rfl, rfl, rfl⟩ rfl rfl rfl rfl rfl (by kernel_rfl) Try.func3 (by kernel_rfl)
    (of_decide_eq_true (by kernel_rfl)) (by unfold Func.isWrapper; first | (rw [if_pos (by decide +kernel)]; kernel_rfl) | (rw [if_neg (by decide +kernel)]; exact ⟨rfl, rfl⟩))
    (fun os started H enc _ => lifted os started H enc)

/-- The statement. -/
theorem proved : Rows.BlockEncodesSaid := over
end Go.Proofs.Ytlamdhekjlnccaa.blockEncodes
