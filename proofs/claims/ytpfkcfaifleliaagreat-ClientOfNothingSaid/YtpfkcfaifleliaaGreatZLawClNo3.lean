/- Texts for LawClNo, part 3 of 5. -/
import Derived.Test.YtpfkcfaifleliaaGreatZLawClNo2
import Derived.WideShapes
import Derived.Laws.Strings
import GoSem.Op.String
import Derived.Maps.OwnSet
import Derived.DeepKeys5
import Derived.Shelf.SlMaps.Clone
namespace Go.Proofs.YtpfkcfaifleliaaGreat
namespace Tre
open Go.Op

abbrev Ky := ByteArray
def kl (a b : Ky) : Bool := bytesLess a.toList b.toList
end Tre
end Go.Proofs.YtpfkcfaifleliaaGreat

namespace Go.Proofs.YtpfkcfaifleliaaGreat
open Go.RowKit
namespace K
variable {n : NN} {Q : Exit → Act → World → Prop} {l : Env} {w w' : World} {ops : Array Oper} {o : Oper} {rest : List Oper} {d : Nat}
section
variable {S : World → Prop} {m fuel : Nat} {listed : Array Bool}
end
theorem eqGuard_ptr {P : Program} (op : BinOp) (t : TypeId) (x y : Operand) (p q : Option Addr) (w : World) : (eqGuard op t x y (.pointer p) (.pointer q)).run P w = .ok () w := by
  cases op <;> simp [eqGuard]
theorem WL.nilP {x : Operand} {t t2 e : Nat} {p : Option Addr} (hg : o.guard = none) (hd : o.dst = some d) (hn : Nat.blt d n.n = true) (ho : o.op = .binOp .eql t x (.const (.pointer none)) t2) (ht : tyOf ty t = some (.ptr e)) (hx : evl l x = some (.pointer p)) (_hgd : Tryz.prog.eqGuardType Tryz.prog.depth t = false)
    (h : WL n ops Q rest ((d, .bool p.isNone) :: l) w) : WL n ops Q (o :: rest) l w :=
  WL.step hg hd hn (fun a ha => by
    have hu : Tryz.prog.underlying t = some (.pointer e) := TyOk.of tyOk ht; have he : Tryz.prog.pointee t = e := by simp [Program.pointee, hu]
    have hy : a.eval (.const (.pointer none)) = .pointer none := rfl; unfold execOp; rw [ho]; simp [ha.eval hx, hy, eqGuard_ptr _ _ _ _ _ _ _, run_eql_pointer_nil w t p (by rw [he]; exact hu)]) h
theorem WL.notNilP {x : Operand} {t t2 e : Nat} {p : Option Addr} (hg : o.guard = none) (hd : o.dst = some d) (hn : Nat.blt d n.n = true) (ho : o.op = .binOp .neq t x (.const (.pointer none)) t2) (ht : tyOf ty t = some (.ptr e)) (hx : evl l x = some (.pointer p)) (_hgd : Tryz.prog.eqGuardType Tryz.prog.depth t = false)
    (h : WL n ops Q rest ((d, .bool (!p.isNone)) :: l) w) : WL n ops Q (o :: rest) l w :=
  WL.step hg hd hn (fun a ha => by
    have hu : Tryz.prog.underlying t = some (.pointer e) := TyOk.of tyOk ht; have he : Tryz.prog.pointee t = e := by simp [Program.pointee, hu]
    have hy : a.eval (.const (.pointer none)) = .pointer none := rfl; unfold execOp; rw [ho]; simp [ha.eval hx, hy, eqGuard_ptr _ _ _ _ _ _ _, run_neq_pointer_nil w t p (by rw [he]; exact hu)]) h
end K
end Go.Proofs.YtpfkcfaifleliaaGreat

namespace Go.Proofs.YtpfkcfaifleliaaGreat
open Go.RowKit
namespace K
section
variable {n : NN} {Q : Exit → Act → World → Prop} {l : Env} {w w' : World} {ops : Array Oper} {o : Oper} {rest : List Oper} {d : Nat}
theorem WL.fnM {f : FuncId} {x : Operand} {u : Value} (hg : o.guard = none) (hd : o.dst = some d) (hn : Nat.blt d n.n = true) (ho : o.op = .makeFunc (.func f) #[x] #[]) (hx : evl l x = some u)
    (h : WL n ops Q rest ((d, .func (.func f) #[u] #[]) :: l) w) : WL n ops Q (o :: rest) l w :=
  WL.step hg hd hn (fun a ha => by
    unfold execOp; rw [ho]; simp [Instr.makeFunc, ha.eval hx]) h
end
end K
namespace Cl
open K
set_option maxRecDepth 100000
abbrev clT : Nat := 100
abbrev jbT : Nat := 116
abbrev msT : Nat := 57
abbrev rqT : Nat := 95
abbrev nos : Value := .slice none 0 0
structure Cli where
  id : Int
  tries : Int
  seq : Nat
  ses : Int
  has : Bool
  jobs : Value
  nums : Int
  now : Option Addr
  frame : Value
  waited : Int
  sends : Int
  size : Int
  root : List Int
  out : Value
def clC (c : Cli) : List Value := .int .i64 c.id :: .int .i64 c.tries :: .int .u64 c.seq :: .int .i64 c.ses :: .bool c.has :: c.jobs :: .int .i64 c.nums :: .pointer c.now :: c.frame :: .int .i64 c.waited :: .int .i64 c.sends :: .int .i64 c.size :: (c.root.map (Value.int .u8) ++ [c.out])
structure Jb where
  num : Int
  l : Value
  tries : Int
  txn : Int
  dig : List Int
  rows : Value
  com : Bool
  block : Int
  nsize : Int
  nroot : List Int
  err : Int
  hears : Value
def jbC (j : Jb) : List Value := .int .i64 j.num :: j.l :: .int .i64 j.tries :: .int .i64 j.txn :: (j.dig.map (Value.int .u8) ++ (j.rows :: .bool j.com :: .int .i64 j.block :: .int .i64 j.nsize :: (j.nroot.map (Value.int .u8) ++ [.int .i64 j.err, j.hears])))
theorem cut_at {a : List Value} {b : List Value} {m : Nat} (h : a.length = m) (i : Nat) : (a ++ b)[m + i]? = b[i]? := by rw [List.getElem?_append_right (by omega)]; congr 1; omega
theorem clC_len {c : Cli} (h : c.root.length = 32) : (clC c).length = 45 := by unfold clC; simp [h]
theorem clC_out {c : Cli} (h : c.root.length = 32) : (clC c).getD 44 undef = c.out := by
  unfold clC; simp only [List.getD_eq_getElem?_getD, List.getElem?_cons_succ]; rw [show 32 = 32 + 0 from rfl, cut_at (by simpa using h)]
  rfl
theorem set_at {a : List Value} {b : List Value} {m : Nat} (h : a.length = m) (i : Nat) (v : Value) : (a ++ b).set (m + i) v = a ++ b.set i v := by rw [List.set_append_right _ _ (by omega)]; congr 2; omega
theorem clC_set {c : Cli} (h : c.root.length = 32) (v : Value) : (clC c).set 44 v = clC { c with out := v } := by
  unfold clC; simp only [List.set_cons_succ]; rw [show 32 = 32 + 0 from rfl, set_at (by simpa using h)]
  rfl
theorem jbC_len {j : Jb} (h : j.dig.length = 32) (h2 : j.nroot.length = 32) : (jbC j).length = 74 := by unfold jbC; simp [h, h2]
theorem jbC_hears {j : Jb} (h : j.dig.length = 32) (h2 : j.nroot.length = 32) (v : Value) : (jbC j).set 73 v = jbC { j with hears := v } := by
  unfold jbC; simp only [List.set_cons_succ]; rw [show 69 = 32 + 37 from rfl, set_at (by simpa using h)]; simp only [List.set_cons_succ]; rw [show 33 = 32 + 1 from rfl, set_at (by simpa using h2)]
  rfl
theorem cloneB_any {w : World} {v : Value} {l : List Int} (hv : Sl .u8 w v l) (hl : l.length ≤ 140737488355328) : Calls Tryz.prog 62 #[v] w (Makes w l) := by
  obtain ⟨sp, cap, rfl, h1, h2, h3, h4⟩ := id hv; refine enter (args := [.slice sp l.length cap]) Tryz.func62 rfl Tryz.ntmps62 rfl ?_; refine K.kgo ?_; refine WL.nilB rfl rfl rfl rfl rfl rfl rfl ?_; cases sp with
  | none =>
    have hc := h4 rfl; obtain rfl : l = [] := List.eq_nil_of_length_eq_zero (by omega); refine K.kgo ?_; exact WQ.ret1 rfl rfl ⟨_, rfl, Bu.nil w, Below.refl _ _, fun g h => by cases h⟩
  | some p =>
    refine K.kgo ?_; refine WL.empty rfl rfl rfl rfl rfl fun g w1 hf => ?_; have hB := hf.below; have hg := hf.eq; refine K.kgo ?_; refine WL.app rfl rfl rfl rfl rfl (Bu.ofFresh hf) rfl (hv.of_below hB) (by simpa using hl) fun b w2 hb gr => ?_; refine K.kgo ?_; have hg' : ∀ g', (Value.slice (some ⟨g, 0, none⟩) 0 0).ownBlock = some g' → w.heap.size ≤ g' := fun g' h => by cases h; show w.heap.size ≤ g; omega
    exact WQ.ret1 rfl rfl ⟨b, rfl, hb, hB.trans (gr.old hB.size hg'), fun g' h => gr.own hB.size hg' g' h⟩
def Msg1 (w : World) (B : Nat) (v : Value) (id : Int) (l : List Int) : Prop := ∃ g fb, v = .slice (some ⟨g, 0, none⟩) 1 1 ∧ B ≤ g ∧ VBlk msT w g [.int .i64 id, .int .i64 0, fb] ∧ Bu w fb l ∧ ∀ x, fb.ownBlock = some x → B ≤ x
theorem sent_any {w : World} {cb : Nat} {c : Cli} {l : List Int} (h : VBlk clT w cb (clC c)) (hf : Bu w c.frame l) (hl : l.length ≤ 140737488355328) : Calls Tryz.prog 36 #[.pointer (some ⟨cb, 0, none⟩)] w fun e w' => ∃ v, e = .returned v ∧ Msg1 w' w.heap.size v c.id l ∧ Below w.heap.size w w' := by
  refine enter (args := [.pointer (some ⟨cb, 0, none⟩)]) Tryz.func36 rfl Tryz.ntmps36 rfl ?_; refine K.kgo ?_; refine WC.drawn 11 (fun wx => VBlk clT wx cb (clC c)) fun w2 hd => ?_; have hS : VBlk clT w2 cb (clC c) := VBlk.below h (hd.below _) (VBlk.lt h); have f2 := Bu.below hf (hd.below _); have b2 := hd.below w.heap.size; clear hd; refine K.fr [0, 1, 2] hS ?_; refine K.wl 3 [9, 10, 11] rfl rfl rfl rfl rfl rfl rfl (v := .int .i64 c.id) (fun wx hx => hx.cell 0 (by simp [clC])) hS ?_; refine K.fr [4, 5, 6] hS ?_; refine K.wl 7 [8, 9, 10, 11] rfl rfl rfl rfl rfl rfl rfl (v := c.frame) (fun wx hx => hx.cell 8 (by simp [clC])) hS ?_; refine K.wo 8 ?_; refine WL.call rfl rfl rfl rfl rfl Tryz.func62 rfl (by kernel_rfl) (cloneB_any f2.sl hl) ?_; rintro _ w3 ⟨fb, rfl, hb3, b3, o3⟩; refine ⟨_, rfl, ?_⟩; have hS3 := VBlk.below hS b3 (VBlk.lt hS); refine K.di hS3 ?_; obtain ⟨sp, cp, rfl, -, -⟩ := hb3.form; refine K.wo 9 ?_; refine WL.build [.int .i64 c.id, .int .i64 0, .slice sp l.length cp] rfl rfl rfl rfl rfl (by kernel_rfl) ?_; refine K.di hS3 ?_; refine K.wo 10 ?_; refine WL.lit1 (cs := [.int .i64 c.id, .int .i64 0, .slice sp l.length cp]) rfl rfl rfl rfl rfl rfl rfl rfl ⟨by omega, by omega⟩ (by kernel_rfl) fun g w4 f4 => ?_; have hS4 := VBlk.below hS3 f4.below (VBlk.lt hS3); refine K.di hS4 ?_; refine K.wo 11 ?_; refine WL.pure rfl rfl rfl rfl ?_; refine K.dl ?_; refine WD.done (by kernel_rfl) ?_; refine K.kgo ?_; have z2 := b2.size; have z3 := b3.size; have e4 := f4.eq; exact WQ.ret1 rfl rfl ⟨_, rfl, ⟨g, _, rfl, by omega, f4.blk, Bu.below hb3 f4.below, fun x hx => Nat.le_trans b2.size (o3 x hx)⟩, (b2.trans (b3.mono b2.size)).trans (f4.below.mono (by omega))⟩
theorem rqC_len {r : Rq} {nv pv : Value} (h : r.hash.length = 32) : (rqC r nv pv).length = 37 := by unfold rqC; simp [h]
def Asked (w : World) (cb jb : Nat) (c : Cli) (j : Jb) (hv : Value) (L : List Int) : Ending → World → Prop := fun e w' => ∃ v fb, e = .returned v ∧ VBlk clT w' cb (clC { c with seq := c.seq + 1, frame := fb, waited := 0, sends := 1 }) ∧ VBlk jbT w' jb (jbC { j with hears := hv }) ∧
  Bu w' fb L ∧ (∀ x, fb.ownBlock = some x → w.heap.size ≤ x) ∧ Msg1 w' w.heap.size v c.id L ∧ Keep (fun x => x < w.heap.size ∧ x ≠ cb ∧ x ≠ jb) w w'
set_option maxHeartbeats 8000000 in
theorem asks_any {f n : Nat} {w : World} {cb jb : Nat} {c : Cli} {j : Jb} {r : Rq} {nv pv hv : Value} (h : VBlk clT w cb (clC c)) (hj : VBlk jbT w jb (jbC j)) (hn : c.now = some ⟨jb, 0, none⟩) (hne : cb ≠ jb) (hq : ∀ w', Keep (fun x => x < w.heap.size ∧ x ≠ cb ∧ x ≠ jb) w w' → IsRq f w' r nv pv) (hfew : Few f r.params n) (ht : r.text.size ≤ 100000) (hs : c.seq ≤ 9007199254740990)
    (hd : j.dig.length = 32) (hd2 : j.nroot.length = 32) (hE : rqE { r with seq := ((c.seq + 1 : Nat) : Int) } = 0) (hlen : (Frm.frameL (rqB { r with seq := ((c.seq + 1 : Nat) : Int) })).length ≤ 140737488355328) (h1 : hv.oneCell' = true) :
    Calls Tryz.prog 59 #[.pointer (some ⟨cb, 0, none⟩), .agg (rqC r nv pv).toArray, hv] w (Asked w cb jb c j hv (Frm.frameL (rqB { r with seq := ((c.seq + 1 : Nat) : Int) }))) := by
  refine enter (args := [.pointer (some ⟨cb, 0, none⟩), .agg (rqC r nv pv).toArray, hv]) Tryz.func59 rfl Tryz.ntmps59 rfl ?_; refine K.kgn ?_; refine WL.box rfl rfl rfl rfl rfl fun g w1 f1 => ?_; have q1 : VBlk rqT w1 g (rqC r nv pv) := f1.blk; have v1 := VBlk.below h f1.below (VBlk.lt h); have j1 := VBlk.below hj f1.below (VBlk.lt hj); have e1 := f1.eq; have b1 := f1.below; have lcb := VBlk.lt h; have ljb := VBlk.lt hj; have hg1 : g ≠ cb := by omega
  have hg2 : g ≠ jb := by omega
  clear f1; have k1 : Keep (fun x => x < w.heap.size ∧ x ≠ cb ∧ x ≠ jb) w w1 := (Keep.of_below b1).mono fun x hx => hx.1; have s2 : w1.cell? ⟨cb, 2, none⟩ = some (.int .u64 c.seq) := v1.cell 2 (by simp [clC]); have hw2 : IntKind.u64.wrap ((c.seq : Int) + 1) = ((c.seq + 1 : Nat) : Int) := by rw [IntKind.wrap_u64]; omega
  refine K.kgl ?_; refine WL.store (v := .int .u64 ((c.seq + 1 : Nat) : Int)) rfl rfl rfl rfl (congrArg (fun z => some (Value.int .u64 z)) hw2) rfl (by kernel_rfl) s2 (VBlk.free v1 2) ?_; have v2 : VBlk clT (w1.setCell ⟨cb, 2, none⟩ (.int .u64 ((c.seq + 1 : Nat) : Int))) cb (clC { c with seq := c.seq + 1 }) := VBlk.set v1 2 _; have j2 := VBlk.other j1 ⟨cb, 2, none⟩ (.int .u64 ((c.seq + 1 : Nat) : Int)) (fun e => hne e.symm); have q2 := VBlk.other q1 ⟨cb, 2, none⟩ (.int .u64 ((c.seq + 1 : Nat) : Int)) hg1; have k2 := k1.setCell (p := ⟨cb, 2, none⟩) (fun hx => hx.2.1 rfl) (.int .u64 ((c.seq + 1 : Nat) : Int)); generalize w1.setCell ⟨cb, 2, none⟩ (.int .u64 ((c.seq + 1 : Nat) : Int)) = w2 at v2 j2 q2 k2 ⊢; clear v1 j1 q1 k1 s2; have s3 : w2.cell? ⟨cb, 2, none⟩ = some (.int .u64 ((c.seq + 1 : Nat) : Int)) := v2.cell 2 (by simp [clC]); refine K.kgl ?_; refine WL.store (v := .int .i64 ((c.seq + 1 : Nat) : Int)) rfl rfl rfl rfl rfl rfl (by kernel_rfl) (VBlk.cell q2 1 (by simp [rqC])) (VBlk.free q2 1) ?_; have q3 : VBlk rqT (w2.setCell ⟨g, 1, none⟩ (.int .i64 ((c.seq + 1 : Nat) : Int))) g (rqC { r with seq := ((c.seq + 1 : Nat) : Int) } nv pv) := VBlk.set q2 1 _; have v3 := VBlk.other v2 ⟨g, 1, none⟩ (.int .i64 ((c.seq + 1 : Nat) : Int)) (fun e => hg1 e.symm); have j3 := VBlk.other j2 ⟨g, 1, none⟩ (.int .i64 ((c.seq + 1 : Nat) : Int)) (fun e => hg2 e.symm); have k3 := k2.setCell (p := ⟨g, 1, none⟩) (fun hx => by have : g < w.heap.size := hx.1; omega) (.int .i64 ((c.seq + 1 : Nat) : Int)); have hw3 : w2.setCell ⟨g, 0 + 1, none⟩ (.int .i64 ((c.seq + 1 : Nat) : Int)) = w2.setCell ⟨g, 1, none⟩ (.int .i64 ((c.seq + 1 : Nat) : Int)) := rfl; rw [hw3]; generalize w2.setCell ⟨g, 1, none⟩ (.int .i64 ((c.seq + 1 : Nat) : Int)) = w3 at q3 v3 j3 k3 ⊢; clear v2 j2 q2 k2 s3 hw3; have hq3 := hq w3 k3; refine K.kgo ?_; refine WL.loadMid rfl rfl rfl rfl rfl rfl (VBlk.rangeAt q3) (rqC_len hq3.hash) ?_; refine WL.call rfl rfl rfl rfl rfl Tryz.func24 rfl (by kernel_rfl) (rqenc_any (r := { r with seq := ((c.seq + 1 : Nat) : Int) }) (f := f) (n := n) ⟨hq3.nums, hq3.r64, hq3.params, hq3.hash, hq3.byt⟩ hfew ht) ?_; rintro _ w4 ⟨b, rfl, ⟨b4, o4⟩, hbu⟩; rw [if_pos hE] at hbu; rw [hE]; refine ⟨_, rfl, ?_⟩; generalize Frm.frameL (rqB { r with seq := ((c.seq + 1 : Nat) : Int) }) = L at hbu hlen ⊢; have v4 := VBlk.below v3 b4 (VBlk.lt v3); have j4 := VBlk.below j3 b4 (VBlk.lt j3); have k4 := k3.trans ((Keep.of_below b4).mono fun x hx => Nat.lt_of_lt_of_le hx.1 k3.size); have z3 := k3.size; clear v3 j3 q3 hq hq3 hfew hE; have s7 : w4.cell? ⟨cb, 7, none⟩ = some (.pointer (some ⟨jb, 0, none⟩)) := by
    have := v4.cell 7 (by simp [clC]); rw [this, ← hn]
    rfl
  refine K.kgl ?_; refine WL.store (v := hv) rfl rfl rfl rfl rfl h1 (by kernel_rfl) (VBlk.cell j4 73 (by rw [jbC_len hd hd2]; omega)) (VBlk.free j4 73) ?_; have j5 := VBlk.set j4 73 hv; rw [jbC_hears hd hd2] at j5; have v5 := VBlk.other v4 ⟨jb, 73, none⟩ hv hne; have k5 := k4.setCell (p := ⟨jb, 73, none⟩) (fun hx => hx.2.2 rfl) hv; have n5 : Keep (fun x => x ≠ cb ∧ x ≠ jb) w4 (w4.setCell ⟨jb, 73, none⟩ hv) := (Keep.refl _ w4).setCell (fun hx => hx.2 rfl) hv; generalize hw5 : w4.setCell ⟨jb, _, none⟩ hv = w5; have hw5' : w4.setCell ⟨jb, 73, none⟩ hv = w5 := hw5; rw [hw5'] at j5 v5 k5 n5; clear hw5 hw5' s7 v4 j4 k4; refine K.kgo ?_; refine WL.store (v := b) rfl rfl rfl rfl rfl hbu.cell1 (by kernel_rfl) (VBlk.cell v5 8 (by simp [clC])) (VBlk.free v5 8) ?_; have v6 : VBlk clT (w5.setCell ⟨cb, 8, none⟩ b) cb (clC { c with seq := c.seq + 1, frame := b }) := VBlk.set v5 8 _; have j6 := VBlk.other j5 ⟨cb, 8, none⟩ b (fun e => hne e.symm); have k6 := k5.setCell (p := ⟨cb, 8, none⟩) (fun hx => hx.2.1 rfl) b; have n6 := n5.setCell (p := ⟨cb, 8, none⟩) (fun hx => hx.1 rfl) b; generalize hw6 : w5.setCell ⟨cb, _, none⟩ b = w6; have hw6' : w5.setCell ⟨cb, 8, none⟩ b = w6 := hw6; rw [hw6'] at v6 j6 k6 n6; clear hw6 hw6' v5 j5 k5 n5; refine K.kgo ?_; refine WL.store (v := .int .i64 0) rfl rfl rfl rfl rfl rfl (by kernel_rfl) (VBlk.cell v6 9 (by simp [clC])) (VBlk.free v6 9) ?_; have v7 : VBlk clT (w6.setCell ⟨cb, 9, none⟩ (.int .i64 0)) cb (clC { c with seq := c.seq + 1, frame := b, waited := 0 }) := VBlk.set v6 9 _; have j7 := VBlk.other j6 ⟨cb, 9, none⟩ (.int .i64 0) (fun e => hne e.symm); have k7 := k6.setCell (p := ⟨cb, 9, none⟩) (fun hx => hx.2.1 rfl) (.int .i64 0); have n7 := n6.setCell (p := ⟨cb, 9, none⟩) (fun hx => hx.1 rfl) (.int .i64 0); generalize hw7 : w6.setCell ⟨cb, _, none⟩ (.int .i64 0) = w7; have hw7' : w6.setCell ⟨cb, 9, none⟩ (.int .i64 0) = w7 := hw7; rw [hw7'] at v7 j7 k7 n7; clear hw7 hw7' v6 j6 k6 n6; refine K.kgo ?_; refine WL.store (v := .int .i64 1) rfl rfl rfl rfl rfl rfl (by kernel_rfl) (VBlk.cell v7 10 (by simp [clC])) (VBlk.free v7 10) ?_; have v8 : VBlk clT (w7.setCell ⟨cb, 10, none⟩ (.int .i64 1)) cb (clC { c with seq := c.seq + 1, frame := b, waited := 0, sends := 1 }) := VBlk.set v7 10 _; have j8 := VBlk.other j7 ⟨cb, 10, none⟩ (.int .i64 1) (fun e => hne e.symm); have k8 := k7.setCell (p := ⟨cb, 10, none⟩) (fun hx => hx.2.1 rfl) (.int .i64 1); have n8 := n7.setCell (p := ⟨cb, 10, none⟩) (fun hx => hx.1 rfl) (.int .i64 1); generalize hw8 : w7.setCell ⟨cb, _, none⟩ (.int .i64 1) = w8; have hw8' : w7.setCell ⟨cb, 10, none⟩ (.int .i64 1) = w8 := hw8; rw [hw8'] at v8 j8 k8 n8; clear hw8 hw8' v7 j7 k7 n7; have hb8 : Bu w8 b L := hbu.keep n8 fun x hx => by have := o4 x hx; exact ⟨by omega, by omega⟩
  refine K.kgo ?_; refine WL.call rfl rfl rfl rfl rfl Tryz.func36 rfl (by kernel_rfl) (sent_any v8 hb8 hlen) ?_; rintro _ w9 ⟨v, rfl, hm, b9⟩; refine ⟨_, rfl, ?_⟩; refine K.kgo ?_; have z8 := k8.size; obtain ⟨gm, fm, e1m, e2m, e3m, e4m, e5m⟩ := hm; exact WQ.ret1 rfl rfl ⟨v, b, rfl, VBlk.below v8 b9 (VBlk.lt v8), VBlk.below j8 b9 (VBlk.lt j8), Bu.below hb8 b9, fun x hx => Nat.le_trans z3 (o4 x hx), ⟨gm, fm, e1m, by omega, e3m, e4m, fun x hx => Nat.le_trans z8 (e5m x hx)⟩, k8.trans ((Keep.of_below b9).mono fun x hx => Nat.lt_of_lt_of_le hx.1 z8)⟩
end Cl
end Go.Proofs.YtpfkcfaifleliaaGreat

namespace Go.Proofs.YtpfkcfaifleliaaGreat
open Go.RowKit
namespace K
section
variable {n : NN} {Q : Exit → Act → World → Prop} {l : Env} {w w' : World} {ops : Array Oper} {o : Oper} {rest : List Oper} {d : Nat}
theorem WL.app0 {s x : Operand} {t e sz : Nat} {sp xp : Option Addr} {m cap xc : Nat} (hg : o.guard = none) (hd : o.dst = some d) (hn : Nat.blt d n.n = true)
    (ho : o.op = .call { callee := .builtin .append, args := #[s, x], argTypes := #[t, t] }) (ht : tyOf ty t = some (.slice e sz)) (hs : evl l s = some (.slice sp m cap)) (hc : m ≤ cap) (hx : evl l x = some (.slice xp 0 xc))
    (h : WL n ops Q rest ((d, .slice sp m cap) :: l) w) : WL n ops Q (o :: rest) l w :=
  WL.step hg hd hn (fun a ha => by
    obtain ⟨hu, hsz⟩ := TyOk.of tyOk ht; have hs' : (sizeOf e).run Tryz.prog w = .ok sz w := by
      cases hq : Tryz.prog.info? e with
      | none => rw [hq] at hsz; cases hsz
      | some q => rw [hq] at hsz; simp at hsz; simp [sizeOf, typeInfo, hq, hsz]
    unfold execOp; simp only [ho, resolve, invoke, builtin, Sem.run_bind, Sem.run_pure, Result.andThen_ok, List.map_toArray, List.map_cons, List.map_nil, ha.eval hs, ha.eval hx]; have hrun : (Builtin.append_ #[t, t] o.type #[.slice sp m cap, .slice xp 0 xc]).run Tryz.prog w = .ok (.slice sp m cap) w := by
      cases sp <;> cases xp <;> simp [Builtin.append_, run_underlying hu, hs', Builtin.lenOf, Builtin.firstCells, hc, loadCells, loadCellsFrom, storeCells]
    rw [hrun]
    rfl) h
end
end K
end Go.Proofs.YtpfkcfaifleliaaGreat

namespace Go.Proofs.YtpfkcfaifleliaaGreat
open Go.RowKit
namespace Cl
open K
set_option maxRecDepth 100000
abbrev smT : Nat := 67
abbrev sts : Nat := 39
def z32 : List Int := List.replicate 32 0
def cl0 (id tries : Int) : Cli := ⟨id, tries, 0, 0, false, nos, 0, none, nos, 0, 0, 0, z32, nos⟩
variable {w : World} {cb : Nat}
theorem newC {id tries : Int} (h1 : 1 ≤ id) (h2 : 1 ≤ tries) (h3 : tries ≤ 100) : Calls Tryz.prog 17 #[.int .i64 id, .int .i64 tries] w fun e w' => ∃ cb, e = .returned (.tuple #[.pointer (some ⟨cb, 0, none⟩), .int .i64 0]) ∧ VBlk clT w' cb (clC (cl0 id tries)) ∧ cb = w.heap.size ∧ Below w.heap.size w w' := by
  refine enter (args := [.int .i64 id, .int .i64 tries]) Tryz.func17 rfl Tryz.ntmps17 rfl ?_; refine K.kgo ?_; refine WL.build (clC (cl0 id tries)) rfl rfl rfl rfl rfl (by kernel_rfl) ?_; refine WL.box rfl rfl rfl rfl rfl fun cb w1 f1 => ?_; have v1 : VBlk clT w1 cb (clC (cl0 id tries)) := f1.blk; refine K.kgo ?_; exact WQ.ret2 rfl rfl rfl ⟨cb, rfl, v1, f1.eq, f1.below⟩
theorem valuesNil : Calls Tryz.prog 25 #[nos] w fun e w' => e = .returned nos ∧ w = w' := by
  refine enter (args := [nos]) Tryz.func25 rfl Tryz.ntmps25 rfl ?_; refine K.kgo ?_; refine WC.loop (fun _ : Unit => [(3, nos), (7, .int .i64 0), (8, .int .i64 0)]) (fun _ wz => w = wz) (fun _ => 0) () ⟨rfl, rfl, rfl, trivial⟩ rfl ?_; rintro ⟨⟩ _ rfl; refine K.kgo ?_; exact WQ.ret1 rfl rfl ⟨rfl, rfl⟩
theorem left0 {c : Cli} (h : VBlk clT w cb (clC c)) (hn : c.now = none) {sp : Option Addr} {m cp : Nat} (hj : c.jobs = .slice sp m cp) : Calls Tryz.prog 16 #[.pointer (some ⟨cb, 0, none⟩)] w fun e w' => e = .returned (.int .i64 m) ∧ w = w' := by
  refine enter (args := [.pointer (some ⟨cb, 0, none⟩)]) Tryz.func16 rfl Tryz.ntmps16 rfl ?_; have s7 : w.cell? ⟨cb, 7, none⟩ = some (.pointer none) := by have := h.cell 7 (by simp [clC]); rw [this, ← hn]; rfl
  have s5 : w.cell? ⟨cb, 5, none⟩ = some (.slice sp m cp) := by have := h.cell 5 (by simp [clC]); rw [this, ← hj]; rfl
  refine K.kgo ?_; refine WL.nilP rfl rfl rfl rfl rfl rfl (by kernel_rfl) ?_; refine K.kgl ?_; refine WL.notNilP rfl rfl rfl rfl rfl rfl (by kernel_rfl) ?_; refine K.kgl ?_; exact WQ.ret1 rfl rfl ⟨rfl, rfl⟩
theorem told_any {c : Cli} (h : VBlk clT w cb (clC c)) (hr : c.root.length = 32) : Calls Tryz.prog 33 #[.pointer (some ⟨cb, 0, none⟩)] w fun e w' => e = .returned c.out ∧ VBlk clT w' cb (clC { c with out := nos }) ∧ Keep (fun x => x < w.heap.size ∧ x ≠ cb) w w' := by
  refine enter (args := [.pointer (some ⟨cb, 0, none⟩)]) Tryz.func33 rfl Tryz.ntmps33 rfl ?_; have s44 : w.cell? ⟨cb, 44, none⟩ = some c.out := by have := h.cell 44 (by rw [clC_len hr]; omega); rw [clC_out hr] at this; exact this
  refine K.kgl ?_; refine WL.store (v := nos) rfl rfl rfl rfl rfl rfl (by kernel_rfl) s44 (VBlk.free h 44) ?_; have v2 := VBlk.set h 44 nos; rw [clC_set hr] at v2; have k2 := (Keep.refl (fun x => x < w.heap.size ∧ x ≠ cb) w).setCell (p := ⟨cb, 44, none⟩) (fun hx => hx.2 rfl) nos; refine K.kgo ?_; exact WQ.ret1 rfl rfl ⟨rfl, v2, k2⟩
theorem elemSt : ElemV Tryz.prog sts smT 2 40 := ElemV.mk' (z := .agg #[.string ByteArray.empty, nos]) Tryz.underlying39 (by kernel_rfl) rfl (by omega)
theorem elemJob : ElemV Tryz.prog 22 sts 1 24 := ElemV.mk' (z := nos) Tryz.underlying22 (by kernel_rfl) rfl (by omega)
theorem own1 {e m : Nat} {w : World} {O : Nat → Prop} {v : Value} {cs : List Value} (h : OwnE e m () (fun (_ : Unit) c => c = cs) O w v [()]) : ∃ g cp, v = .slice (some ⟨g, 0, none⟩) 1 cp ∧ O g ∧ OwnV e m w O (.slice (some ⟨g, 0, none⟩) 1 cp) 1 cs := by
  obtain ⟨kcs, q1, q2, q3⟩ := h; obtain ⟨c, rfl⟩ : ∃ c, kcs = [c] := by
    match kcs, q1 with
    | [c], _ => exact ⟨c, rfl⟩
  obtain rfl : c = cs := (q2 0 (by simp)).2; have q4 : OwnV e m w O v 1 c := by simpa using q3
  rcases q4.form with ⟨-, e, -⟩ | ⟨g, cp, cur, rfl, hO, -⟩
  · exact absurd e (by omega)
  · exact ⟨g, cp, rfl, hO, q4⟩
def rq4 (s : ByteArray) : Rq := ⟨4, 9007199254740992, [9007199254740992, 9007199254740992], s, [], z32⟩
theorem few0 : Few 17 [] 0 := ⟨(by simp), fun h => (by cases h), fun i _ => (by simp [vlB])⟩
theorem z32_byt : Frm.Byt z32 := fun c hc => by
  obtain ⟨-, rfl⟩ := List.mem_replicate.1 hc; omega
theorem rq4_ok {s : ByteArray} (hs : s.size ≤ 4096) : rqE (rq4 s) = 0 := by
  unfold rqE rq4; rw [if_neg (by simp), if_neg (by simp; omega)]
  rfl
theorem isVs_none (f : Nat) (w : World) : IsVs f w nos [] := ⟨none, 0, rfl, Nat.le_refl _, by omega, fun h => absurd h (by simp)⟩
set_option maxHeartbeats 8000000 in
theorem do1 {id tries : Int} {g : Nat} {s : ByteArray} (hs : s.size ≤ 4096) (h : VBlk clT w cb (clC (cl0 id tries))) (hg : VBlk smT w g [.string s, nos]) :
    Calls Tryz.prog 10 #[.pointer (some ⟨cb, 0, none⟩), .slice (some ⟨g, 0, none⟩) 1 1] w fun e w' => e = .returned (.tuple #[.int .i64 0, .int .i64 0]) ∧ ∃ gj cj gl cl, VBlk clT w' cb (clC { cl0 id tries with jobs := .slice (some ⟨gj, 0, none⟩) 1 cj, nums := 1 }) ∧
      OwnV sts 1 w' (fun x => w.heap.size ≤ x) (.slice (some ⟨gj, 0, none⟩) 1 cj) 1 [.slice (some ⟨gl, 0, none⟩) 1 cl] ∧ OwnV smT 2 w' (fun x => w.heap.size ≤ x) (.slice (some ⟨gl, 0, none⟩) 1 cl) 1 [.string s, nos] ∧ Keep (fun x => x < w.heap.size ∧ x ≠ cb) w w' := by
  refine enter (args := [.pointer (some ⟨cb, 0, none⟩), .slice (some ⟨g, 0, none⟩) 1 1]) Tryz.func10 rfl Tryz.ntmps10 rfl ?_; have lcb := VBlk.lt h; refine K.kgo ?_; refine WL.nilP rfl rfl rfl rfl rfl rfl (by kernel_rfl) ?_; refine K.kgo ?_; refine WC.loop (fun i : Nat => [(0, .pointer (some ⟨cb, 0, none⟩)), (1, .slice (some ⟨g, 0, none⟩) 1 1), (26, .slice (some ⟨g, 0, none⟩) 1 1), (27, .int .i64 1), (28, .int .i64 i)]) (fun i wz => i ≤ 1 ∧ Below w.heap.size w wz) (fun i => 1 - i) 0 ⟨rfl, rfl, rfl, rfl, rfl, trivial⟩ ⟨by omega, Below.refl _ _⟩ ?_; rintro i wr ⟨hi, br⟩; have hr := VBlk.below h br (VBlk.lt h); have hgr := VBlk.below hg br (VBlk.lt hg)
  by_cases h0 : i = 0
  · subst h0
    clear h hg; refine K.kgo ?_; refine WL.idx 0 0 rfl rfl rfl rfl rfl rfl rfl rfl (by omega) rfl ?_; refine WL.loadMid rfl rfl rfl rfl rfl rfl (VBlk.rangeAt hgr) rfl ?_; refine WL.alloc (z := .agg #[.string ByteArray.empty, nos]) rfl rfl rfl rfl (fun _ => by kernel_rfl) fun g8 w6 f6 => ?_; refine WL.storeRow rfl rfl rfl rfl rfl rfl f6.blk rfl rfl (fun u hu => by rcases List.mem_cons.1 hu with rfl | hu; rfl; rcases List.mem_cons.1 hu with rfl | hu; rfl; cases hu) ?_; have z6 := f6.below; have e6 := f6.eq; have t7 : VBlk smT (w6.setRow g8 #[.string s, nos]) g8 [.string s, nos] := f6.blk.setRow [.string s, nos]; have b7 : Below wr.heap.size wr (w6.setRow g8 #[.string s, nos]) := below_setRow f6.below (by omega) _; generalize hw7 : w6.setRow g8 _ = w7; have hw7' : w6.setRow g8 #[.string s, nos] = w7 := hw7; rw [hw7'] at t7 b7; clear hw7 hw7' f6 z6; refine K.kgo ?_; refine WL.litV [.int .i64 9007199254740992, .int .i64 9007199254740992] rfl rfl rfl rfl rfl rfl (by kernel_rfl) fun gn w8 f8 => ?_; have t8 := VBlk.below t7 f8.below (VBlk.lt t7); have b8 := b7.trans (f8.below.mono b7.size); have s0 : w8.cell? ⟨g8, 0, none⟩ = some (.string s) := t8.cell 0 (by simp); have s1 : w8.cell? ⟨g8, 1, none⟩ = some nos := t8.cell 1 (by simp); have hnv : Sl .i64 w8 (.slice (some ⟨gn, 0, none⟩) 2 2) [9007199254740992, 9007199254740992] := Sl.mk (l := [9007199254740992, 9007199254740992]) (by decide) (by omega) (VBlk.lt f8.blk) (fun j hj => by
      match j, hj with
      | 0, _ => exact f8.blk.cell 0 (by simp)
      | 1, _ => exact f8.blk.cell 1 (by simp))
    clear f8; refine K.kgl ?_; refine WL.build (rqC (rq4 s) (.slice (some ⟨gn, 0, none⟩) 2 2) nos) rfl rfl rfl rfl rfl (by kernel_rfl) ?_; refine WL.call rfl rfl rfl rfl rfl Tryz.func24 rfl (by kernel_rfl) (rqenc_any (r := rq4 s) ⟨hnv, fun x hx => (by rcases List.mem_cons.1 hx with rfl | hx; omega; rcases List.mem_cons.1 hx with rfl | hx; omega; cases hx), isVs_none _ _, rfl, z32_byt⟩ few0 (by show s.size ≤ 100000; omega)) ?_; rintro _ w9 ⟨b, rfl, ⟨b9, -⟩, -⟩; rw [rq4_ok hs]; refine ⟨_, rfl, ?_⟩; refine K.kgo ?_; exact WQ.again 1 ⟨rfl, rfl, rfl, rfl, rfl, trivial⟩ ⟨by omega, br.trans ((b8.trans (b9.mono b8.size)).mono br.size)⟩ (by omega)
  obtain rfl : i = 1 := by omega
  clear h hg h0; refine K.kgo ?_; refine WL.call rfl rfl rfl rfl rfl Tryz.func16 rfl (by kernel_rfl) (left0 (c := cl0 id tries) hr rfl rfl) ?_; rintro _ _ ⟨rfl, rfl⟩; refine ⟨_, rfl, ?_⟩; refine K.kgo ?_; refine WC.loop (fun i : Nat × Value => [(0, .pointer (some ⟨cb, 0, none⟩)), (10, i.2), (49, .slice (some ⟨g, 0, none⟩) 1 1), (50, .int .i64 1), (51, .int .i64 i.1)])
    (fun i wz => i.1 ≤ 1 ∧ Below wr.heap.size wr wz ∧ (i.1 = 0 → i.2 = nos) ∧ (i.1 = 1 → ∃ gl cl, i.2 = .slice (some ⟨gl, 0, none⟩) 1 cl ∧ OwnV smT 2 wz (fun x => w.heap.size ≤ x) (.slice (some ⟨gl, 0, none⟩) 1 cl) 1 [.string s, nos])) (fun i => 1 - i.1) (0, nos) ⟨rfl, rfl, rfl, rfl, rfl, trivial⟩ ⟨by simp, Below.refl _ _, fun _ => rfl, fun h => by simp at h⟩ ?_
  rintro ⟨i, v⟩ wz ⟨hi, bz, hv0, hv1⟩; simp only at hi hv0 hv1 ⊢; have zr := br.size; have zz := bz.size; have hz := VBlk.below hr bz (VBlk.lt hr); have hgz := VBlk.below hgr bz (VBlk.lt hgr)
  by_cases h0 : i = 0
  · subst h0
    obtain rfl := hv0 rfl; clear hv0 hv1 hi; refine K.kgo ?_; refine WL.idx 0 0 rfl rfl rfl rfl rfl rfl rfl rfl (by omega) rfl ?_; refine WL.loadMid rfl rfl rfl rfl rfl rfl (VBlk.rangeAt hgz) rfl ?_; refine WL.alloc (z := .agg #[.string ByteArray.empty, nos]) rfl rfl rfl rfl (fun _ => by kernel_rfl) fun g8 w6 f6 => ?_; refine WL.storeRow rfl rfl rfl rfl rfl rfl f6.blk rfl rfl (fun u hu => by rcases List.mem_cons.1 hu with rfl | hu; rfl; rcases List.mem_cons.1 hu with rfl | hu; rfl; cases hu) ?_; have e6 := f6.eq; have t7 : VBlk smT (w6.setRow g8 #[.string s, nos]) g8 [.string s, nos] := f6.blk.setRow [.string s, nos]; have b7 : Below wz.heap.size wz (w6.setRow g8 #[.string s, nos]) := below_setRow f6.below (by omega) _; generalize hw7 : w6.setRow g8 _ = w7; have hw7' : w6.setRow g8 #[.string s, nos] = w7 := hw7; rw [hw7'] at t7 b7; clear hw7 hw7' f6; refine K.kgo ?_; refine WC.drawn 9 (fun wx => VBlk smT wx g8 [.string s, nos] ∧ Below wz.heap.size wz wx) fun wa hd => ?_; have hS : VBlk smT wa g8 [.string s, nos] ∧ Below wz.heap.size wz wa := ⟨VBlk.below t7 (hd.below _) (VBlk.lt t7), b7.trans (hd.below _)⟩; clear hd t7 b7; refine K.fr [0, 1] hS ?_; refine K.wl 2 [6, 7, 8, 9] rfl rfl rfl rfl rfl rfl rfl (v := .string s) (fun wx hx => hx.1.cell 0 (by simp)) hS ?_; refine K.fr [3] hS ?_; refine K.wl 4 [5, 6, 7, 8, 9] rfl rfl rfl rfl rfl rfl rfl (v := nos) (fun wx hx => hx.1.cell 1 (by simp)) hS ?_; refine K.wo 5 ?_; refine WL.call rfl rfl rfl rfl rfl Tryz.func25 rfl (by kernel_rfl) valuesNil ?_; rintro _ _ ⟨rfl, rfl⟩; refine ⟨_, rfl, ?_⟩; refine K.di hS ?_; refine K.wo 6 ?_; refine WL.build [.string s, nos] rfl rfl rfl rfl rfl (by kernel_rfl) ?_; refine K.di hS ?_; refine K.wo 7 ?_; refine WL.lit1 (cs := [.string s, nos]) rfl rfl rfl rfl rfl rfl rfl rfl ⟨by omega, by omega⟩ (by kernel_rfl) fun g5 w5 f5 => ?_; have hS5 : VBlk smT w5 g8 [.string s, nos] ∧ Below wz.heap.size wz w5 := ⟨VBlk.below hS.1 f5.below (VBlk.lt hS.1), hS.2.trans (f5.below.mono hS.2.size)⟩; refine K.di hS5 ?_; refine K.wo 8 ?_; refine WL.snoc (y := ()) (P := fun (_ : Unit) c => c = [.string s, nos]) (z := ()) rfl rfl rfl rfl elemSt rfl (OwnE.nil _ _ _ _ (fun _ => False) _) rfl f5.blk (fun u hu => by rcases List.mem_cons.1 hu with rfl | hu; rfl; rcases List.mem_cons.1 hu with rfl | hu; rfl; cases hu) rfl rfl (by simp) (by simp) fun v8 w8 own8 gr8 => ?_; have z5 := hS5.2.size; have b8 : Below w5.heap.size w5 w8 := gr8.old (Nat.le_refl _) fun g hg => by cases hg
    have hS8 : VBlk smT w8 g8 [.string s, nos] ∧ Below wz.heap.size wz w8 := ⟨VBlk.below hS5.1 b8 (VBlk.lt hS5.1), hS5.2.trans (b8.mono hS5.2.size)⟩; refine K.di hS8 ?_; refine K.wo 9 ?_; refine WL.pure rfl rfl rfl rfl ?_; refine K.dl ?_; refine WD.done (by kernel_rfl) ?_; refine K.kgo ?_; obtain ⟨gl, cl, rfl, hO, hown⟩ := own1 own8; exact WQ.again (1, .slice (some ⟨gl, 0, none⟩) 1 cl) ⟨rfl, rfl, rfl, rfl, rfl, trivial⟩ ⟨by simp, bz.trans (hS8.2.mono bz.size), fun h => by simp at h, fun _ => ⟨gl, cl, rfl, hown.mono fun x hx => by rcases hx with hx | hx; exact hx.elim; omega⟩⟩ (by simp)
  obtain rfl : i = 1 := by omega
  obtain ⟨gl, cl, rfl, hown⟩ := hv1 rfl; clear hv0 hv1 h0 hi; have s5 : wz.cell? ⟨cb, 5, none⟩ = some nos := hz.cell 5 (by simp [clC]); refine K.kgl ?_; refine WL.lit1 (cs := [.slice (some ⟨gl, 0, none⟩) 1 cl]) rfl rfl rfl rfl rfl rfl rfl rfl ⟨by omega, by omega⟩ (by kernel_rfl) fun g5 w5 f5 => ?_; refine WL.snoc (y := ()) (P := fun (_ : Unit) c => c = [.slice (some ⟨gl, 0, none⟩) 1 cl]) (z := ()) rfl rfl rfl rfl elemJob rfl (OwnE.nil _ _ _ _ (fun _ => False) _) rfl f5.blk (fun u hu => by rcases List.mem_cons.1 hu with rfl | hu; rfl; cases hu) rfl rfl (by simp) (by simp) fun v8 w8 own8 gr8 => ?_; have b8 : Below w5.heap.size w5 w8 := gr8.old (Nat.le_refl _) fun g hg => by cases hg
  have z5 := f5.size; have b58 : Below wz.heap.size wz w8 := f5.below.trans (b8.mono (by omega)); obtain ⟨gj, cj, rfl, hO, hownj⟩ := own1 own8; have v8 := VBlk.below hz b58 (VBlk.lt hz); have o8 := OwnV.keep hown (Keep.of_below b58) (fun g hg => OwnV.lt hown hg); have b08 : Below w.heap.size w w8 := br.trans ((bz.trans (b58.mono zz)).mono zr); have k8 : Keep (fun x => x < w.heap.size ∧ x ≠ cb) w w8 := (Keep.of_below b08).mono fun x hx => hx.1; have e5 := f5.eq; have l8 : gj = w5.heap.size := by rcases hO with hO | hO; exact hO.elim; exact hO
  have lgl : w.heap.size ≤ gl := OwnV.own hown rfl; clear own8 gr8 f5 hown b8 b58 s5 b08; refine K.kgo ?_; refine WL.store (v := .slice (some ⟨gj, 0, none⟩) 1 cj) rfl rfl rfl rfl rfl rfl (by kernel_rfl) (VBlk.cell v8 5 (by simp [clC])) (VBlk.free v8 5) ?_; have v9 : VBlk clT (w8.setCell ⟨cb, 5, none⟩ (.slice (some ⟨gj, 0, none⟩) 1 cj)) cb (clC { cl0 id tries with jobs := .slice (some ⟨gj, 0, none⟩) 1 cj }) := VBlk.set v8 5 _; have n9 := (Keep.refl (fun x => x ≠ cb) w8).setCell (p := ⟨cb, 5, none⟩) (fun hx => hx rfl) (.slice (some ⟨gj, 0, none⟩) 1 cj); have k9 := k8.setCell (p := ⟨cb, 5, none⟩) (fun hx => hx.2 rfl) (.slice (some ⟨gj, 0, none⟩) 1 cj); generalize hw9 : w8.setCell ⟨cb, _, none⟩ (.slice (some ⟨gj, 0, none⟩) 1 cj) = w9; have hw9' : w8.setCell ⟨cb, 5, none⟩ (.slice (some ⟨gj, 0, none⟩) 1 cj) = w9 := hw9; rw [hw9'] at v9 n9 k9; clear hw9 hw9' v8 k8; have s6 : w9.cell? ⟨cb, 6, none⟩ = some (.int .i64 0) := v9.cell 6 (by simp [clC]); refine K.kgl ?_; refine WL.store (v := .int .i64 1) rfl rfl rfl rfl rfl rfl (by kernel_rfl) s6 (VBlk.free v9 6) ?_; have v10 : VBlk clT (w9.setCell ⟨cb, 6, none⟩ (.int .i64 1)) cb (clC { cl0 id tries with jobs := .slice (some ⟨gj, 0, none⟩) 1 cj, nums := 1 }) := VBlk.set v9 6 _; have n10 := n9.setCell (p := ⟨cb, 6, none⟩) (fun hx => hx rfl) (.int .i64 1); have k10 := k9.setCell (p := ⟨cb, 6, none⟩) (fun hx => hx.2 rfl) (.int .i64 1); generalize hwA : w9.setCell ⟨cb, _, none⟩ (.int .i64 1) = wA; have hwA' : w9.setCell ⟨cb, 6, none⟩ (.int .i64 1) = wA := hwA; rw [hwA'] at v10 n10 k10; clear hwA hwA' v9 k9 n9 s6; have s6 : wA.cell? ⟨cb, 6, none⟩ = some (.int .i64 1) := v10.cell 6 (by simp [clC]); refine K.kgl ?_; refine WQ.ret2 rfl rfl rfl ⟨rfl, gj, cj, gl, cl, v10, (OwnV.keep hownj n10 (fun x hx => by cases hx; show gj ≠ cb; omega)).mono (fun x hx => by rcases hx with hx | hx; exact hx.elim; omega), OwnV.keep o8 n10 (fun x hx => by cases hx; show gl ≠ cb; omega), k10⟩
end Cl
end Go.Proofs.YtpfkcfaifleliaaGreat

namespace Go.Proofs.YtpfkcfaifleliaaGreat
open Go.RowKit Go.Maps

section
variable {κ : Type} {P : Program} {k : TypeId} {mk : κ → Value} {w : World} {b n : Nat} {F : κ → Option Value}

end
end Go.Proofs.YtpfkcfaifleliaaGreat

namespace Go.Proofs.YtpfkcfaifleliaaGreat
open Go.RowKit Go.Maps
namespace K
section
variable {n : NN} {Q : Exit → Act → World → Prop} {l : Env} {w w' : World} {ops : Array Oper} {o : Oper} {rest : List Oper} {d : Nat} {S : World → Prop} {m fuel : Nat} {listed : Array Bool}
theorem WL.mkMap {t : Nat} (hg : o.guard = none) (hd : o.dst = some d) (hn : Nat.blt d n.n = true) (ho : o.op = .makeMap t none) (h : WL n ops Q rest ((d, .map (some w.heap.size)) :: l) (w.alloc (.map #[] 0))) : WL n ops Q (o :: rest) l w :=
  WL.step hg hd hn (fun a ha => by
    unfold execOp; rw [ho]; simp [go_sem, Instr.makeMap, Result.andThen]) h
end
end K
end Go.Proofs.YtpfkcfaifleliaaGreat

namespace Go.Proofs.YtpfkcfaifleliaaGreat
open Go.RowKit Go.Maps
namespace K
section
variable {n : NN} {Q : Exit → Act → World → Prop} {l : Env} {w w' : World} {ops : Array Oper} {o : Oper} {rest : List Oper} {d : Nat}
theorem sliceT {t e s : Nat} (ht : tyOf ty t = some (.slice e s)) (w : World) : Tryz.prog.underlying t = some (.slice (Tryz.prog.elem t)) ∧ (sizeOf (Tryz.prog.elem t)).run Tryz.prog w = .ok s w := by
  obtain ⟨hu, hsz⟩ := TyOk.of tyOk ht; have he : Tryz.prog.elem t = e := by simp [Program.elem, hu]
  refine ⟨by rw [he]; exact hu, ?_⟩; rw [he]; cases hq : Tryz.prog.info? e with
  | none => rw [hq] at hsz; cases hsz
  | some q => rw [hq] at hsz; simp at hsz; simp [sizeOf, typeInfo, hq, hsz]
theorem WL.nilTo {t e s : Nat} {x hi : Operand} {k1 : IntKind} (hg : o.guard = none) (hd : o.dst = some d) (hn : Nat.blt d n.n = true) (ho : o.op = .slice t x none (some hi) none) (ht : tyOf ty t = some (.slice e s))
    (hx : evl l x = some (.slice none 0 0)) (hhi : evl l hi = some (.int k1 0)) (h : WL n ops Q rest ((d, .slice none 0 0) :: l) w) : WL n ops Q (o :: rest) l w :=
  WL.step hg hd hn (fun a ha => by
    obtain ⟨hu', hs⟩ := sliceT ht w; unfold execOp; rw [ho]; have hr := run_slice_h w t none 0 0 hu' k1 0 (by omega) (by omega); simp [ha.eval hx, ha.eval hhi, run_sliceAt_slice w t _ _ _ _ hu', hr, hs, sliced]) h
theorem WL.nilFrom {t e s : Nat} {x lo : Operand} {k1 : IntKind} (hg : o.guard = none) (hd : o.dst = some d) (hn : Nat.blt d n.n = true) (ho : o.op = .slice t x (some lo) none none) (ht : tyOf ty t = some (.slice e s))
    (hx : evl l x = some (.slice none 0 0)) (hlo : evl l lo = some (.int k1 0)) (h : WL n ops Q rest ((d, .slice none 0 0) :: l) w) : WL n ops Q (o :: rest) l w :=
  WL.step hg hd hn (fun a ha => by
    obtain ⟨hu', hs⟩ := sliceT ht w; unfold execOp; rw [ho]; have hr := run_slice_l w t none 0 0 hu' k1 0 (by omega) (by omega); simp [ha.eval hx, ha.eval hlo, run_sliceAt_slice w t _ _ _ _ hu', hr, hs, sliced]) h
end
end K
namespace Cl
open K
set_option maxRecDepth 100000
abbrev dkT : Nat := 132
abbrev flT : Nat := 232
abbrev jT : Nat := 177
abbrev no : Value := .slice none 0 0
abbrev dkC (v : Value) : List Value := [.int .i64 4194304, v, .int .i64 (-1)]
abbrev jC (db : Nat) : List Value := [.pointer (some ⟨db, 0, none⟩), no, no, .bool false]
variable {w : World} {db jb : Nat}
theorem new3 : Calls Tryz.prog 22 #[.int .i64 4194304] w fun e w' => ∃ db, e = .returned (.tuple #[.pointer (some ⟨db, 0, none⟩), .int .i64 0]) ∧ VBlk dkT w' db (dkC no) ∧ db = w.heap.size ∧ Below w.heap.size w w' := by
  refine enter (args := [.int .i64 4194304]) Tryz.func22 rfl Tryz.ntmps22 rfl ?_; refine K.kgo ?_; refine WL.build (dkC no) rfl rfl rfl rfl rfl (by kernel_rfl) ?_; refine WL.box rfl rfl rfl rfl rfl fun db w1 f1 => ?_; have v1 : VBlk dkT w1 db (dkC no) := f1.blk; refine K.kgo ?_; exact WQ.ret2 rfl rfl rfl ⟨db, rfl, v1, f1.eq, f1.below⟩
theorem spot3 (h : VBlk dkT w db (dkC no)) (s : ByteArray) : Calls Tryz.prog 107 #[.pointer (some ⟨db, 0, none⟩), .string s] w fun e w' => e = .returned (.tuple #[.int .i64 0, .bool false]) ∧ Below w.heap.size w w' := by
  refine enter (args := [.pointer (some ⟨db, 0, none⟩), .string s]) Tryz.func107 rfl Tryz.ntmps107 rfl ?_; have c1 : w.cell? ⟨db, 1, none⟩ = some no := h.cell 1 (by simp); refine K.kgo ?_; refine WC.loop (fun _ : Unit => [(0, .pointer (some ⟨db, 0, none⟩)), (1, .string s), (6, .int .i64 0)]) (fun _ wz => w = wz) (fun _ => 0) () ⟨rfl, rfl, rfl, trivial⟩ rfl ?_; rintro ⟨⟩ _ rfl; refine K.kgl ?_; refine WC.drawn 21 (fun wx => VBlk dkT wx db (dkC no)) fun w2 hd => ?_; have hS : VBlk dkT w2 db (dkC no) := VBlk.below h (hd.below _) (VBlk.lt h); refine K.fr [0, 1, 2, 3, 4] hS ?_; refine K.wl 5 [6, 7, 8, 9, 10, 11, 12, 13, 14, 15, 16, 17, 18, 19, 20, 21] rfl rfl rfl rfl rfl rfl rfl (fun wx hx => hx.cell 1 (by simp)) hS ?_; refine K.fr [6, 7, 8, 9, 10, 11, 12, 13, 14, 15, 16, 17, 18, 19, 20] hS ?_; refine K.wo 21 ?_; refine WL.pure rfl rfl rfl rfl ?_; refine K.dl ?_; refine WD.done (by kernel_rfl) ?_; refine K.kgo ?_; exact WQ.ret2 rfl rfl rfl ⟨rfl, hd.below _⟩
theorem list3 (h : VBlk dkT w db (dkC no)) : Calls Tryz.prog 105 #[.pointer (some ⟨db, 0, none⟩)] w fun e w' => e = .returned no ∧ w = w' := by
  refine enter (args := [.pointer (some ⟨db, 0, none⟩)]) Tryz.func105 rfl Tryz.ntmps105 rfl ?_; have c1 : w.cell? ⟨db, 1, none⟩ = some no := h.cell 1 (by simp); refine K.kgo ?_; refine WC.loop (fun _ : Unit => [(0, .pointer (some ⟨db, 0, none⟩)), (3, no), (4, .int .i64 0)]) (fun _ wz => w = wz) (fun _ => 0) () ⟨rfl, rfl, rfl, trivial⟩ rfl ?_; rintro ⟨⟩ _ rfl; refine K.kgl ?_; exact WQ.ret1 rfl rfl ⟨rfl, rfl⟩
theorem used3 (h : VBlk dkT w db (dkC no)) : Calls Tryz.prog 108 #[.pointer (some ⟨db, 0, none⟩)] w fun e w' => e = .returned (.int .i64 0) ∧ w = w' := by
  refine enter (args := [.pointer (some ⟨db, 0, none⟩)]) Tryz.func108 rfl Tryz.ntmps108 rfl ?_; have c1 : w.cell? ⟨db, 1, none⟩ = some no := h.cell 1 (by simp); refine K.kgo ?_; refine WC.loop (fun _ : Unit => [(0, .pointer (some ⟨db, 0, none⟩)), (3, .int .i64 0), (4, .int .i64 0)]) (fun _ wz => w = wz) (fun _ => 0) () ⟨rfl, rfl, rfl, trivial⟩ rfl ?_; rintro ⟨⟩ _ rfl; refine K.kgl ?_; exact WQ.ret1 rfl rfl ⟨rfl, rfl⟩
theorem did3 {v : Value} (h : VBlk dkT w db (dkC v)) : Calls Tryz.prog 109 #[.pointer (some ⟨db, 0, none⟩)] w fun e w' => e = .returned (.int .i64 0) ∧ w = w' := by
  refine enter (args := [.pointer (some ⟨db, 0, none⟩)]) Tryz.func109 rfl Tryz.ntmps109 rfl ?_; have c1 : w.cell? ⟨db, 2, none⟩ = some (.int .i64 (-1)) := h.cell 2 (by simp); refine K.kgl ?_; exact WQ.ret1 rfl rfl ⟨rfl, rfl⟩
theorem may3 {v : Value} (h : VBlk dkT w db (dkC v)) {g : Nat} {s : ByteArray} (hg : VBlk 9 w g [.string s]) (h1 : 1 ≤ s.size) (h2 : s.size ≤ 64) : Calls Tryz.prog 106 #[.pointer (some ⟨db, 0, none⟩), .slice (some ⟨g, 0, none⟩) 1 1] w fun e w' => e = .returned (.int .i64 0) ∧ w = w' := by
  refine enter (args := [.pointer (some ⟨db, 0, none⟩), .slice (some ⟨g, 0, none⟩) 1 1]) Tryz.func106 rfl Tryz.ntmps106 rfl ?_; have c1 : w.cell? ⟨db, 2, none⟩ = some (.int .i64 (-1)) := h.cell 2 (by simp); have c2 : w.cell? ⟨g, 0, none⟩ = some (.string s) := hg.cell 0 (by simp); refine K.kgl ?_; refine WC.loop (fun i : Nat => [(0, .pointer (some ⟨db, 0, none⟩)), (1, .slice (some ⟨g, 0, none⟩) 1 1), (5, .int .i64 i)]) (fun i wz => w = wz ∧ i ≤ 1) (fun i => 1 - i) 0 ⟨rfl, rfl, rfl, trivial⟩ ⟨rfl, by omega⟩ ?_; rintro i _ ⟨rfl, hi⟩
  by_cases h0 : i = 0
  · subst h0
    refine K.kgo ?_; refine WL.idx 0 0 rfl rfl rfl rfl rfl rfl rfl rfl (by omega) rfl ?_; refine K.kgl ?_; refine WL.idx 0 0 rfl rfl rfl rfl rfl rfl rfl rfl (by omega) rfl ?_; refine K.kgl ?_; exact WQ.again 1 ⟨rfl, rfl, rfl, trivial⟩ ⟨rfl, by omega⟩ (by omega)
  · refine K.kgl ?_
    exact WQ.ret1 rfl rfl ⟨rfl, rfl⟩
def flP (s : ByteArray) (_ : Unit) (cs : List Value) : Prop := cs = [.string s, no, .int .i64 0]
theorem elemF : ElemV Tryz.prog 130 flT 3 48 := ElemV.mk' (z := .agg #[.string ByteArray.empty, no, .int .i64 0]) Tryz.underlying130 (by kernel_rfl) rfl (by omega)
set_option maxHeartbeats 4000000 in
theorem append3 (h : VBlk dkT w db (dkC no)) {s : ByteArray} (h1 : 1 ≤ s.size) (h2 : s.size ≤ 64) : Calls Tryz.prog 72 #[.pointer (some ⟨db, 0, none⟩), .string s, no] w fun e w' => e = .returned (.int .i64 0) ∧ Keep (fun x => x < w.heap.size ∧ x ≠ db) w w' := by
  refine enter (args := [.pointer (some ⟨db, 0, none⟩), .string s, no]) Tryz.func72 rfl Tryz.ntmps72 rfl ?_; refine K.kgo ?_; refine WL.lit1 (cs := [.string s]) rfl rfl rfl rfl rfl rfl rfl rfl ⟨by omega, by omega⟩ (by kernel_rfl) fun g w1 f1 => ?_; have v1 := VBlk.below h f1.below (VBlk.lt h); have b1 := f1.below; refine WL.call rfl rfl rfl rfl rfl Tryz.func106 rfl (by kernel_rfl) (may3 v1 f1.blk h1 h2) ?_; rintro _ _ ⟨rfl, rfl⟩; refine ⟨_, rfl, ?_⟩; clear f1; refine K.kgo ?_; refine WL.call rfl rfl rfl rfl rfl Tryz.func107 rfl (by kernel_rfl) (spot3 v1 s) ?_; rintro _ w2 ⟨rfl, b2⟩; refine ⟨_, rfl, ?_⟩; have v2 := VBlk.below v1 b2 (VBlk.lt v1); have b02 := b1.trans (b2.mono b1.size); clear b1 b2 v1; refine K.kgo ?_; refine WC.drawn 21 (fun wx => VBlk dkT wx db (dkC no) ∧ Below w.heap.size w wx) fun w3 hd => ?_; have hS : VBlk dkT w3 db (dkC no) ∧ Below w.heap.size w w3 := ⟨VBlk.below v2 (hd.below _) (VBlk.lt v2), b02.trans (hd.below _)⟩; clear hd; refine K.fr [0, 2, 3, 5, 6, 7] hS ?_; refine K.wl 8 [9, 10, 11, 12, 13, 14, 15, 16, 17, 18, 19, 20, 21] rfl rfl rfl rfl rfl rfl rfl (fun wx hx => hx.1.cell 0 (by simp)) hS ?_; refine K.wo 1 ?_; refine WL.call rfl rfl rfl rfl rfl Tryz.func108 rfl (by kernel_rfl) (used3 hS.1) ?_; rintro _ _ ⟨rfl, rfl⟩; refine ⟨_, rfl, ?_⟩; refine K.di hS ?_; refine K.fr [4, 9, 10, 11, 12, 13, 14, 15, 16] hS ?_; refine K.wl 17 [18, 19, 20, 21] rfl rfl rfl rfl rfl rfl rfl (fun wx hx => hx.1.cell 1 (by simp)) hS ?_; refine K.fr [18, 19, 20] hS ?_; refine K.wo 21 ?_; refine WL.pure rfl rfl rfl rfl ?_; refine K.dl ?_; refine WD.done (by kernel_rfl) ?_; obtain ⟨v3, b3⟩ := hS; clear v2 b02; have c3 : w3.cell? ⟨db, 1, none⟩ = some no := v3.cell 1 (by simp); refine K.kgo ?_; refine WL.empty rfl rfl rfl rfl rfl fun g4 w4 f4 => ?_; have c4 : w4.cell? ⟨db, 1, none⟩ = some no := (VBlk.below v3 f4.below (VBlk.lt v3)).cell 1 (by simp); refine K.kgl ?_; refine WL.nilTo rfl rfl rfl rfl rfl rfl rfl ?_; refine WL.app0 rfl rfl rfl rfl rfl rfl (Nat.le_refl 0) rfl ?_; refine K.kgo ?_; have l4 : g4 = w3.heap.size := f4.eq; have own4 : OwnE flT 3 () (flP s) (fun x => x = g4) w4 (.slice (some ⟨g4, 0, none⟩) 0 0) [] := ⟨[], rfl, fun j hj => absurd hj (by simp), ⟨by simp, .inr ⟨g4, 0, #[], rfl, Nat.zero_le _, f4.blk, Nat.le_refl _, by unfold maxLen; omega, by simp, by simp⟩⟩, fun _ h => (List.not_mem_nil h).elim, fun g h => by cases h; rfl⟩; have v4 := VBlk.below v3 f4.below (VBlk.lt v3); have b4 := b3.trans (f4.below.mono b3.size); have z3 := b3.size; have z4 := f4.size; clear f4 c3 c4; refine WL.build [.string s, no, .int .i64 0] rfl rfl rfl rfl rfl (by kernel_rfl) ?_; refine WL.lit1 (cs := [.string s, no, .int .i64 0]) rfl rfl rfl rfl rfl rfl rfl rfl ⟨by omega, by omega⟩ (by kernel_rfl) fun g5 w5 f5 => ?_; have own5 := OwnE.keep own4 (Keep.of_below f5.below) (fun g hg => OwnE.lt own4 hg) (fun _ h => h) (fun _ _ h => h); have v5 := VBlk.below v4 f5.below (VBlk.lt v4); have b5 := b4.trans (f5.below.mono b4.size); have z5 := f5.size; have ldb := VBlk.lt h; refine WL.snoc (y := ()) rfl rfl rfl rfl elemF rfl own5 rfl f5.blk (fun u hu => by rcases List.mem_cons.1 hu with rfl | hu; rfl; rcases List.mem_cons.1 hu with rfl | hu; rfl; rcases List.mem_cons.1 hu with rfl | hu; rfl; cases hu) rfl rfl (by simp) (by simp) fun v6 w6 own6 gr6 => ?_; have b6 := b5.trans ((gr6.old (B := w.heap.size) (by have := b5.size; omega) fun g hg => by cases hg; show w.heap.size ≤ g4; omega)); have v6b := VBlk.keep v5 gr6.1 ⟨VBlk.lt v5, fun e => by have : g4 = db := Option.some.inj e; omega⟩; clear gr6 own5 own4 f5 v5 v4 b4 b5 b3 v3; refine K.kgo ?_; have c6 : w6.cell? ⟨db, 1, none⟩ = some no := v6b.cell 1 (by simp); refine K.kgl ?_; refine WL.nilFrom rfl rfl rfl rfl rfl rfl rfl ?_; obtain ⟨kcs, q1, q2, q3⟩ := own6; obtain ⟨cs, rfl⟩ : ∃ cs, kcs = [cs] := by
    match kcs, q1 with
    | [cs], _ => exact ⟨cs, rfl⟩
  obtain rfl : cs = [.string s, no, .int .i64 0] := (q2 0 (by simp)).2; clear q1 q2; have q4 : OwnV flT 3 w6 (fun b => b = g4 ∨ b = w5.heap.size) v6 1 [.string s, no, .int .i64 0] := q3; clear q3; rcases q4.form with ⟨-, e, -⟩ | ⟨g6, cap6, cur6, rfl, hO6, lt6, -, hc6, -⟩
  · exact absurd e (by omega)
  refine WL.app0 rfl rfl rfl rfl rfl rfl hc6 rfl ?_; refine K.kgo ?_; refine WL.store rfl rfl rfl rfl rfl rfl (by kernel_rfl) c6 (VBlk.free v6b 1) ?_; have hg6 : g6 ≠ db := by omega
  have v7 : VBlk dkT (w6.setCell ⟨db, 1, none⟩ (.slice (some ⟨g6, 0, none⟩) 1 cap6)) db (dkC (.slice (some ⟨g6, 0, none⟩) 1 cap6)) := VBlk.set v6b 1 _; have k7 : Keep (fun x => x < w.heap.size ∧ x ≠ db) w (w6.setCell ⟨db, 1, none⟩ (.slice (some ⟨g6, 0, none⟩) 1 cap6)) := ((Keep.of_below b6).mono fun x hx => hx.1).setCell (fun h => h.2 rfl) _; have o7 := OwnV.keep q4 ((Keep.refl (fun x => x ≠ db) w6).setCell (p := ⟨db, 1, none⟩) (fun h => h rfl) (.slice (some ⟨g6, 0, none⟩) 1 cap6)) (fun g hg => by cases hg; exact hg6); have hw6 : w.heap.size ≤ g6 := by omega
  generalize w6.setCell ⟨db, 1, none⟩ _ = w7 at v7 k7 o7 ⊢; clear q4 v6b c6 b6; refine K.kgo ?_; refine WC.drawn 19 (fun wx => VBlk dkT wx db (dkC (.slice (some ⟨g6, 0, none⟩) 1 cap6)) ∧ OwnV flT 3 wx (fun b => b = g4 ∨ b = w5.heap.size) (.slice (some ⟨g6, 0, none⟩) 1 cap6) 1 [.string s, no, .int .i64 0] ∧ Keep (fun x => x < w.heap.size ∧ x ≠ db) w wx) fun w8 hd => ?_; have hS : VBlk dkT w8 db (dkC (.slice (some ⟨g6, 0, none⟩) 1 cap6)) ∧ OwnV flT 3 w8 (fun b => b = g4 ∨ b = w5.heap.size) (.slice (some ⟨g6, 0, none⟩) 1 cap6) 1 [.string s, no, .int .i64 0] ∧ Keep (fun x => x < w.heap.size ∧ x ≠ db) w w8 :=
    ⟨VBlk.below v7 (hd.below _) (VBlk.lt v7), OwnV.keep o7 (Keep.of_below (hd.below _)) (fun g hg => OwnV.lt o7 hg), k7.trans ((Keep.of_below (hd.below _)).mono fun x hx => Nat.lt_of_lt_of_le hx.1 k7.size)⟩
  clear hd v7 o7 k7; refine K.fr [0, 1, 2] hS ?_; refine K.wl 3 [17, 18, 19] rfl rfl rfl rfl rfl rfl rfl (fun wx hx => hx.1.cell 1 (by simp)) hS ?_; refine K.fr [4, 6, 7, 8] hS ?_; refine K.wl 9 [11, 12, 13, 14, 16, 17, 18, 19] rfl rfl rfl rfl rfl rfl rfl (fun wx hx => hx.1.cell 1 (by simp)) hS ?_; refine K.fr [10] hS ?_; refine K.wi 11 0 0 rfl rfl rfl rfl rfl rfl rfl rfl rfl (by omega) rfl (.inr hS) ?_; refine K.fr [12] hS ?_; refine K.wl 13 [14, 16, 17, 18, 19] rfl rfl rfl rfl rfl rfl rfl (fun wx hx => hx.2.1.at 1 (by simp)) hS ?_; refine K.fr [15] hS ?_; refine K.wo 5 ?_; refine WL.empty rfl rfl rfl rfl rfl fun g9 w9 f9 => ?_; have hS9 : VBlk dkT w9 db (dkC (.slice (some ⟨g6, 0, none⟩) 1 cap6)) ∧ OwnV flT 3 w9 (fun b => b = g4 ∨ b = w5.heap.size) (.slice (some ⟨g6, 0, none⟩) 1 cap6) 1 [.string s, no, .int .i64 0] ∧ Keep (fun x => x < w.heap.size ∧ x ≠ db) w w9 :=
    ⟨VBlk.below hS.1 f9.below (VBlk.lt hS.1), OwnV.keep hS.2.1 (Keep.of_below f9.below) (fun g hg => OwnV.lt hS.2.1 hg), hS.2.2.trans ((Keep.of_below f9.below).mono fun x hx => Nat.lt_of_lt_of_le hx.1 hS.2.2.size)⟩
  clear hS f9; refine K.di hS9 ?_; refine K.wo 14 ?_; refine WL.app0 rfl rfl rfl rfl rfl rfl (Nat.le_refl 0) rfl ?_; refine K.di hS9 ?_; refine K.wo 16 ?_; refine WL.app0 rfl rfl rfl rfl rfl rfl (Nat.le_refl 0) rfl ?_; refine K.di hS9 ?_; have hS := hS9; refine K.wi 17 0 0 rfl rfl rfl rfl rfl rfl rfl rfl rfl (by omega) rfl (.inr hS9) ?_; refine K.fr [18] hS ?_; refine K.wo 19 ?_; obtain ⟨v9, o9, k9⟩ := hS9; refine WL.store rfl rfl rfl rfl rfl rfl (by kernel_rfl) (o9.at 1 (by simp)) (OwnV.free o9 1) ?_; have v10 := VBlk.other v9 ⟨g6, 1, none⟩ (.slice (some ⟨g9, 0, none⟩) 0 0) (fun e => hg6 e.symm); have k10 := k9.setCell (p := ⟨g6, 1, none⟩) (fun h => by have : g6 < w.heap.size := h.1; omega) (.slice (some ⟨g9, 0, none⟩) 0 0); refine K.dl ?_; refine WD.done (by kernel_rfl) ?_; refine K.kgo ?_; refine WL.call rfl rfl rfl rfl rfl Tryz.func109 rfl (by kernel_rfl) (did3 v10) ?_; rintro _ _ ⟨rfl, rfl⟩; refine ⟨_, rfl, ?_⟩; refine K.kgo ?_; exact WQ.ret1 rfl rfl ⟨rfl, k10⟩
theorem read3 (h : VBlk dkT w db (dkC no)) (s : ByteArray) : Calls Tryz.prog 96 #[.pointer (some ⟨db, 0, none⟩), .string s] w fun e w' => e = .returned (.tuple #[no, .int .i64 7]) ∧ Below w.heap.size w w' := by
  refine enter (args := [.pointer (some ⟨db, 0, none⟩), .string s]) Tryz.func96 rfl Tryz.ntmps96 rfl ?_; refine K.kgo ?_; refine WL.call rfl rfl rfl rfl rfl Tryz.func107 rfl (by kernel_rfl) (spot3 h s) ?_; rintro _ w2 ⟨rfl, b2⟩; refine ⟨_, rfl, ?_⟩; refine K.kgo ?_; exact WQ.ret2 rfl rfl rfl ⟨rfl, b2⟩
theorem gone12 (h : VBlk jT w jb (jC db)) : Calls Tryz.prog 133 #[.pointer (some ⟨jb, 0, none⟩)] w fun e w' => ∃ v, e = .returned v ∧ Below w.heap.size w w' := by
  refine enter (args := [.pointer (some ⟨jb, 0, none⟩)]) Tryz.func133 rfl Tryz.ntmps133 rfl ?_; refine K.kgo ?_; refine WL.mkMap rfl rfl rfl rfl ?_; have b1 : Below w.heap.size w (w.alloc (.map #[] 0)) := (Below.refl _ w).alloc (Nat.le_refl _) _; have v1 := VBlk.below h b1 (VBlk.lt h); generalize w.alloc (.map #[] 0) = w1 at v1 b1 ⊢; have c1 : w1.cell? ⟨jb, 1, none⟩ = some no := v1.cell 1 (by simp); refine K.kgo ?_; refine WC.loop (fun _ : Unit => [(0, .pointer (some ⟨jb, 0, none⟩)), (3, .map (some w.heap.size)), (4, .int .i64 0)]) (fun _ wz => w1 = wz) (fun _ => 0) () ⟨rfl, rfl, rfl, trivial⟩ rfl ?_; rintro ⟨⟩ _ rfl; refine K.kgl ?_; exact WQ.ret1 rfl rfl ⟨_, rfl, b1⟩
theorem load12 (h : VBlk jT w jb (jC db)) (hd : VBlk dkT w db (dkC no)) : Calls Tryz.prog 101 #[.pointer (some ⟨jb, 0, none⟩)] w fun e w' => e = .returned (.int .i64 0) ∧ Below w.heap.size w w' := by
  refine enter (args := [.pointer (some ⟨jb, 0, none⟩)]) Tryz.func101 rfl Tryz.ntmps101 rfl ?_; have c0 : w.cell? ⟨jb, 0, none⟩ = some (.pointer (some ⟨db, 0, none⟩)) := h.cell 0 (by simp); refine K.kgl ?_; refine WL.call rfl rfl rfl rfl rfl Tryz.func105 rfl (by kernel_rfl) (list3 hd) ?_; rintro _ _ ⟨rfl, rfl⟩; refine ⟨_, rfl, ?_⟩; refine K.kgo ?_; refine WC.loop (fun _ : Unit => [(0, .pointer (some ⟨jb, 0, none⟩)), (3, no), (4, .int .i64 0)]) (fun _ wz => w = wz) (fun _ => 0) () ⟨rfl, rfl, rfl, trivial⟩ rfl ?_; rintro ⟨⟩ _ rfl; refine K.kgo ?_; refine WL.call rfl rfl rfl rfl rfl Tryz.func133 rfl (by kernel_rfl) (gone12 h) ?_; rintro _ w1 ⟨v, rfl, b1⟩; refine ⟨_, rfl, ?_⟩; refine K.kgo ?_; refine WL.mkMap rfl rfl rfl rfl ?_; have b2 : Below w.heap.size w (w1.alloc (.map #[] 0)) := b1.trans (((Below.refl _ w1).alloc (Nat.le_refl _) _).mono b1.size); have c1 : (w1.alloc (.map #[] 0)).cell? ⟨jb, 1, none⟩ = some no := (VBlk.below h b2 (VBlk.lt h)).cell 1 (by simp); generalize hmb : w1.heap.size = mb; generalize w1.alloc (.map #[] 0) = w2 at c1 b2 ⊢; refine K.kgo ?_; refine WC.loop (fun _ : Unit => [(0, .pointer (some ⟨jb, 0, none⟩)), (8, no), (10, .int .i64 0)]) (fun _ wz => w2 = wz) (fun _ => 0) () ⟨rfl, rfl, rfl, trivial⟩ rfl ?_; rintro ⟨⟩ _ rfl; refine K.kgl ?_; refine WC.loop (fun _ : Unit => [(8, no), (13, .int .i64 0)]) (fun _ wz => w2 = wz) (fun _ => 0) () ⟨rfl, rfl, trivial⟩ rfl ?_; rintro ⟨⟩ _ rfl; refine K.kgo ?_; exact WQ.ret1 rfl rfl ⟨rfl, b2⟩
theorem open12 (h : VBlk dkT w db (dkC no)) : Calls Tryz.prog 67 #[.pointer (some ⟨db, 0, none⟩)] w fun e w' => ∃ jb, e = .returned (.tuple #[.pointer (some ⟨jb, 0, none⟩), .int .i64 0]) ∧ VBlk jT w' jb (jC db) ∧ Below w.heap.size w w' := by
  refine enter (args := [.pointer (some ⟨db, 0, none⟩)]) Tryz.func67 rfl Tryz.ntmps67 rfl ?_; refine K.kgo ?_; refine WL.nilP rfl rfl rfl rfl rfl rfl (by kernel_rfl) ?_; refine K.kgo ?_; refine WL.build (jC db) rfl rfl rfl rfl rfl (by kernel_rfl) ?_; refine WL.box rfl rfl rfl rfl rfl fun jb w1 f1 => ?_; have v1 : VBlk jT w1 jb (jC db) := f1.blk; have d1 := VBlk.below h f1.below (VBlk.lt h); have b1 := f1.below; clear f1; refine K.kgo ?_; have c0 : w1.cell? ⟨jb, 0, none⟩ = some (.pointer (some ⟨db, 0, none⟩)) := v1.cell 0 (by simp); refine K.kgl ?_; refine WL.call rfl rfl rfl rfl rfl Tryz.func96 rfl (by kernel_rfl) (read3 d1 _) ?_; rintro _ w2 ⟨rfl, b2⟩; refine ⟨_, rfl, ?_⟩; refine K.kgo ?_; refine WL.call rfl rfl rfl rfl rfl Tryz.func101 rfl (by kernel_rfl) (load12 (VBlk.below v1 b2 (VBlk.lt v1)) (VBlk.below d1 b2 (VBlk.lt d1))) ?_; rintro _ w3 ⟨rfl, b3⟩; refine ⟨_, rfl, ?_⟩; refine K.kgo ?_; have b13 : Below w1.heap.size w1 w3 := b2.trans (b3.mono b2.size); exact WQ.ret2 rfl rfl rfl ⟨jb, rfl, VBlk.below v1 b13 (VBlk.lt v1), b1.trans (b13.mono b1.size)⟩
end Cl
end Go.Proofs.YtpfkcfaifleliaaGreat

namespace Go.Proofs.YtpfkcfaifleliaaGreat
open Go.RowKit Go.Maps
namespace Cl
open K
set_option maxRecDepth 100000
abbrev mgT : Nat := 173
abbrev cfT : Nat := 92
variable {w : World} {db jb : Nat}
theorem new15 : Calls Tryz.prog 68 #[] w fun e w' => ∃ p, e = .returned (.pointer p) ∧ Below w.heap.size w w' := by
  refine enter (args := []) Tryz.func68 rfl Tryz.ntmps68 rfl ?_; refine K.kgo ?_; refine WL.build [no] rfl rfl rfl rfl rfl (by kernel_rfl) ?_; refine WL.box rfl rfl rfl rfl rfl fun cp w1 f1 => ?_; have b1 := f1.below; clear f1; refine WL.mkMap rfl rfl rfl rfl ?_; have b2 : Below w.heap.size w (w1.alloc (.map #[] 0)) := b1.trans (((Below.refl _ w1).alloc (Nat.le_refl _) _).mono b1.size); generalize w1.heap.size = mb; generalize w1.alloc (.map #[] 0) = w2 at b2 ⊢; refine WL.build [Value.pointer (some ⟨cp, 0, none⟩), no, .int .i64 0, .map (some mb)] rfl rfl rfl rfl rfl (by kernel_rfl) ?_; refine WL.box rfl rfl rfl rfl rfl fun rb w3 f3 => ?_; refine K.kgo ?_; exact WQ.ret1 rfl rfl ⟨_, rfl, b2.trans (f3.below.mono b2.size)⟩
theorem opening22 (h : VBlk dkT w db (dkC no)) : Calls Tryz.prog 71 #[.pointer (some ⟨db, 0, none⟩)] w fun e w' => e = .returned (.int .i64 (-1)) ∧ w = w' := by
  refine enter (args := [.pointer (some ⟨db, 0, none⟩)]) Tryz.func71 rfl Tryz.ntmps71 rfl ?_; refine K.kgo ?_; refine WL.call rfl rfl rfl rfl rfl Tryz.func105 rfl (by kernel_rfl) (list3 h) ?_; rintro _ _ ⟨rfl, rfl⟩; refine ⟨_, rfl, ?_⟩; refine K.kgo ?_; refine WC.loop (fun _ : Unit => [(3, .int .i64 (-1)), (4, no), (5, .int .i64 0)]) (fun _ wz => w = wz) (fun _ => 0) () ⟨rfl, rfl, rfl, trivial⟩ rfl ?_; rintro ⟨⟩ _ rfl; refine K.kgo ?_; exact WQ.ret1 rfl rfl ⟨rfl, rfl⟩
theorem dec1 : Calls Tryz.prog 110 #[.int .u64 1] w fun e w' => ∃ s : ByteArray, e = .returned (.string s) ∧ s.size = 1 ∧ Below w.heap.size w w' := by
  refine enter (args := [.int .u64 1]) Tryz.func110 rfl Tryz.ntmps110 rfl ?_; refine K.kgo ?_; refine WC.loop (fun _ : Unit => [(0, .int .u64 1), (3, .string ⟨#[]⟩)]) (fun _ wz => w = wz) (fun _ => 0) () ⟨rfl, rfl, trivial⟩ rfl ?_; rintro ⟨⟩ _ rfl; have hq : IntKind.u64.wrap ((1 : Int).tdiv 10) = 0 := by decide
  refine K.kgo ?_; refine WL.lit rfl rfl rfl rfl rfl rfl rfl fun b w1 hb hb1 _ => ?_; refine WL.strOf rfl rfl rfl rfl rfl rfl rfl rfl hb.sl ?_; have hcz := strOfNums_size [IntKind.u8.wrap (IntKind.u64.wrap (48 + (1 : Int).tmod 10))]; generalize strOfNums [IntKind.u8.wrap (IntKind.u64.wrap (48 + (1 : Int).tmod 10))] = x at hcz ⊢; have hcz : x.size = 1 := hcz; refine K.kgo ?_; refine WL.concat rfl rfl rfl rfl rfl rfl (by rw [hcz]; decide) ?_; have hs : (x ++ (⟨#[]⟩ : ByteArray)).size = 1 := by rw [ByteArray.size_append, hcz]; rfl
  generalize x ++ (⟨#[]⟩ : ByteArray) = y at hs ⊢; refine K.kgo ?_; exact WQ.ret1 rfl rfl ⟨y, rfl, hs, hb1⟩
theorem name22 : Calls Tryz.prog 73 #[.int .i64 1] w fun e w' => ∃ s : ByteArray, e = .returned (.string s) ∧ s.size = 9 ∧ Below w.heap.size w w' := by
  refine enter (args := [.int .i64 1]) Tryz.func73 rfl Tryz.ntmps73 rfl ?_; refine K.kgo ?_; refine WL.call rfl rfl rfl rfl rfl Tryz.func110 rfl (by kernel_rfl) dec1 ?_; rintro _ w1 ⟨s, rfl, hs, b1⟩; refine ⟨_, rfl, ?_⟩; refine K.kgo ?_; refine WC.loop (fun s : ByteArray => [(3, .string s)]) (fun s wz => w1 = wz ∧ 1 ≤ s.size ∧ s.size ≤ 8) (fun s => 8 - s.size) s ⟨rfl, trivial⟩ ⟨rfl, by omega, by omega⟩ ?_; clear hs; rintro s _ ⟨rfl, h1, h2⟩
  by_cases h8 : s.size < 8
  · refine K.kgo ?_
    refine WL.concat rfl rfl rfl rfl rfl rfl (by show 1 + s.size ≤ _; omega) ?_; have hs : ((⟨#[48]⟩ : ByteArray) ++ s).size = 1 + s.size := by rw [ByteArray.size_append]; rfl
    generalize (⟨#[48]⟩ : ByteArray) ++ s = y at hs ⊢; refine K.kgo ?_; exact WQ.again y ⟨rfl, trivial⟩ ⟨rfl, by omega, by omega⟩ (by omega)
  · refine K.kgo ?_
    refine WL.concat rfl rfl rfl rfl rfl rfl (by show 1 + s.size ≤ _; omega) ?_; have hs : ((⟨#[111]⟩ : ByteArray) ++ s).size = 1 + s.size := by rw [ByteArray.size_append]; rfl
    generalize (⟨#[111]⟩ : ByteArray) ++ s = y at hs ⊢; refine K.kgo ?_; exact WQ.ret1 rfl rfl ⟨y, rfl, by omega, b1⟩
abbrev mgC (jb : Nat) (v : Value) (n1 n2 : Int) : List Value := [.pointer (some ⟨jb, 0, none⟩), v, no, .int .i64 2, .int .i64 30, no, .int .i64 0, .int .i64 n1, .int .i64 n2]
set_option maxHeartbeats 4000000 in
theorem open22 (h : VBlk dkT w db (dkC no)) : Calls Tryz.prog 42 #[.pointer (some ⟨db, 0, none⟩), .agg #[.int .i64 2, .int .i64 30]] w fun e w' => ∃ p, e = .returned (.tuple #[.pointer p, .int .i64 0]) ∧ Keep (fun x => x < w.heap.size ∧ x ≠ db) w w' := by
  refine enter (args := [.pointer (some ⟨db, 0, none⟩), .agg #[.int .i64 2, .int .i64 30]]) Tryz.func42 rfl Tryz.ntmps42 rfl ?_; refine K.kgn ?_; refine WL.box rfl rfl rfl rfl rfl fun cb w1 f1 => ?_; have v1 : VBlk cfT w1 cb [.int .i64 2, .int .i64 30] := f1.blk; have d1 := VBlk.below h f1.below (VBlk.lt h); have b1 := f1.below; clear f1; have c0 : w1.cell? ⟨cb, 0, none⟩ = some (.int .i64 2) := v1.cell 0 (by simp); have c1 : w1.cell? ⟨cb, 1, none⟩ = some (.int .i64 30) := v1.cell 1 (by simp); refine K.kgl ?_; refine WL.call rfl rfl rfl rfl rfl Tryz.func67 rfl (by kernel_rfl) (open12 d1) ?_; rintro _ w2 ⟨jb, rfl, j2, b2⟩; refine ⟨_, rfl, ?_⟩; have v2 := VBlk.below v1 b2 (VBlk.lt v1); have d2 := VBlk.below d1 b2 (VBlk.lt d1); have b02 := b1.trans (b2.mono b1.size); clear b1 b2 v1 d1 c0 c1; refine K.kgo ?_; refine WC.drawn 5 (fun wx => VBlk cfT wx cb [.int .i64 2, .int .i64 30] ∧ Below w2.heap.size w2 wx) fun w3 hd => ?_; have hS : VBlk cfT w3 cb [.int .i64 2, .int .i64 30] ∧ Below w2.heap.size w2 w3 := ⟨VBlk.below v2 (hd.below _) (VBlk.lt v2), hd.below _⟩; clear hd; refine K.fr [0] hS ?_; refine K.wm 2 [3, 4, 5] rfl rfl rfl rfl rfl rfl rfl (fun wx hx => VBlk.rangeAt hx.1) rfl hS ?_; refine K.wo 1 ?_; refine WL.call rfl rfl rfl rfl rfl Tryz.func68 rfl (by kernel_rfl) new15 ?_; rintro _ w4 ⟨p, rfl, b4⟩; refine ⟨_, rfl, ?_⟩; have hS4 : VBlk cfT w4 cb [.int .i64 2, .int .i64 30] ∧ Below w2.heap.size w2 w4 := ⟨VBlk.below hS.1 b4 (VBlk.lt hS.1), hS.2.trans (b4.mono hS.2.size)⟩; clear hS b4; refine K.di hS4 ?_; refine K.wo 3 ?_; refine WL.build (mgC jb (.pointer p) 0 0) rfl rfl rfl rfl rfl (by kernel_rfl) ?_; refine K.di hS4 ?_; refine K.wo 4 ?_; refine WL.box rfl rfl rfl rfl rfl fun mb w5 f5 => ?_; have hS5 : VBlk cfT w5 cb [.int .i64 2, .int .i64 30] ∧ Below w2.heap.size w2 w5 := ⟨VBlk.below hS4.1 f5.below (VBlk.lt hS4.1), hS4.2.trans (f5.below.mono hS4.2.size)⟩; have m5 : VBlk mgT w5 mb (mgC jb (.pointer p) 0 0) := f5.blk; have e5 := f5.eq; refine K.di hS5 ?_; refine K.wo 5 ?_; refine WL.pure rfl rfl rfl rfl ?_; refine K.dl ?_; refine WD.done (by kernel_rfl) ?_; have z4 := hS4.2.size; have z02 := b02.size; have b5 := hS5.2; clear hS4 hS5 f5 v2; have j5 := VBlk.below j2 b5 (VBlk.lt j2); have d5 := VBlk.below d2 b5 (VBlk.lt d2); have b05 := b02.trans (b5.mono b02.size); clear j2 d2 b02 b5; have c1 : w5.cell? ⟨jb, 1, none⟩ = some no := j5.cell 1 (by simp); refine K.kgo ?_; refine WC.loop (fun _ : Unit => [(0, .pointer (some ⟨db, 0, none⟩)), (6, .pointer (some ⟨jb, 0, none⟩)), (8, .pointer (some ⟨mb, 0, none⟩)), (9, .int .i64 0)]) (fun _ wz => w5 = wz) (fun _ => 0) () ⟨rfl, rfl, rfl, rfl, trivial⟩ rfl ?_; rintro ⟨⟩ _ rfl; refine K.kgl ?_; refine WL.call rfl rfl rfl rfl rfl Tryz.func71 rfl (by kernel_rfl) (opening22 d5) ?_; rintro _ _ ⟨rfl, rfl⟩; refine ⟨_, rfl, ?_⟩; refine K.kgo ?_; refine WL.call rfl rfl rfl rfl rfl Tryz.func73 rfl (by kernel_rfl) name22 ?_; rintro _ w6 ⟨s, rfl, hs, b6⟩; refine ⟨_, rfl, ?_⟩; have d6 := VBlk.below d5 b6 (VBlk.lt d5); have ldb := VBlk.lt h; refine WL.call rfl rfl rfl rfl rfl Tryz.func72 rfl (by kernel_rfl) (append3 d6 (by omega) (by omega)) ?_; rintro _ w7 ⟨rfl, k7⟩; refine ⟨_, rfl, ?_⟩; have z6 := b6.size; have z7 := k7.size; have l5 := VBlk.lt m5; have m7 : VBlk mgT w7 mb (mgC jb (.pointer p) 0 0) := VBlk.keep (VBlk.below m5 b6 (VBlk.lt m5)) k7 ⟨by omega, by omega⟩; have b06 := b05.trans (b6.mono b05.size); have k07 : Keep (fun x => x < w.heap.size ∧ x ≠ db) w w7 := ((Keep.of_below b06).mono fun x hx => hx.1).trans (k7.mono fun x hx => ⟨Nat.lt_of_lt_of_le hx.1 b06.size, hx.2⟩); clear k7 b06 b6 m5 d5 d6 j5 c1; have z05 := b05.size; refine K.kgo ?_; refine WL.store rfl rfl rfl rfl rfl rfl (by kernel_rfl) (VBlk.cell m7 7 (by simp)) (VBlk.free m7 7) ?_; have m8 := VBlk.set m7 7 (.int .i64 1048576); have k8 := k07.setCell (p := ⟨mb, 7, none⟩) (fun hx => by have := hx.1; have : mb < w.heap.size := this; omega) (.int .i64 1048576); generalize hw8 : w7.setCell ⟨mb, 7, none⟩ _ = w8; have hw8' : w7.setCell ⟨mb, 7, none⟩ (.int .i64 1048576) = w8 := hw8; rw [hw8'] at m8 k8; refine K.kgo ?_; refine WL.store rfl rfl rfl rfl rfl rfl (by kernel_rfl) (VBlk.cell m8 8 (by simp)) (VBlk.free m8 8) ?_; have k9 := k8.setCell (p := ⟨mb, 8, none⟩) (fun hx => by have := hx.1; have : mb < w.heap.size := this; omega) (.int .i64 1048576); refine K.kgo ?_; exact WQ.ret2 rfl rfl rfl ⟨_, rfl, k9⟩
theorem open26 (h : VBlk dkT w db (dkC no)) : Calls Tryz.prog 23 #[.pointer (some ⟨db, 0, none⟩), .agg #[.int .i64 2, .int .i64 30]] w fun e w' => ∃ p, e = .returned (.tuple #[.pointer p, .int .i64 0]) ∧ Keep (fun x => x < w.heap.size ∧ x ≠ db) w w' := by
  refine enter (args := [.pointer (some ⟨db, 0, none⟩), .agg #[.int .i64 2, .int .i64 30]]) Tryz.func23 rfl Tryz.ntmps23 rfl ?_; refine K.kgn ?_; refine WL.box rfl rfl rfl rfl rfl fun cb w1 f1 => ?_; have v1 : VBlk cfT w1 cb [.int .i64 2, .int .i64 30] := f1.blk; have d1 := VBlk.below h f1.below (VBlk.lt h); have b1 := f1.below; clear f1; refine K.kgo ?_; refine WL.loadMid rfl rfl rfl rfl rfl rfl (VBlk.rangeAt v1) rfl ?_; refine WL.call rfl rfl rfl rfl rfl Tryz.func42 rfl (by kernel_rfl) (open22 d1) ?_; rintro _ w2 ⟨p, rfl, k2⟩; refine ⟨_, rfl, ?_⟩; have k02 : Keep (fun x => x < w.heap.size ∧ x ≠ db) w w2 := ((Keep.of_below b1).mono fun x hx => hx.1).trans (k2.mono fun x hx => ⟨Nat.lt_of_lt_of_le hx.1 b1.size, hx.2⟩); clear k2; refine K.kgo ?_; refine WL.mkMap rfl rfl rfl rfl ?_; have k3 : Keep (fun x => x < w.heap.size ∧ x ≠ db) w (w2.alloc (.map #[] 0)) := k02.alloc (fun x hx => Nat.lt_of_lt_of_le hx.1 k02.size) _; generalize hmb : w2.heap.size = mb; generalize w2.alloc (.map #[] 0) = w3 at k3 ⊢; refine WL.build [.pointer p, no, no, .map (some mb)] rfl rfl rfl rfl rfl (by kernel_rfl) ?_; refine WL.box rfl rfl rfl rfl rfl fun sb w4 f4 => ?_; refine K.kgo ?_; exact WQ.ret2 rfl rfl rfl ⟨_, rfl, k3.trans ((Keep.of_below f4.below).mono fun x hx => Nat.lt_of_lt_of_le hx.1 k3.size)⟩
end Cl
end Go.Proofs.YtpfkcfaifleliaaGreat

namespace Go.Proofs.YtpfkcfaifleliaaGreat
open Go.RowKit
namespace K
open Vl (formC formB_eq okN fields_iff)

theorem chk_bad {m : Nat} {v : V} {x : Int} (h : shp v = x) (h0 : ¬ x = 0) : chk (m + 1) v = x := by
  unfold chk; rw [if_neg (by rw [h]; exact h0)]; exact h
theorem shp_form3 {v : V} (h : formB v = false) : shp v = 3 := by unfold shp; rw [if_pos h]
theorem text_ne (v : V) : (!(v.t.toList == (ByteArray.mk #[]).toList)) = !noTextB v := by
  have h0 : (ByteArray.mk #[]).toList = [] := by decide +kernel
  have hl : v.t.toList.length = v.t.size := by rw [ByteArray.toList_eq]; rfl
  rw [h0]; unfold noTextB; cases h : v.t.toList with
  | nil => rw [h] at hl; simp at hl; simp [← hl]
  | cons a r => rw [h] at hl; simp at hl; simp [← hl]
theorem ret_i64 {x y : Int} (h : x = y) : Ending.returned (.int .i64 x) = .returned (.int .i64 y) := by rw [h]


set_option maxRecDepth 100000 in
set_option maxHeartbeats 16000000 in
theorem rchk_k1 {f : Nat} {w : World} {v : V} {cs : List Value} {m : Nat} {d : Int} (hv : IsV (f + 1) w v cs) (q : v.k = 1) (_hd1 : d ≤ 16) (_hd0 : 0 ≤ d) :
    Calls Tryz.prog 114 #[.agg cs.toArray, .int .i64 d] w fun e w' => e = .returned (.int .i64 (chk (m + 1) v)) ∧ Below w.heap.size w w' := by
  obtain ⟨sn, sk, rfl, -, hn64, -, htz, ⟨np, nc, rfl, nl, nc2, nsz, nr⟩, ⟨sp, cap, rfl, hcap1, hcap2, hrow⟩⟩ := hv; have hn : -9223372036854775808 ≤ v.n ∧ v.n ≤ 9223372036854775807 := by simp [Lit.wf, IntKind.min, IntKind.max, IntKind.bits, IntKind.signed] at hn64; omega
  clear hn64; refine enter (args := [.agg (six v (.slice np v.names.length nc) (.slice sp v.kids.length cap)).toArray, .int .i64 d]) Tryz.func114 rfl Tryz.ntmps114 rfl ?_; refine K.kgo ?_; refine WL.box rfl rfl rfl rfl rfl fun g w1 hf => ?_; have hR : VBlk 82 w1 g (six v (.slice np v.names.length nc) (.slice sp v.kids.length cap)) := hf.blk; have hbel : Below w.heap.size w w1 := hf.below; have c0 : w1.cell? ⟨g, 0, none⟩ = some (.int .i64 v.k) := hR.cell 0 (by simp); have c1 : w1.cell? ⟨g, 1, none⟩ = some (.int .i64 v.n) := hR.cell 1 (by simp); have c2 : w1.cell? ⟨g, 2, none⟩ = some (.int .i64 v.s) := hR.cell 2 (by simp); have c3 : w1.cell? ⟨g, 3, none⟩ = some (.string v.t) := hR.cell 3 (by simp); have c4 : w1.cell? ⟨g, 4, none⟩ = some (.slice np v.names.length nc) := hR.cell 4 (by simp); have c5 : w1.cell? ⟨g, 5, none⟩ = some (.slice sp v.kids.length cap) := hR.cell 5 (by simp); clear hf; have hfc := formB_eq v; have hB : bareB v = (decide (v.n = 0) && decide (v.s = 0)) := rfl; have hP : plainB v = (decide (v.names.length = 0) && decide (v.kids.length = 0)) := rfl; have hE := text_ne v; have bad3 : formB v = false → Ending.returned (.int .i64 3) = .returned (.int .i64 (chk (m + 1) v)) ∧ Below w.heap.size w w1 := fun h => ⟨ret_i64 (chk_bad (shp_form3 h) (by decide)).symm, hbel⟩; refine K.kgb ?_; refine WL.as 5 (.bool (!noTextB v)) rfl (congrArg Value.bool hE) ?_; refine WL.mid (fun _ : Unit => [(1, .int .i64 d), (2, .pointer (some ⟨g, 0, none⟩)), (5, .bool (!noTextB v)), (6, .bool (!plainB v))]) (fun _ w' => w1 = w') rfl ?_ ?_
  · by_cases hK : v.kids.length = 0
    · have hK0 : ¬ (0 : Int) < v.kids.length := by omega
      refine WL.as 19 (.bool false) rfl (congrArg Value.bool (decide_eq_false hK0)) ?_
      by_cases hN : v.names.length = 0
      · refine K.kgl ?_
        exact WQ.meet () ⟨rfl, rfl, rfl, congrArg (fun b => some (Value.bool b)) (by rw [hP]; simp [hN, hK]), trivial⟩ rfl
      · refine K.kgl ?_
        exact WQ.meet () ⟨rfl, rfl, rfl, congrArg (fun b => some (Value.bool b)) (by rw [hP]; simp [hN]), trivial⟩ rfl
    · have hK0 : (0 : Int) < v.kids.length := by omega
      refine WL.as 19 (.bool true) rfl (congrArg Value.bool (decide_eq_true hK0)) ?_; refine K.kgl ?_; exact WQ.meet () ⟨rfl, rfl, rfl, congrArg (fun b => some (Value.bool b)) (by rw [hP]; simp [hK]), trivial⟩ rfl
  rintro _ _ rfl; have shp5 : formB v = true → (16384 < v.t.size ∨ 200 < v.kids.length) → shp v = 5 := fun h1 h2 => by unfold shp; rw [if_neg (by rw [h1]; exact Bool.noConfusion), if_pos h2]
  have shp0 : formB v = true → v.t.size ≤ 16384 → v.kids.length ≤ 200 → (v.k = 9 → fieldsB v = true) → shp v = 0 := fun h1 h2 h3 h4 => by
    unfold shp; rw [if_neg (by rw [h1]; exact Bool.noConfusion), if_neg (by omega), if_neg (fun h => by have := h4 h.1; rw [this] at h; exact Bool.noConfusion h.2)]
  have hEt : noTextB v = true → v.t.size = 0 := fun h => of_decide_eq_true h; have hPk : plainB v = true → v.kids.length = 0 := fun h => by rw [hP] at h; rw [Bool.and_eq_true] at h; exact of_decide_eq_true h.2
  have chk0 : shp v = 0 → v.kids.length = 0 → chk (m + 1) v = 0 := fun h1 h2 => by
    unfold chk; rw [if_pos h1, List.eq_nil_of_length_eq_zero h2]
    rfl
  clear hE hP

  by_cases a1 : v.n = 0
  · skip
    by_cases a2 : v.s = 0
    · skip
      cases hE1 : noTextB v with
      | false =>
        rw [hE1] at hfc; refine K.kgl ?_; exact WQ.ret1 rfl rfl (bad3 (by rw [hfc]; simp [formC, *]))
      | true =>
        rw [hE1] at hfc; cases hP1 : plainB v with
        | false =>
          rw [hP1] at hfc; refine K.kgl ?_; exact WQ.ret1 rfl rfl (bad3 (by rw [hfc]; simp [formC, *]))
        | true =>
          rw [hP1] at hfc; have h0 : shp v = 0 := shp0 (by rw [hfc]; simp [formC, *]) (by have := hEt hE1; omega) (by have := hPk hP1; omega) (fun h => by omega); have hk0 : v.kids.length = 0 := hPk hP1; refine K.kgl ?_; refine WC.loop (fun _ : Unit => [(1, .int .i64 d), (2, .pointer (some ⟨g, 0, none⟩)), (8, .int .i64 0)]) (fun _ w' => w1 = w') (fun _ => 0) () ⟨rfl, rfl, rfl, trivial⟩ rfl ?_; rintro _ _ rfl; refine K.kgl ?_; exact WQ.ret1 rfl rfl ⟨ret_i64 (chk0 h0 hk0).symm, hbel⟩
    · skip
      refine K.kgl ?_; exact WQ.ret1 rfl rfl (bad3 (by rw [hfc]; simp [formC, *]))
  · skip
    refine K.kgl ?_; exact WQ.ret1 rfl rfl (bad3 (by rw [hfc]; simp [formC, *]))

set_option maxRecDepth 100000 in
set_option maxHeartbeats 16000000 in
theorem rchk_k2 {f : Nat} {w : World} {v : V} {cs : List Value} {m : Nat} {d : Int} (hv : IsV (f + 1) w v cs) (q : v.k = 2) (_hd1 : d ≤ 16) (_hd0 : 0 ≤ d) :
    Calls Tryz.prog 114 #[.agg cs.toArray, .int .i64 d] w fun e w' => e = .returned (.int .i64 (chk (m + 1) v)) ∧ Below w.heap.size w w' := by
  obtain ⟨sn, sk, rfl, -, hn64, -, htz, ⟨np, nc, rfl, nl, nc2, nsz, nr⟩, ⟨sp, cap, rfl, hcap1, hcap2, hrow⟩⟩ := hv; have hn : -9223372036854775808 ≤ v.n ∧ v.n ≤ 9223372036854775807 := by simp [Lit.wf, IntKind.min, IntKind.max, IntKind.bits, IntKind.signed] at hn64; omega
  clear hn64; refine enter (args := [.agg (six v (.slice np v.names.length nc) (.slice sp v.kids.length cap)).toArray, .int .i64 d]) Tryz.func114 rfl Tryz.ntmps114 rfl ?_; refine K.kgo ?_; refine WL.box rfl rfl rfl rfl rfl fun g w1 hf => ?_; have hR : VBlk 82 w1 g (six v (.slice np v.names.length nc) (.slice sp v.kids.length cap)) := hf.blk; have hbel : Below w.heap.size w w1 := hf.below; have c0 : w1.cell? ⟨g, 0, none⟩ = some (.int .i64 v.k) := hR.cell 0 (by simp); have c1 : w1.cell? ⟨g, 1, none⟩ = some (.int .i64 v.n) := hR.cell 1 (by simp); have c2 : w1.cell? ⟨g, 2, none⟩ = some (.int .i64 v.s) := hR.cell 2 (by simp); have c3 : w1.cell? ⟨g, 3, none⟩ = some (.string v.t) := hR.cell 3 (by simp); have c4 : w1.cell? ⟨g, 4, none⟩ = some (.slice np v.names.length nc) := hR.cell 4 (by simp); have c5 : w1.cell? ⟨g, 5, none⟩ = some (.slice sp v.kids.length cap) := hR.cell 5 (by simp); clear hf; have hfc := formB_eq v; have hB : bareB v = (decide (v.n = 0) && decide (v.s = 0)) := rfl; have hP : plainB v = (decide (v.names.length = 0) && decide (v.kids.length = 0)) := rfl; have hE := text_ne v; have bad3 : formB v = false → Ending.returned (.int .i64 3) = .returned (.int .i64 (chk (m + 1) v)) ∧ Below w.heap.size w w1 := fun h => ⟨ret_i64 (chk_bad (shp_form3 h) (by decide)).symm, hbel⟩; refine K.kgb ?_; refine WL.as 5 (.bool (!noTextB v)) rfl (congrArg Value.bool hE) ?_; refine WL.mid (fun _ : Unit => [(1, .int .i64 d), (2, .pointer (some ⟨g, 0, none⟩)), (5, .bool (!noTextB v)), (6, .bool (!plainB v))]) (fun _ w' => w1 = w') rfl ?_ ?_
  · by_cases hK : v.kids.length = 0
    · have hK0 : ¬ (0 : Int) < v.kids.length := by omega
      refine WL.as 19 (.bool false) rfl (congrArg Value.bool (decide_eq_false hK0)) ?_
      by_cases hN : v.names.length = 0
      · refine K.kgl ?_
        exact WQ.meet () ⟨rfl, rfl, rfl, congrArg (fun b => some (Value.bool b)) (by rw [hP]; simp [hN, hK]), trivial⟩ rfl
      · refine K.kgl ?_
        exact WQ.meet () ⟨rfl, rfl, rfl, congrArg (fun b => some (Value.bool b)) (by rw [hP]; simp [hN]), trivial⟩ rfl
    · have hK0 : (0 : Int) < v.kids.length := by omega
      refine WL.as 19 (.bool true) rfl (congrArg Value.bool (decide_eq_true hK0)) ?_; refine K.kgl ?_; exact WQ.meet () ⟨rfl, rfl, rfl, congrArg (fun b => some (Value.bool b)) (by rw [hP]; simp [hK]), trivial⟩ rfl
  rintro _ _ rfl; have shp5 : formB v = true → (16384 < v.t.size ∨ 200 < v.kids.length) → shp v = 5 := fun h1 h2 => by unfold shp; rw [if_neg (by rw [h1]; exact Bool.noConfusion), if_pos h2]
  have shp0 : formB v = true → v.t.size ≤ 16384 → v.kids.length ≤ 200 → (v.k = 9 → fieldsB v = true) → shp v = 0 := fun h1 h2 h3 h4 => by
    unfold shp; rw [if_neg (by rw [h1]; exact Bool.noConfusion), if_neg (by omega), if_neg (fun h => by have := h4 h.1; rw [this] at h; exact Bool.noConfusion h.2)]
  have hEt : noTextB v = true → v.t.size = 0 := fun h => of_decide_eq_true h; have hPk : plainB v = true → v.kids.length = 0 := fun h => by rw [hP] at h; rw [Bool.and_eq_true] at h; exact of_decide_eq_true h.2
  have chk0 : shp v = 0 → v.kids.length = 0 → chk (m + 1) v = 0 := fun h1 h2 => by
    unfold chk; rw [if_pos h1, List.eq_nil_of_length_eq_zero h2]
    rfl
  clear hE hP

  by_cases a1 : 0 ≤ v.n
  · skip
    by_cases a2 : v.n ≤ 1
    · skip
      have x2 : v.n / 2 = 0 := by omega
      by_cases a4 : v.s = 0
      · skip
        cases hE1 : noTextB v with
        | false =>
          rw [hE1] at hfc; refine K.kgl ?_; exact WQ.ret1 rfl rfl (bad3 (by rw [hfc]; simp [formC, *]))
        | true =>
          rw [hE1] at hfc; cases hP1 : plainB v with
          | false =>
            rw [hP1] at hfc; refine K.kgl ?_; exact WQ.ret1 rfl rfl (bad3 (by rw [hfc]; simp [formC, *]))
          | true =>
            rw [hP1] at hfc; have h0 : shp v = 0 := shp0 (by rw [hfc]; simp [formC, *]) (by have := hEt hE1; omega) (by have := hPk hP1; omega) (fun h => by omega); have hk0 : v.kids.length = 0 := hPk hP1; refine K.kgl ?_; refine WC.loop (fun _ : Unit => [(1, .int .i64 d), (2, .pointer (some ⟨g, 0, none⟩)), (8, .int .i64 0)]) (fun _ w' => w1 = w') (fun _ => 0) () ⟨rfl, rfl, rfl, trivial⟩ rfl ?_; rintro _ _ rfl; refine K.kgl ?_; exact WQ.ret1 rfl rfl ⟨ret_i64 (chk0 h0 hk0).symm, hbel⟩
      · skip
        refine K.kgl ?_; exact WQ.ret1 rfl rfl (bad3 (by rw [hfc]; simp [formC, *]))
    · skip
      have x2 : ¬ v.n / 2 = 0 := by omega
      refine K.kgl ?_; exact WQ.ret1 rfl rfl (bad3 (by rw [hfc]; simp [formC, *]))
  · skip
    have x2 : ¬ v.n / 2 = 0 := by omega
    refine K.kgl ?_; exact WQ.ret1 rfl rfl (bad3 (by rw [hfc]; simp [formC, *]))

set_option maxRecDepth 100000 in
set_option maxHeartbeats 16000000 in
theorem rchk_k3 {f : Nat} {w : World} {v : V} {cs : List Value} {m : Nat} {d : Int} (hv : IsV (f + 1) w v cs) (q : v.k = 3) (_hd1 : d ≤ 16) (_hd0 : 0 ≤ d) :
    Calls Tryz.prog 114 #[.agg cs.toArray, .int .i64 d] w fun e w' => e = .returned (.int .i64 (chk (m + 1) v)) ∧ Below w.heap.size w w' := by
  obtain ⟨sn, sk, rfl, -, hn64, -, htz, ⟨np, nc, rfl, nl, nc2, nsz, nr⟩, ⟨sp, cap, rfl, hcap1, hcap2, hrow⟩⟩ := hv; have hn : -9223372036854775808 ≤ v.n ∧ v.n ≤ 9223372036854775807 := by simp [Lit.wf, IntKind.min, IntKind.max, IntKind.bits, IntKind.signed] at hn64; omega
  clear hn64; refine enter (args := [.agg (six v (.slice np v.names.length nc) (.slice sp v.kids.length cap)).toArray, .int .i64 d]) Tryz.func114 rfl Tryz.ntmps114 rfl ?_; refine K.kgo ?_; refine WL.box rfl rfl rfl rfl rfl fun g w1 hf => ?_; have hR : VBlk 82 w1 g (six v (.slice np v.names.length nc) (.slice sp v.kids.length cap)) := hf.blk; have hbel : Below w.heap.size w w1 := hf.below; have c0 : w1.cell? ⟨g, 0, none⟩ = some (.int .i64 v.k) := hR.cell 0 (by simp); have c1 : w1.cell? ⟨g, 1, none⟩ = some (.int .i64 v.n) := hR.cell 1 (by simp); have c2 : w1.cell? ⟨g, 2, none⟩ = some (.int .i64 v.s) := hR.cell 2 (by simp); have c3 : w1.cell? ⟨g, 3, none⟩ = some (.string v.t) := hR.cell 3 (by simp); have c4 : w1.cell? ⟨g, 4, none⟩ = some (.slice np v.names.length nc) := hR.cell 4 (by simp); have c5 : w1.cell? ⟨g, 5, none⟩ = some (.slice sp v.kids.length cap) := hR.cell 5 (by simp); clear hf; have hfc := formB_eq v; have hB : bareB v = (decide (v.n = 0) && decide (v.s = 0)) := rfl; have hP : plainB v = (decide (v.names.length = 0) && decide (v.kids.length = 0)) := rfl; have hE := text_ne v; have bad3 : formB v = false → Ending.returned (.int .i64 3) = .returned (.int .i64 (chk (m + 1) v)) ∧ Below w.heap.size w w1 := fun h => ⟨ret_i64 (chk_bad (shp_form3 h) (by decide)).symm, hbel⟩; refine K.kgb ?_; refine WL.as 5 (.bool (!noTextB v)) rfl (congrArg Value.bool hE) ?_; refine WL.mid (fun _ : Unit => [(1, .int .i64 d), (2, .pointer (some ⟨g, 0, none⟩)), (5, .bool (!noTextB v)), (6, .bool (!plainB v))]) (fun _ w' => w1 = w') rfl ?_ ?_
  · by_cases hK : v.kids.length = 0
    · have hK0 : ¬ (0 : Int) < v.kids.length := by omega
      refine WL.as 19 (.bool false) rfl (congrArg Value.bool (decide_eq_false hK0)) ?_
      by_cases hN : v.names.length = 0
      · refine K.kgl ?_
        exact WQ.meet () ⟨rfl, rfl, rfl, congrArg (fun b => some (Value.bool b)) (by rw [hP]; simp [hN, hK]), trivial⟩ rfl
      · refine K.kgl ?_
        exact WQ.meet () ⟨rfl, rfl, rfl, congrArg (fun b => some (Value.bool b)) (by rw [hP]; simp [hN]), trivial⟩ rfl
    · have hK0 : (0 : Int) < v.kids.length := by omega
      refine WL.as 19 (.bool true) rfl (congrArg Value.bool (decide_eq_true hK0)) ?_; refine K.kgl ?_; exact WQ.meet () ⟨rfl, rfl, rfl, congrArg (fun b => some (Value.bool b)) (by rw [hP]; simp [hK]), trivial⟩ rfl
  rintro _ _ rfl; have shp5 : formB v = true → (16384 < v.t.size ∨ 200 < v.kids.length) → shp v = 5 := fun h1 h2 => by unfold shp; rw [if_neg (by rw [h1]; exact Bool.noConfusion), if_pos h2]
  have shp0 : formB v = true → v.t.size ≤ 16384 → v.kids.length ≤ 200 → (v.k = 9 → fieldsB v = true) → shp v = 0 := fun h1 h2 h3 h4 => by
    unfold shp; rw [if_neg (by rw [h1]; exact Bool.noConfusion), if_neg (by omega), if_neg (fun h => by have := h4 h.1; rw [this] at h; exact Bool.noConfusion h.2)]
  have hEt : noTextB v = true → v.t.size = 0 := fun h => of_decide_eq_true h; have hPk : plainB v = true → v.kids.length = 0 := fun h => by rw [hP] at h; rw [Bool.and_eq_true] at h; exact of_decide_eq_true h.2
  have chk0 : shp v = 0 → v.kids.length = 0 → chk (m + 1) v = 0 := fun h1 h2 => by
    unfold chk; rw [if_pos h1, List.eq_nil_of_length_eq_zero h2]
    rfl
  clear hE hP

  by_cases a1 : v.s = 0
  · skip
    cases hE1 : noTextB v with
    | false =>
      rw [hE1] at hfc; refine K.kgl ?_; exact WQ.ret1 rfl rfl (bad3 (by rw [hfc]; simp [formC, *]))
    | true =>
      rw [hE1] at hfc; cases hP1 : plainB v with
      | false =>
        rw [hP1] at hfc; refine K.kgl ?_; exact WQ.ret1 rfl rfl (bad3 (by rw [hfc]; simp [formC, *]))
      | true =>
        rw [hP1] at hfc; have h0 : shp v = 0 := shp0 (by rw [hfc]; simp [formC, *]) (by have := hEt hE1; omega) (by have := hPk hP1; omega) (fun h => by omega); have hk0 : v.kids.length = 0 := hPk hP1; refine K.kgl ?_; refine WC.loop (fun _ : Unit => [(1, .int .i64 d), (2, .pointer (some ⟨g, 0, none⟩)), (8, .int .i64 0)]) (fun _ w' => w1 = w') (fun _ => 0) () ⟨rfl, rfl, rfl, trivial⟩ rfl ?_; rintro _ _ rfl; refine K.kgl ?_; exact WQ.ret1 rfl rfl ⟨ret_i64 (chk0 h0 hk0).symm, hbel⟩
  · skip
    refine K.kgl ?_; exact WQ.ret1 rfl rfl (bad3 (by rw [hfc]; simp [formC, *]))

set_option maxRecDepth 100000 in
set_option maxHeartbeats 16000000 in
theorem rchk_k4 {f : Nat} {w : World} {v : V} {cs : List Value} {m : Nat} {d : Int} (hv : IsV (f + 1) w v cs) (q : v.k = 4) (_hd1 : d ≤ 16) (_hd0 : 0 ≤ d) :
    Calls Tryz.prog 114 #[.agg cs.toArray, .int .i64 d] w fun e w' => e = .returned (.int .i64 (chk (m + 1) v)) ∧ Below w.heap.size w w' := by
  obtain ⟨sn, sk, rfl, -, hn64, -, htz, ⟨np, nc, rfl, nl, nc2, nsz, nr⟩, ⟨sp, cap, rfl, hcap1, hcap2, hrow⟩⟩ := hv; have hn : -9223372036854775808 ≤ v.n ∧ v.n ≤ 9223372036854775807 := by simp [Lit.wf, IntKind.min, IntKind.max, IntKind.bits, IntKind.signed] at hn64; omega
  clear hn64; refine enter (args := [.agg (six v (.slice np v.names.length nc) (.slice sp v.kids.length cap)).toArray, .int .i64 d]) Tryz.func114 rfl Tryz.ntmps114 rfl ?_; refine K.kgo ?_; refine WL.box rfl rfl rfl rfl rfl fun g w1 hf => ?_; have hR : VBlk 82 w1 g (six v (.slice np v.names.length nc) (.slice sp v.kids.length cap)) := hf.blk; have hbel : Below w.heap.size w w1 := hf.below; have c0 : w1.cell? ⟨g, 0, none⟩ = some (.int .i64 v.k) := hR.cell 0 (by simp); have c1 : w1.cell? ⟨g, 1, none⟩ = some (.int .i64 v.n) := hR.cell 1 (by simp); have c2 : w1.cell? ⟨g, 2, none⟩ = some (.int .i64 v.s) := hR.cell 2 (by simp); have c3 : w1.cell? ⟨g, 3, none⟩ = some (.string v.t) := hR.cell 3 (by simp); have c4 : w1.cell? ⟨g, 4, none⟩ = some (.slice np v.names.length nc) := hR.cell 4 (by simp); have c5 : w1.cell? ⟨g, 5, none⟩ = some (.slice sp v.kids.length cap) := hR.cell 5 (by simp); clear hf; have hfc := formB_eq v; have hB : bareB v = (decide (v.n = 0) && decide (v.s = 0)) := rfl; have hP : plainB v = (decide (v.names.length = 0) && decide (v.kids.length = 0)) := rfl; have hE := text_ne v; have bad3 : formB v = false → Ending.returned (.int .i64 3) = .returned (.int .i64 (chk (m + 1) v)) ∧ Below w.heap.size w w1 := fun h => ⟨ret_i64 (chk_bad (shp_form3 h) (by decide)).symm, hbel⟩; refine K.kgb ?_; refine WL.as 5 (.bool (!noTextB v)) rfl (congrArg Value.bool hE) ?_; refine WL.mid (fun _ : Unit => [(1, .int .i64 d), (2, .pointer (some ⟨g, 0, none⟩)), (5, .bool (!noTextB v)), (6, .bool (!plainB v))]) (fun _ w' => w1 = w') rfl ?_ ?_
  · by_cases hK : v.kids.length = 0
    · have hK0 : ¬ (0 : Int) < v.kids.length := by omega
      refine WL.as 19 (.bool false) rfl (congrArg Value.bool (decide_eq_false hK0)) ?_
      by_cases hN : v.names.length = 0
      · refine K.kgl ?_
        exact WQ.meet () ⟨rfl, rfl, rfl, congrArg (fun b => some (Value.bool b)) (by rw [hP]; simp [hN, hK]), trivial⟩ rfl
      · refine K.kgl ?_
        exact WQ.meet () ⟨rfl, rfl, rfl, congrArg (fun b => some (Value.bool b)) (by rw [hP]; simp [hN]), trivial⟩ rfl
    · have hK0 : (0 : Int) < v.kids.length := by omega
      refine WL.as 19 (.bool true) rfl (congrArg Value.bool (decide_eq_true hK0)) ?_; refine K.kgl ?_; exact WQ.meet () ⟨rfl, rfl, rfl, congrArg (fun b => some (Value.bool b)) (by rw [hP]; simp [hK]), trivial⟩ rfl
  rintro _ _ rfl; have shp5 : formB v = true → (16384 < v.t.size ∨ 200 < v.kids.length) → shp v = 5 := fun h1 h2 => by unfold shp; rw [if_neg (by rw [h1]; exact Bool.noConfusion), if_pos h2]
  have shp0 : formB v = true → v.t.size ≤ 16384 → v.kids.length ≤ 200 → (v.k = 9 → fieldsB v = true) → shp v = 0 := fun h1 h2 h3 h4 => by
    unfold shp; rw [if_neg (by rw [h1]; exact Bool.noConfusion), if_neg (by omega), if_neg (fun h => by have := h4 h.1; rw [this] at h; exact Bool.noConfusion h.2)]
  have hEt : noTextB v = true → v.t.size = 0 := fun h => of_decide_eq_true h; have hPk : plainB v = true → v.kids.length = 0 := fun h => by rw [hP] at h; rw [Bool.and_eq_true] at h; exact of_decide_eq_true h.2
  have chk0 : shp v = 0 → v.kids.length = 0 → chk (m + 1) v = 0 := fun h1 h2 => by
    unfold chk; rw [if_pos h1, List.eq_nil_of_length_eq_zero h2]
    rfl
  clear hE hP

  by_cases a1 : 1 ≤ v.s
  · skip
    by_cases a2 : v.s ≤ 18
    · skip
      by_cases a3 : ¬ v.n.tmod 10 = 0
      · skip
        cases hE1 : noTextB v with
        | false =>
          rw [hE1] at hfc; refine K.kgl ?_; exact WQ.ret1 rfl rfl (bad3 (by rw [hfc]; simp [formC, *]))
        | true =>
          rw [hE1] at hfc; cases hP1 : plainB v with
          | false =>
            rw [hP1] at hfc; refine K.kgl ?_; exact WQ.ret1 rfl rfl (bad3 (by rw [hfc]; simp [formC, *]))
          | true =>
            rw [hP1] at hfc; have h0 : shp v = 0 := shp0 (by rw [hfc]; simp [formC, *]) (by have := hEt hE1; omega) (by have := hPk hP1; omega) (fun h => by omega); have hk0 : v.kids.length = 0 := hPk hP1; refine K.kgl ?_; refine WC.loop (fun _ : Unit => [(1, .int .i64 d), (2, .pointer (some ⟨g, 0, none⟩)), (8, .int .i64 0)]) (fun _ w' => w1 = w') (fun _ => 0) () ⟨rfl, rfl, rfl, trivial⟩ rfl ?_; rintro _ _ rfl; refine K.kgl ?_; exact WQ.ret1 rfl rfl ⟨ret_i64 (chk0 h0 hk0).symm, hbel⟩
      · skip
        refine K.kgl ?_; exact WQ.ret1 rfl rfl (bad3 (by rw [hfc]; simp [formC, *]))
    · skip
      refine K.kgl ?_; exact WQ.ret1 rfl rfl (bad3 (by rw [hfc]; simp [formC, *]))
  · skip
    refine K.kgl ?_; exact WQ.ret1 rfl rfl (bad3 (by rw [hfc]; simp [formC, *]))

set_option maxRecDepth 100000 in
set_option maxHeartbeats 16000000 in
theorem rchk_k5 {f : Nat} {w : World} {v : V} {cs : List Value} {m : Nat} {d : Int} (hv : IsV (f + 1) w v cs) (q : v.k = 5) (_hd1 : d ≤ 16) (_hd0 : 0 ≤ d) :
    Calls Tryz.prog 114 #[.agg cs.toArray, .int .i64 d] w fun e w' => e = .returned (.int .i64 (chk (m + 1) v)) ∧ Below w.heap.size w w' := by
  obtain ⟨sn, sk, rfl, -, hn64, -, htz, ⟨np, nc, rfl, nl, nc2, nsz, nr⟩, ⟨sp, cap, rfl, hcap1, hcap2, hrow⟩⟩ := hv; have hn : -9223372036854775808 ≤ v.n ∧ v.n ≤ 9223372036854775807 := by simp [Lit.wf, IntKind.min, IntKind.max, IntKind.bits, IntKind.signed] at hn64; omega
  clear hn64; refine enter (args := [.agg (six v (.slice np v.names.length nc) (.slice sp v.kids.length cap)).toArray, .int .i64 d]) Tryz.func114 rfl Tryz.ntmps114 rfl ?_; refine K.kgo ?_; refine WL.box rfl rfl rfl rfl rfl fun g w1 hf => ?_; have hR : VBlk 82 w1 g (six v (.slice np v.names.length nc) (.slice sp v.kids.length cap)) := hf.blk; have hbel : Below w.heap.size w w1 := hf.below; have c0 : w1.cell? ⟨g, 0, none⟩ = some (.int .i64 v.k) := hR.cell 0 (by simp); have c1 : w1.cell? ⟨g, 1, none⟩ = some (.int .i64 v.n) := hR.cell 1 (by simp); have c2 : w1.cell? ⟨g, 2, none⟩ = some (.int .i64 v.s) := hR.cell 2 (by simp); have c3 : w1.cell? ⟨g, 3, none⟩ = some (.string v.t) := hR.cell 3 (by simp); have c4 : w1.cell? ⟨g, 4, none⟩ = some (.slice np v.names.length nc) := hR.cell 4 (by simp); have c5 : w1.cell? ⟨g, 5, none⟩ = some (.slice sp v.kids.length cap) := hR.cell 5 (by simp); clear hf; have hfc := formB_eq v; have hB : bareB v = (decide (v.n = 0) && decide (v.s = 0)) := rfl; have hP : plainB v = (decide (v.names.length = 0) && decide (v.kids.length = 0)) := rfl; have hE := text_ne v; have bad3 : formB v = false → Ending.returned (.int .i64 3) = .returned (.int .i64 (chk (m + 1) v)) ∧ Below w.heap.size w w1 := fun h => ⟨ret_i64 (chk_bad (shp_form3 h) (by decide)).symm, hbel⟩; refine K.kgb ?_; refine WL.as 5 (.bool (!noTextB v)) rfl (congrArg Value.bool hE) ?_; refine WL.mid (fun _ : Unit => [(1, .int .i64 d), (2, .pointer (some ⟨g, 0, none⟩)), (5, .bool (!noTextB v)), (6, .bool (!plainB v))]) (fun _ w' => w1 = w') rfl ?_ ?_
  · by_cases hK : v.kids.length = 0
    · have hK0 : ¬ (0 : Int) < v.kids.length := by omega
      refine WL.as 19 (.bool false) rfl (congrArg Value.bool (decide_eq_false hK0)) ?_
      by_cases hN : v.names.length = 0
      · refine K.kgl ?_
        exact WQ.meet () ⟨rfl, rfl, rfl, congrArg (fun b => some (Value.bool b)) (by rw [hP]; simp [hN, hK]), trivial⟩ rfl
      · refine K.kgl ?_
        exact WQ.meet () ⟨rfl, rfl, rfl, congrArg (fun b => some (Value.bool b)) (by rw [hP]; simp [hN]), trivial⟩ rfl
    · have hK0 : (0 : Int) < v.kids.length := by omega
      refine WL.as 19 (.bool true) rfl (congrArg Value.bool (decide_eq_true hK0)) ?_; refine K.kgl ?_; exact WQ.meet () ⟨rfl, rfl, rfl, congrArg (fun b => some (Value.bool b)) (by rw [hP]; simp [hK]), trivial⟩ rfl
  rintro _ _ rfl; have shp5 : formB v = true → (16384 < v.t.size ∨ 200 < v.kids.length) → shp v = 5 := fun h1 h2 => by unfold shp; rw [if_neg (by rw [h1]; exact Bool.noConfusion), if_pos h2]
  have shp0 : formB v = true → v.t.size ≤ 16384 → v.kids.length ≤ 200 → (v.k = 9 → fieldsB v = true) → shp v = 0 := fun h1 h2 h3 h4 => by
    unfold shp; rw [if_neg (by rw [h1]; exact Bool.noConfusion), if_neg (by omega), if_neg (fun h => by have := h4 h.1; rw [this] at h; exact Bool.noConfusion h.2)]
  have hEt : noTextB v = true → v.t.size = 0 := fun h => of_decide_eq_true h; have hPk : plainB v = true → v.kids.length = 0 := fun h => by rw [hP] at h; rw [Bool.and_eq_true] at h; exact of_decide_eq_true h.2
  have chk0 : shp v = 0 → v.kids.length = 0 → chk (m + 1) v = 0 := fun h1 h2 => by
    unfold chk; rw [if_pos h1, List.eq_nil_of_length_eq_zero h2]
    rfl
  clear hE hP

  by_cases a1 : 0 ≤ v.n
  · skip
    by_cases a2 : v.n ≤ 9007199254740992
    · skip
      by_cases a3 : v.s = 0
      · skip
        cases hE1 : noTextB v with
        | false =>
          rw [hE1] at hfc; refine K.kgl ?_; exact WQ.ret1 rfl rfl (bad3 (by rw [hfc]; simp [formC, *]))
        | true =>
          rw [hE1] at hfc; cases hP1 : plainB v with
          | false =>
            rw [hP1] at hfc; refine K.kgl ?_; exact WQ.ret1 rfl rfl (bad3 (by rw [hfc]; simp [formC, *]))
          | true =>
            rw [hP1] at hfc; have h0 : shp v = 0 := shp0 (by rw [hfc]; simp [formC, *]) (by have := hEt hE1; omega) (by have := hPk hP1; omega) (fun h => by omega); have hk0 : v.kids.length = 0 := hPk hP1; refine K.kgl ?_; refine WC.loop (fun _ : Unit => [(1, .int .i64 d), (2, .pointer (some ⟨g, 0, none⟩)), (8, .int .i64 0)]) (fun _ w' => w1 = w') (fun _ => 0) () ⟨rfl, rfl, rfl, trivial⟩ rfl ?_; rintro _ _ rfl; refine K.kgl ?_; exact WQ.ret1 rfl rfl ⟨ret_i64 (chk0 h0 hk0).symm, hbel⟩
      · skip
        refine K.kgl ?_; exact WQ.ret1 rfl rfl (bad3 (by rw [hfc]; simp [formC, *]))
    · skip
      refine K.kgl ?_; exact WQ.ret1 rfl rfl (bad3 (by rw [hfc]; simp [formC, *]))
  · skip
    refine K.kgl ?_; exact WQ.ret1 rfl rfl (bad3 (by rw [hfc]; simp [formC, *]))

set_option maxRecDepth 100000 in
set_option maxHeartbeats 16000000 in
theorem rchk_k67 {f : Nat} {w : World} {v : V} {cs : List Value} {m : Nat} {d : Int} (hv : IsV (f + 1) w v cs) (q : v.k = 6 ∨ v.k = 7) (_hd1 : d ≤ 16) (_hd0 : 0 ≤ d) :
    Calls Tryz.prog 114 #[.agg cs.toArray, .int .i64 d] w fun e w' => e = .returned (.int .i64 (chk (m + 1) v)) ∧ Below w.heap.size w w' := by
  obtain ⟨sn, sk, rfl, -, hn64, -, htz, ⟨np, nc, rfl, nl, nc2, nsz, nr⟩, ⟨sp, cap, rfl, hcap1, hcap2, hrow⟩⟩ := hv; have hn : -9223372036854775808 ≤ v.n ∧ v.n ≤ 9223372036854775807 := by simp [Lit.wf, IntKind.min, IntKind.max, IntKind.bits, IntKind.signed] at hn64; omega
  clear hn64; refine enter (args := [.agg (six v (.slice np v.names.length nc) (.slice sp v.kids.length cap)).toArray, .int .i64 d]) Tryz.func114 rfl Tryz.ntmps114 rfl ?_; refine K.kgo ?_; refine WL.box rfl rfl rfl rfl rfl fun g w1 hf => ?_; have hR : VBlk 82 w1 g (six v (.slice np v.names.length nc) (.slice sp v.kids.length cap)) := hf.blk; have hbel : Below w.heap.size w w1 := hf.below; have c0 : w1.cell? ⟨g, 0, none⟩ = some (.int .i64 v.k) := hR.cell 0 (by simp); have c1 : w1.cell? ⟨g, 1, none⟩ = some (.int .i64 v.n) := hR.cell 1 (by simp); have c2 : w1.cell? ⟨g, 2, none⟩ = some (.int .i64 v.s) := hR.cell 2 (by simp); have c3 : w1.cell? ⟨g, 3, none⟩ = some (.string v.t) := hR.cell 3 (by simp); have c4 : w1.cell? ⟨g, 4, none⟩ = some (.slice np v.names.length nc) := hR.cell 4 (by simp); have c5 : w1.cell? ⟨g, 5, none⟩ = some (.slice sp v.kids.length cap) := hR.cell 5 (by simp); clear hf; have hfc := formB_eq v; have hB : bareB v = (decide (v.n = 0) && decide (v.s = 0)) := rfl; have hP : plainB v = (decide (v.names.length = 0) && decide (v.kids.length = 0)) := rfl; have hE := text_ne v; have bad3 : formB v = false → Ending.returned (.int .i64 3) = .returned (.int .i64 (chk (m + 1) v)) ∧ Below w.heap.size w w1 := fun h => ⟨ret_i64 (chk_bad (shp_form3 h) (by decide)).symm, hbel⟩; refine K.kgb ?_; refine WL.as 5 (.bool (!noTextB v)) rfl (congrArg Value.bool hE) ?_; refine WL.mid (fun _ : Unit => [(1, .int .i64 d), (2, .pointer (some ⟨g, 0, none⟩)), (5, .bool (!noTextB v)), (6, .bool (!plainB v))]) (fun _ w' => w1 = w') rfl ?_ ?_
  · by_cases hK : v.kids.length = 0
    · have hK0 : ¬ (0 : Int) < v.kids.length := by omega
      refine WL.as 19 (.bool false) rfl (congrArg Value.bool (decide_eq_false hK0)) ?_
      by_cases hN : v.names.length = 0
      · refine K.kgl ?_
        exact WQ.meet () ⟨rfl, rfl, rfl, congrArg (fun b => some (Value.bool b)) (by rw [hP]; simp [hN, hK]), trivial⟩ rfl
      · refine K.kgl ?_
        exact WQ.meet () ⟨rfl, rfl, rfl, congrArg (fun b => some (Value.bool b)) (by rw [hP]; simp [hN]), trivial⟩ rfl
    · have hK0 : (0 : Int) < v.kids.length := by omega
      refine WL.as 19 (.bool true) rfl (congrArg Value.bool (decide_eq_true hK0)) ?_; refine K.kgl ?_; exact WQ.meet () ⟨rfl, rfl, rfl, congrArg (fun b => some (Value.bool b)) (by rw [hP]; simp [hK]), trivial⟩ rfl
  rintro _ _ rfl; have shp5 : formB v = true → (16384 < v.t.size ∨ 200 < v.kids.length) → shp v = 5 := fun h1 h2 => by unfold shp; rw [if_neg (by rw [h1]; exact Bool.noConfusion), if_pos h2]
  have shp0 : formB v = true → v.t.size ≤ 16384 → v.kids.length ≤ 200 → (v.k = 9 → fieldsB v = true) → shp v = 0 := fun h1 h2 h3 h4 => by
    unfold shp; rw [if_neg (by rw [h1]; exact Bool.noConfusion), if_neg (by omega), if_neg (fun h => by have := h4 h.1; rw [this] at h; exact Bool.noConfusion h.2)]
  have hEt : noTextB v = true → v.t.size = 0 := fun h => of_decide_eq_true h; have hPk : plainB v = true → v.kids.length = 0 := fun h => by rw [hP] at h; rw [Bool.and_eq_true] at h; exact of_decide_eq_true h.2
  have chk0 : shp v = 0 → v.kids.length = 0 → chk (m + 1) v = 0 := fun h1 h2 => by
    unfold chk; rw [if_pos h1, List.eq_nil_of_length_eq_zero h2]
    rfl
  clear hE hP

  clear nr nsz hrow; have q9 : ¬ v.k = 9 := by omega
  rcases q with q | q
  · skip
    by_cases a1 : v.n = 0
    · skip
      by_cases a2 : v.s = 0
      · skip
        cases hP1 : plainB v with
        | false =>
          rw [hP1] at hfc; refine K.kgl ?_; exact WQ.ret1 rfl rfl (bad3 (by rw [hfc]; simp [formC, *]))
        | true =>
          rw [hP1] at hfc
          by_cases a3 : 16384 < v.t.size
          · refine K.kgl ?_
            exact WQ.ret1 rfl rfl ⟨ret_i64 (chk_bad (shp5 (by rw [hfc]; simp [formC, *]) (.inl a3)) (by decide)).symm, hbel⟩
          · skip
            have h0 : shp v = 0 := shp0 (by rw [hfc]; simp [formC, *]) (by omega) (by have := hPk hP1; omega) (fun h => by omega); have hk0 : v.kids.length = 0 := hPk hP1; refine K.kgl ?_; refine WC.loop (fun _ : Unit => [(1, .int .i64 d), (2, .pointer (some ⟨g, 0, none⟩)), (8, .int .i64 0)]) (fun _ w' => w1 = w') (fun _ => 0) () ⟨rfl, rfl, rfl, trivial⟩ rfl ?_; rintro _ _ rfl; refine K.kgl ?_; exact WQ.ret1 rfl rfl ⟨ret_i64 (chk0 h0 hk0).symm, hbel⟩
      · skip
        refine K.kgl ?_; exact WQ.ret1 rfl rfl (bad3 (by rw [hfc]; simp [formC, *]))
    · skip
      refine K.kgl ?_; exact WQ.ret1 rfl rfl (bad3 (by rw [hfc]; simp [formC, *]))
  · skip
    by_cases a1 : v.n = 0
    · skip
      by_cases a2 : v.s = 0
      · skip
        cases hP1 : plainB v with
        | false =>
          rw [hP1] at hfc; refine K.kgl ?_; exact WQ.ret1 rfl rfl (bad3 (by rw [hfc]; simp [formC, *]))
        | true =>
          rw [hP1] at hfc
          by_cases a3 : 16384 < v.t.size
          · refine K.kgl ?_
            exact WQ.ret1 rfl rfl ⟨ret_i64 (chk_bad (shp5 (by rw [hfc]; simp [formC, *]) (.inl a3)) (by decide)).symm, hbel⟩
          · skip
            have h0 : shp v = 0 := shp0 (by rw [hfc]; simp [formC, *]) (by omega) (by have := hPk hP1; omega) (fun h => by omega); have hk0 : v.kids.length = 0 := hPk hP1; refine K.kgl ?_; refine WC.loop (fun _ : Unit => [(1, .int .i64 d), (2, .pointer (some ⟨g, 0, none⟩)), (8, .int .i64 0)]) (fun _ w' => w1 = w') (fun _ => 0) () ⟨rfl, rfl, rfl, trivial⟩ rfl ?_; rintro _ _ rfl; refine K.kgl ?_; exact WQ.ret1 rfl rfl ⟨ret_i64 (chk0 h0 hk0).symm, hbel⟩
      · skip
        refine K.kgl ?_; exact WQ.ret1 rfl rfl (bad3 (by rw [hfc]; simp [formC, *]))
    · skip
      refine K.kgl ?_; exact WQ.ret1 rfl rfl (bad3 (by rw [hfc]; simp [formC, *]))

set_option maxRecDepth 100000 in
set_option maxHeartbeats 16000000 in
theorem rchk_kx {f : Nat} {w : World} {v : V} {cs : List Value} {m : Nat} {d : Int} (hv : IsV (f + 1) w v cs) (q : ¬ (1 ≤ v.k ∧ v.k ≤ 9)) (_hd1 : d ≤ 16) (_hd0 : 0 ≤ d) :
    Calls Tryz.prog 114 #[.agg cs.toArray, .int .i64 d] w fun e w' => e = .returned (.int .i64 (chk (m + 1) v)) ∧ Below w.heap.size w w' := by
  obtain ⟨sn, sk, rfl, -, hn64, -, htz, ⟨np, nc, rfl, nl, nc2, nsz, nr⟩, ⟨sp, cap, rfl, hcap1, hcap2, hrow⟩⟩ := hv; have hn : -9223372036854775808 ≤ v.n ∧ v.n ≤ 9223372036854775807 := by simp [Lit.wf, IntKind.min, IntKind.max, IntKind.bits, IntKind.signed] at hn64; omega
  clear hn64; refine enter (args := [.agg (six v (.slice np v.names.length nc) (.slice sp v.kids.length cap)).toArray, .int .i64 d]) Tryz.func114 rfl Tryz.ntmps114 rfl ?_; refine K.kgo ?_; refine WL.box rfl rfl rfl rfl rfl fun g w1 hf => ?_; have hR : VBlk 82 w1 g (six v (.slice np v.names.length nc) (.slice sp v.kids.length cap)) := hf.blk; have hbel : Below w.heap.size w w1 := hf.below; have c0 : w1.cell? ⟨g, 0, none⟩ = some (.int .i64 v.k) := hR.cell 0 (by simp); have c1 : w1.cell? ⟨g, 1, none⟩ = some (.int .i64 v.n) := hR.cell 1 (by simp); have c2 : w1.cell? ⟨g, 2, none⟩ = some (.int .i64 v.s) := hR.cell 2 (by simp); have c3 : w1.cell? ⟨g, 3, none⟩ = some (.string v.t) := hR.cell 3 (by simp); have c4 : w1.cell? ⟨g, 4, none⟩ = some (.slice np v.names.length nc) := hR.cell 4 (by simp); have c5 : w1.cell? ⟨g, 5, none⟩ = some (.slice sp v.kids.length cap) := hR.cell 5 (by simp); clear hf; have hfc := formB_eq v; have hB : bareB v = (decide (v.n = 0) && decide (v.s = 0)) := rfl; have hP : plainB v = (decide (v.names.length = 0) && decide (v.kids.length = 0)) := rfl; have hE := text_ne v; have bad3 : formB v = false → Ending.returned (.int .i64 3) = .returned (.int .i64 (chk (m + 1) v)) ∧ Below w.heap.size w w1 := fun h => ⟨ret_i64 (chk_bad (shp_form3 h) (by decide)).symm, hbel⟩; refine K.kgb ?_; refine WL.as 5 (.bool (!noTextB v)) rfl (congrArg Value.bool hE) ?_; refine WL.mid (fun _ : Unit => [(1, .int .i64 d), (2, .pointer (some ⟨g, 0, none⟩)), (5, .bool (!noTextB v)), (6, .bool (!plainB v))]) (fun _ w' => w1 = w') rfl ?_ ?_
  · by_cases hK : v.kids.length = 0
    · have hK0 : ¬ (0 : Int) < v.kids.length := by omega
      refine WL.as 19 (.bool false) rfl (congrArg Value.bool (decide_eq_false hK0)) ?_
      by_cases hN : v.names.length = 0
      · refine K.kgl ?_
        exact WQ.meet () ⟨rfl, rfl, rfl, congrArg (fun b => some (Value.bool b)) (by rw [hP]; simp [hN, hK]), trivial⟩ rfl
      · refine K.kgl ?_
        exact WQ.meet () ⟨rfl, rfl, rfl, congrArg (fun b => some (Value.bool b)) (by rw [hP]; simp [hN]), trivial⟩ rfl
    · have hK0 : (0 : Int) < v.kids.length := by omega
      refine WL.as 19 (.bool true) rfl (congrArg Value.bool (decide_eq_true hK0)) ?_; refine K.kgl ?_; exact WQ.meet () ⟨rfl, rfl, rfl, congrArg (fun b => some (Value.bool b)) (by rw [hP]; simp [hK]), trivial⟩ rfl
  rintro _ _ rfl; have shp5 : formB v = true → (16384 < v.t.size ∨ 200 < v.kids.length) → shp v = 5 := fun h1 h2 => by unfold shp; rw [if_neg (by rw [h1]; exact Bool.noConfusion), if_pos h2]
  have shp0 : formB v = true → v.t.size ≤ 16384 → v.kids.length ≤ 200 → (v.k = 9 → fieldsB v = true) → shp v = 0 := fun h1 h2 h3 h4 => by
    unfold shp; rw [if_neg (by rw [h1]; exact Bool.noConfusion), if_neg (by omega), if_neg (fun h => by have := h4 h.1; rw [this] at h; exact Bool.noConfusion h.2)]
  have hEt : noTextB v = true → v.t.size = 0 := fun h => of_decide_eq_true h; have hPk : plainB v = true → v.kids.length = 0 := fun h => by rw [hP] at h; rw [Bool.and_eq_true] at h; exact of_decide_eq_true h.2
  have chk0 : shp v = 0 → v.kids.length = 0 → chk (m + 1) v = 0 := fun h1 h2 => by
    unfold chk; rw [if_pos h1, List.eq_nil_of_length_eq_zero h2]
    rfl
  clear hE hP

  clear nr nsz hrow; have hff : formB v = false := by
    rw [hfc]; unfold formC; rw [if_neg (show ¬ v.k = 1 by omega), if_neg (show ¬ v.k = 2 by omega), if_neg (show ¬ v.k = 3 by omega), if_neg (show ¬ v.k = 4 by omega), if_neg (show ¬ v.k = 5 by omega), if_neg (show ¬ (v.k = 6 ∨ v.k = 7) by omega), if_neg (show ¬ v.k = 8 by omega), if_neg (show ¬ v.k = 9 by omega)]
  refine K.kgl ?_; exact WQ.ret1 rfl rfl (bad3 hff)
end K
end Go.Proofs.YtpfkcfaifleliaaGreat

namespace Go.Proofs.YtpfkcfaifleliaaGreat
open Go.RowKit
namespace K
open Vl (formC formB_eq okN fields_iff)


set_option maxRecDepth 100000 in
set_option maxHeartbeats 16000000 in
theorem rchk_k8 {f : Nat} {w : World} {v : V} {cs : List Value} {m : Nat} {d : Int} (ih : ∀ {w : World} {v : V} {cs : List Value} (d : Int), IsV f w v cs → d = 17 - (m : Int) → Calls Tryz.prog 114 #[.agg cs.toArray, .int .i64 d] w fun e w' => e = .returned (.int .i64 (chk m v)) ∧ Below w.heap.size w w') (hd : d + 1 = 17 - (m : Int)) (hv : IsV (f + 1) w v cs) (q : v.k = 8) (_hd1 : d ≤ 16) (_hd0 : 0 ≤ d) :
    Calls Tryz.prog 114 #[.agg cs.toArray, .int .i64 d] w fun e w' => e = .returned (.int .i64 (chk (m + 1) v)) ∧ Below w.heap.size w w' := by
  obtain ⟨sn, sk, rfl, -, hn64, -, htz, ⟨np, nc, rfl, nl, nc2, nsz, nr⟩, ⟨sp, cap, rfl, hcap1, hcap2, hrow⟩⟩ := hv; have hn : -9223372036854775808 ≤ v.n ∧ v.n ≤ 9223372036854775807 := by simp [Lit.wf, IntKind.min, IntKind.max, IntKind.bits, IntKind.signed] at hn64; omega
  clear hn64; refine enter (args := [.agg (six v (.slice np v.names.length nc) (.slice sp v.kids.length cap)).toArray, .int .i64 d]) Tryz.func114 rfl Tryz.ntmps114 rfl ?_; refine K.kgo ?_; refine WL.box rfl rfl rfl rfl rfl fun g w1 hf => ?_; have hR : VBlk 82 w1 g (six v (.slice np v.names.length nc) (.slice sp v.kids.length cap)) := hf.blk; have hbel : Below w.heap.size w w1 := hf.below; have c0 : w1.cell? ⟨g, 0, none⟩ = some (.int .i64 v.k) := hR.cell 0 (by simp); have c1 : w1.cell? ⟨g, 1, none⟩ = some (.int .i64 v.n) := hR.cell 1 (by simp); have c2 : w1.cell? ⟨g, 2, none⟩ = some (.int .i64 v.s) := hR.cell 2 (by simp); have c3 : w1.cell? ⟨g, 3, none⟩ = some (.string v.t) := hR.cell 3 (by simp); have c4 : w1.cell? ⟨g, 4, none⟩ = some (.slice np v.names.length nc) := hR.cell 4 (by simp); have c5 : w1.cell? ⟨g, 5, none⟩ = some (.slice sp v.kids.length cap) := hR.cell 5 (by simp); clear hf; have hfc := formB_eq v; have hB : bareB v = (decide (v.n = 0) && decide (v.s = 0)) := rfl; have hP : plainB v = (decide (v.names.length = 0) && decide (v.kids.length = 0)) := rfl; have hE := text_ne v; have bad3 : formB v = false → Ending.returned (.int .i64 3) = .returned (.int .i64 (chk (m + 1) v)) ∧ Below w.heap.size w w1 := fun h => ⟨ret_i64 (chk_bad (shp_form3 h) (by decide)).symm, hbel⟩; refine K.kgb ?_; refine WL.as 5 (.bool (!noTextB v)) rfl (congrArg Value.bool hE) ?_; refine WL.mid (fun _ : Unit => [(1, .int .i64 d), (2, .pointer (some ⟨g, 0, none⟩)), (5, .bool (!noTextB v)), (6, .bool (!plainB v))]) (fun _ w' => w1 = w') rfl ?_ ?_
  · by_cases hK : v.kids.length = 0
    · have hK0 : ¬ (0 : Int) < v.kids.length := by omega
      refine WL.as 19 (.bool false) rfl (congrArg Value.bool (decide_eq_false hK0)) ?_
      by_cases hN : v.names.length = 0
      · refine K.kgl ?_
        exact WQ.meet () ⟨rfl, rfl, rfl, congrArg (fun b => some (Value.bool b)) (by rw [hP]; simp [hN, hK]), trivial⟩ rfl
      · refine K.kgl ?_
        exact WQ.meet () ⟨rfl, rfl, rfl, congrArg (fun b => some (Value.bool b)) (by rw [hP]; simp [hN]), trivial⟩ rfl
    · have hK0 : (0 : Int) < v.kids.length := by omega
      refine WL.as 19 (.bool true) rfl (congrArg Value.bool (decide_eq_true hK0)) ?_; refine K.kgl ?_; exact WQ.meet () ⟨rfl, rfl, rfl, congrArg (fun b => some (Value.bool b)) (by rw [hP]; simp [hK]), trivial⟩ rfl
  rintro _ _ rfl; have shp5 : formB v = true → (16384 < v.t.size ∨ 200 < v.kids.length) → shp v = 5 := fun h1 h2 => by unfold shp; rw [if_neg (by rw [h1]; exact Bool.noConfusion), if_pos h2]
  have shp0 : formB v = true → v.t.size ≤ 16384 → v.kids.length ≤ 200 → (v.k = 9 → fieldsB v = true) → shp v = 0 := fun h1 h2 h3 h4 => by
    unfold shp; rw [if_neg (by rw [h1]; exact Bool.noConfusion), if_neg (by omega), if_neg (fun h => by have := h4 h.1; rw [this] at h; exact Bool.noConfusion h.2)]
  have hEt : noTextB v = true → v.t.size = 0 := fun h => of_decide_eq_true h; have hPk : plainB v = true → v.kids.length = 0 := fun h => by rw [hP] at h; rw [Bool.and_eq_true] at h; exact of_decide_eq_true h.2
  have chk0 : shp v = 0 → v.kids.length = 0 → chk (m + 1) v = 0 := fun h1 h2 => by
    unfold chk; rw [if_pos h1, List.eq_nil_of_length_eq_zero h2]
    rfl
  clear hE hP

  clear nr nsz
  by_cases a1 : v.n = 0
  · skip
    by_cases a2 : v.s = 0
    · skip
      cases hE1 : noTextB v with
      | false =>
        rw [hE1] at hfc; refine K.kgl ?_; exact WQ.ret1 rfl rfl (bad3 (by rw [hfc]; simp [formC, *]))
      | true =>
        rw [hE1] at hfc
        by_cases a3 : v.names.length = 0
        · skip
          by_cases a4 : 200 < v.kids.length
          · refine K.kgl ?_
            exact WQ.ret1 rfl rfl ⟨ret_i64 (chk_bad (shp5 (by rw [hfc]; simp [formC, *]) (.inr a4)) (by decide)).symm, hbel⟩
          have h0 : shp v = 0 := shp0 (by rw [hfc]; simp [formC, *]) (by have := hEt hE1; omega) (by omega) (fun h => by omega); have hchk : chk (m + 1) v = firstBad (v.kids.map (chk m)) := by
            conv => lhs; unfold chk
            rw [if_pos h0]
          have hb1 : Below w1.heap.size w1 w1 := Below.refl _ _; refine K.kgl ?_; refine WC.loop (fun i : Nat => [(1, .int .i64 d), (2, .pointer (some ⟨g, 0, none⟩)), (8, .int .i64 i)]) (fun i w' => i ≤ v.kids.length ∧ Below w1.heap.size w1 w' ∧ ∀ j, j < i → chk m (v.kids.getD j noV) = 0) (fun i => v.kids.length - i) 0 ⟨rfl, rfl, rfl, trivial⟩ ⟨Nat.zero_le _, hb1, fun j hj => absurd hj (by omega)⟩ ?_; clear hb1 c0 c1 c2 c3 c4 c5; rintro i wr ⟨hi, hbr, hall⟩; have hgw : g < w1.heap.size := hR.lt; have c5 : wr.cell? ⟨g, 5, none⟩ = some (.slice sp v.kids.length cap) := (hR.below hbr hgw).cell 5 (by simp); have hbelr : Below w.heap.size w wr := hbel.trans (hbr.mono hbel.size)
          by_cases hik : i < v.kids.length
          · obtain ⟨kb, ko, rfl, hkb, hcells⟩ := hrow (by omega)
            obtain ⟨c, hc6, hci, hcr⟩ := hcells i hik; clear hrow hcells; have hcr' : wr.rangeAt kb (ko + i * 6) c := fun j u hu => by rw [hbelr.cell (p := ⟨kb, ko + i * 6 + j, none⟩) hkb]; exact hcr j u hu
            refine K.kgl ?_; refine WL.idx i (ko + i * 6) rfl rfl rfl rfl rfl rfl rfl rfl hik rfl ?_; refine WL.loadMid rfl rfl rfl rfl rfl rfl hcr' hc6 ?_; refine K.kgo ?_; refine WL.call rfl rfl rfl rfl rfl Tryz.func114 rfl (by kernel_rfl) (ih (d + 1) (hci.below hbelr) hd) ?_; rintro e w4 ⟨rfl, hb4⟩; refine ⟨_, rfl, ?_⟩; have hb4' : Below w1.heap.size w1 w4 := hbr.trans (hb4.mono hbr.size)
            by_cases h0 : chk m (v.kids.getD i noV) = 0
            · refine K.kgo ?_
              refine WQ.again (i + 1) ⟨rfl, rfl, rfl, trivial⟩ ⟨hik, hb4', fun j hj => (Nat.lt_succ_iff_lt_or_eq.1 hj).elim (hall j) (fun e => by rw [e]; exact h0)⟩ (by show v.kids.length - (i + 1) < v.kids.length - i; omega)
            · have hfb : chk (m + 1) v = chk m (v.kids.getD i noV) := by
                rw [hchk, firstBad_take (i := i) (by rw [List.length_map]; exact hik) (fun j hj => by rw [chk_map m v.kids j (by omega)]; exact hall j hj) (by rw [chk_map m v.kids i hik]; exact h0), chk_map m v.kids i hik]
              refine K.kgo ?_; exact WQ.ret1 rfl rfl ⟨ret_i64 hfb.symm, hbel.trans (hb4'.mono hbel.size)⟩
          · obtain rfl : i = v.kids.length := by omega
            refine K.kgl ?_; refine WQ.ret1 rfl rfl ⟨ret_i64 ?_, hbelr⟩; rw [hchk]; exact (firstBad_all fun j hj => by rw [List.length_map] at hj; rw [chk_map m v.kids j hj]; exact hall j hj).symm
        · skip
          refine K.kgl ?_; exact WQ.ret1 rfl rfl (bad3 (by rw [hfc]; simp [formC, *]))
    · skip
      refine K.kgl ?_; exact WQ.ret1 rfl rfl (bad3 (by rw [hfc]; simp [formC, *]))
  · skip
    refine K.kgl ?_; exact WQ.ret1 rfl rfl (bad3 (by rw [hfc]; simp [formC, *]))

set_option maxRecDepth 100000 in
set_option maxHeartbeats 16000000 in
theorem rchk_k9 {f : Nat} {w : World} {v : V} {cs : List Value} {m : Nat} {d : Int} (ih : ∀ {w : World} {v : V} {cs : List Value} (d : Int), IsV f w v cs → d = 17 - (m : Int) → Calls Tryz.prog 114 #[.agg cs.toArray, .int .i64 d] w fun e w' => e = .returned (.int .i64 (chk m v)) ∧ Below w.heap.size w w') (hd : d + 1 = 17 - (m : Int)) (hv : IsV (f + 1) w v cs) (q : v.k = 9) (_hd1 : d ≤ 16) (_hd0 : 0 ≤ d) :
    Calls Tryz.prog 114 #[.agg cs.toArray, .int .i64 d] w fun e w' => e = .returned (.int .i64 (chk (m + 1) v)) ∧ Below w.heap.size w w' := by
  obtain ⟨sn, sk, rfl, -, hn64, -, htz, ⟨np, nc, rfl, nl, nc2, nsz, nr⟩, ⟨sp, cap, rfl, hcap1, hcap2, hrow⟩⟩ := hv; have hn : -9223372036854775808 ≤ v.n ∧ v.n ≤ 9223372036854775807 := by simp [Lit.wf, IntKind.min, IntKind.max, IntKind.bits, IntKind.signed] at hn64; omega
  clear hn64; refine enter (args := [.agg (six v (.slice np v.names.length nc) (.slice sp v.kids.length cap)).toArray, .int .i64 d]) Tryz.func114 rfl Tryz.ntmps114 rfl ?_; refine K.kgo ?_; refine WL.box rfl rfl rfl rfl rfl fun g w1 hf => ?_; have hR : VBlk 82 w1 g (six v (.slice np v.names.length nc) (.slice sp v.kids.length cap)) := hf.blk; have hbel : Below w.heap.size w w1 := hf.below; have c0 : w1.cell? ⟨g, 0, none⟩ = some (.int .i64 v.k) := hR.cell 0 (by simp); have c1 : w1.cell? ⟨g, 1, none⟩ = some (.int .i64 v.n) := hR.cell 1 (by simp); have c2 : w1.cell? ⟨g, 2, none⟩ = some (.int .i64 v.s) := hR.cell 2 (by simp); have c3 : w1.cell? ⟨g, 3, none⟩ = some (.string v.t) := hR.cell 3 (by simp); have c4 : w1.cell? ⟨g, 4, none⟩ = some (.slice np v.names.length nc) := hR.cell 4 (by simp); have c5 : w1.cell? ⟨g, 5, none⟩ = some (.slice sp v.kids.length cap) := hR.cell 5 (by simp); clear hf; have hfc := formB_eq v; have hB : bareB v = (decide (v.n = 0) && decide (v.s = 0)) := rfl; have hP : plainB v = (decide (v.names.length = 0) && decide (v.kids.length = 0)) := rfl; have hE := text_ne v; have bad3 : formB v = false → Ending.returned (.int .i64 3) = .returned (.int .i64 (chk (m + 1) v)) ∧ Below w.heap.size w w1 := fun h => ⟨ret_i64 (chk_bad (shp_form3 h) (by decide)).symm, hbel⟩; refine K.kgb ?_; refine WL.as 5 (.bool (!noTextB v)) rfl (congrArg Value.bool hE) ?_; refine WL.mid (fun _ : Unit => [(1, .int .i64 d), (2, .pointer (some ⟨g, 0, none⟩)), (5, .bool (!noTextB v)), (6, .bool (!plainB v))]) (fun _ w' => w1 = w') rfl ?_ ?_
  · by_cases hK : v.kids.length = 0
    · have hK0 : ¬ (0 : Int) < v.kids.length := by omega
      refine WL.as 19 (.bool false) rfl (congrArg Value.bool (decide_eq_false hK0)) ?_
      by_cases hN : v.names.length = 0
      · refine K.kgl ?_
        exact WQ.meet () ⟨rfl, rfl, rfl, congrArg (fun b => some (Value.bool b)) (by rw [hP]; simp [hN, hK]), trivial⟩ rfl
      · refine K.kgl ?_
        exact WQ.meet () ⟨rfl, rfl, rfl, congrArg (fun b => some (Value.bool b)) (by rw [hP]; simp [hN]), trivial⟩ rfl
    · have hK0 : (0 : Int) < v.kids.length := by omega
      refine WL.as 19 (.bool true) rfl (congrArg Value.bool (decide_eq_true hK0)) ?_; refine K.kgl ?_; exact WQ.meet () ⟨rfl, rfl, rfl, congrArg (fun b => some (Value.bool b)) (by rw [hP]; simp [hK]), trivial⟩ rfl
  rintro _ _ rfl; have shp5 : formB v = true → (16384 < v.t.size ∨ 200 < v.kids.length) → shp v = 5 := fun h1 h2 => by unfold shp; rw [if_neg (by rw [h1]; exact Bool.noConfusion), if_pos h2]
  have shp0 : formB v = true → v.t.size ≤ 16384 → v.kids.length ≤ 200 → (v.k = 9 → fieldsB v = true) → shp v = 0 := fun h1 h2 h3 h4 => by
    unfold shp; rw [if_neg (by rw [h1]; exact Bool.noConfusion), if_neg (by omega), if_neg (fun h => by have := h4 h.1; rw [this] at h; exact Bool.noConfusion h.2)]
  have hEt : noTextB v = true → v.t.size = 0 := fun h => of_decide_eq_true h; have hPk : plainB v = true → v.kids.length = 0 := fun h => by rw [hP] at h; rw [Bool.and_eq_true] at h; exact of_decide_eq_true h.2
  have chk0 : shp v = 0 → v.kids.length = 0 → chk (m + 1) v = 0 := fun h1 h2 => by
    unfold chk; rw [if_pos h1, List.eq_nil_of_length_eq_zero h2]
    rfl
  clear hE hP

  by_cases a1 : v.n = 0
  · skip
    by_cases a2 : v.s = 0
    · skip
      cases hE1 : noTextB v with
      | false =>
        rw [hE1] at hfc; refine K.kgl ?_; exact WQ.ret1 rfl rfl (bad3 (by rw [hfc]; simp [formC, *]))
      | true =>
        rw [hE1] at hfc; have hform : formB v = true := by rw [hfc]; simp [formC, *]
        by_cases a4 : 200 < v.kids.length
        · refine K.kgl ?_
          exact WQ.ret1 rfl rfl ⟨ret_i64 (chk_bad (shp5 hform (.inr a4)) (by decide)).symm, hbel⟩
        have hfi := fields_iff v; have shp3 : fieldsB v = false → shp v = 3 := fun h => by
          unfold shp; rw [if_neg (by rw [hform]; exact Bool.noConfusion), if_neg (by have := hEt hE1; omega), if_pos ⟨q, h⟩]
        by_cases a5 : v.names.length = v.kids.length
        · refine K.kgl ?_
          refine WC.loop (fun i : Nat => [(1, .int .i64 d), (2, .pointer (some ⟨g, 0, none⟩)), (7, .int .i64 i)]) (fun i w' => i ≤ v.names.length ∧ Below w1.heap.size w1 w' ∧ ∀ j, j < i → okN v.names j = true) (fun i => v.names.length - i) 0 ⟨rfl, rfl, rfl, trivial⟩ ⟨Nat.zero_le _, Below.refl _ _, fun j hj => absurd hj (by omega)⟩ ?_; rintro i wz ⟨hi, hbz, hall⟩; have hgw : g < w1.heap.size := hR.lt; have hRz : VBlk 82 wz g (six v (.slice np v.names.length nc) (.slice sp v.kids.length cap)) := hR.below hbz hgw; have hbelz : Below w.heap.size w wz := hbel.trans (hbz.mono hbel.size); have z4 : wz.cell? ⟨g, 4, none⟩ = some (.slice np v.names.length nc) := hRz.cell 4 (by simp)
          by_cases hin : i < v.names.length
          · obtain ⟨nb, no, rfl, hnb, hnr⟩ := nr (by omega)
            have hnc := hnr i hin; have hnp := hnr (i - 1) (by omega); have hnz := nsz i hin; clear hnr nr hrow nsz; have hok : okN v.names i = (isNameB (v.names.getD i noT) && (decide (i = 0) || Op.bytesLess (v.names.getD (i - 1) noT).toList (v.names.getD i noT).toList)) := rfl; have hleq := Vl.leq_not (v.names.getD i noT).toList (v.names.getD (i - 1) noT).toList; have hnm : isNameB (v.names.getD i noT) = (decide (1 ≤ (v.names.getD i noT).size) && decide ((v.names.getD i noT).size ≤ 40)) := rfl; have badn : okN v.names i = false → Ending.returned (.int .i64 3) = .returned (.int .i64 (chk (m + 1) v)) := fun h => ret_i64 (chk_bad (shp3 (by
              cases hf : fieldsB v with
              | false => rfl
              | true => have := (hfi.1 hf).1 i hin; rw [h] at this; cases this)) (by decide)).symm
            generalize v.names.getD i noT = nm at hnc hnz hok hleq hnm; generalize v.names.getD (i - 1) noT = pm at hnp hok hleq; refine K.kgl ?_; refine WC.drawn 33 (fun wx => Below w.heap.size w wx ∧ VBlk 82 wx g (six v (.slice (some ⟨nb, no, none⟩) v.names.length nc) (.slice sp v.kids.length cap))) fun w2 hd2 => ?_; have hS : Below w.heap.size w w2 ∧ VBlk 82 w2 g (six v (.slice (some ⟨nb, no, none⟩) v.names.length nc) (.slice sp v.kids.length cap)) := ⟨hbelz.trans (hd2.below _), hRz.below (hd2.below _) hRz.lt⟩; have hb2 : Below w1.heap.size w1 w2 := hbz.trans (hd2.below _)
            by_cases x1 : nm.size < 1
            · skip
              refine K.fr [0] hS ?_; refine K.wl 1 [3, 4, 5, 6, 7, 8, 9, 10, 11, 12, 13, 14, 15, 16, 17, 18, 19, 20, 21, 22, 23, 24, 25, 26, 27, 28, 29, 30, 31, 32, 33] rfl rfl rfl rfl rfl rfl rfl (fun wx hx => hx.2.cell 4 (by simp)) hS ?_; refine K.fr [2] hS ?_; refine K.wi 3 i (no + i) rfl rfl rfl rfl rfl rfl rfl rfl rfl (by omega) (by omega) (.inr hS) ?_; refine K.wl 4 [5, 6, 7, 8, 9, 10, 11, 12, 13, 14, 15, 16, 17, 18, 19, 20, 21, 22, 23, 24, 25, 26, 27, 28, 29, 30, 31, 32, 33] rfl rfl rfl rfl rfl rfl rfl (fun wx hx => (hx.1.cell (p := ⟨nb, no + i, none⟩) hnb).trans hnc) hS ?_; refine K.fr [5, 6, 7, 8] hS ?_; refine K.fr [9, 10, 11, 12, 13, 14, 15, 16] hS ?_; refine K.fr [17, 18, 19, 20] hS ?_; refine K.fr [21, 22, 23, 24, 25, 26, 27, 28, 29, 30, 31, 32] hS ?_; refine K.wo 33 ?_; refine WL.pure rfl rfl rfl rfl ?_; refine K.dl ?_; refine WD.done (by kernel_rfl) ?_; refine K.kgo ?_; exact WQ.ret1 rfl rfl ⟨badn (by rw [hok, hnm, decide_eq_false (by omega)]; rfl), hS.1⟩
            by_cases x2 : 40 < nm.size
            · skip
              refine K.fr [0] hS ?_; refine K.wl 1 [3, 4, 5, 6, 7, 8, 9, 10, 11, 12, 13, 14, 15, 16, 17, 18, 19, 20, 21, 22, 23, 24, 25, 26, 27, 28, 29, 30, 31, 32, 33] rfl rfl rfl rfl rfl rfl rfl (fun wx hx => hx.2.cell 4 (by simp)) hS ?_; refine K.fr [2] hS ?_; refine K.wi 3 i (no + i) rfl rfl rfl rfl rfl rfl rfl rfl rfl (by omega) (by omega) (.inr hS) ?_; refine K.wl 4 [5, 6, 7, 8, 9, 10, 11, 12, 13, 14, 15, 16, 17, 18, 19, 20, 21, 22, 23, 24, 25, 26, 27, 28, 29, 30, 31, 32, 33] rfl rfl rfl rfl rfl rfl rfl (fun wx hx => (hx.1.cell (p := ⟨nb, no + i, none⟩) hnb).trans hnc) hS ?_; refine K.fr [5, 6, 7, 8] hS ?_; refine K.wl 9 [11, 12, 13, 14, 15, 16, 17, 18, 19, 20, 21, 22, 23, 24, 25, 26, 27, 28, 29, 30, 31, 32, 33] rfl rfl rfl rfl rfl rfl rfl (fun wx hx => hx.2.cell 4 (by simp)) hS ?_; refine K.fr [10] hS ?_; refine K.wi 11 i (no + i) rfl rfl rfl rfl rfl rfl rfl rfl rfl (by omega) (by omega) (.inr hS) ?_; refine K.wl 12 [13, 14, 15, 16, 17, 18, 19, 20, 21, 22, 23, 24, 25, 26, 27, 28, 29, 30, 31, 32, 33] rfl rfl rfl rfl rfl rfl rfl (fun wx hx => (hx.1.cell (p := ⟨nb, no + i, none⟩) hnb).trans hnc) hS ?_; refine K.fr [13, 14, 15, 16] hS ?_; refine K.fr [17, 18, 19, 20] hS ?_; refine K.fr [21, 22, 23, 24, 25, 26, 27, 28, 29, 30, 31, 32] hS ?_; refine K.wo 33 ?_; refine WL.pure rfl rfl rfl rfl ?_; refine K.dl ?_; refine WD.done (by kernel_rfl) ?_; refine K.kgo ?_; exact WQ.ret1 rfl rfl ⟨badn (by rw [hok, hnm, decide_eq_false (show ¬ nm.size ≤ 40 by omega), Bool.and_false]; rfl), hS.1⟩
            have hnm1 : isNameB nm = true := by rw [hnm, decide_eq_true (by omega), decide_eq_true (by omega)]; rfl
            by_cases x3 : i = 0
            · skip
              refine K.fr [0] hS ?_; refine K.wl 1 [3, 4, 5, 6, 7, 8, 9, 10, 11, 12, 13, 14, 15, 16, 17, 18, 19, 20, 21, 22, 23, 24, 25, 26, 27, 28, 29, 30, 31, 32, 33] rfl rfl rfl rfl rfl rfl rfl (fun wx hx => hx.2.cell 4 (by simp)) hS ?_; refine K.fr [2] hS ?_; refine K.wi 3 i (no + i) rfl rfl rfl rfl rfl rfl rfl rfl rfl (by omega) (by omega) (.inr hS) ?_; refine K.wl 4 [5, 6, 7, 8, 9, 10, 11, 12, 13, 14, 15, 16, 17, 18, 19, 20, 21, 22, 23, 24, 25, 26, 27, 28, 29, 30, 31, 32, 33] rfl rfl rfl rfl rfl rfl rfl (fun wx hx => (hx.1.cell (p := ⟨nb, no + i, none⟩) hnb).trans hnc) hS ?_; refine K.fr [5, 6, 7, 8] hS ?_; refine K.wl 9 [11, 12, 13, 14, 15, 16, 17, 18, 19, 20, 21, 22, 23, 24, 25, 26, 27, 28, 29, 30, 31, 32, 33] rfl rfl rfl rfl rfl rfl rfl (fun wx hx => hx.2.cell 4 (by simp)) hS ?_; refine K.fr [10] hS ?_; refine K.wi 11 i (no + i) rfl rfl rfl rfl rfl rfl rfl rfl rfl (by omega) (by omega) (.inr hS) ?_; refine K.wl 12 [13, 14, 15, 16, 17, 18, 19, 20, 21, 22, 23, 24, 25, 26, 27, 28, 29, 30, 31, 32, 33] rfl rfl rfl rfl rfl rfl rfl (fun wx hx => (hx.1.cell (p := ⟨nb, no + i, none⟩) hnb).trans hnc) hS ?_; refine K.fr [13, 14, 15, 16] hS ?_; refine K.fr [17, 18, 19, 20] hS ?_; refine K.fr [21, 22, 23, 24, 25, 26, 27, 28, 29, 30, 31, 32] hS ?_; refine K.wo 33 ?_; refine WL.pure rfl rfl rfl rfl ?_; refine K.dl ?_; refine WD.done (by kernel_rfl) ?_; refine K.kgo ?_; refine WQ.again (i + 1) ⟨rfl, rfl, rfl, trivial⟩ ⟨hin, hb2, fun j hj => (Nat.lt_succ_iff_lt_or_eq.1 hj).elim (hall j) (fun e => by rw [e]; rw [hok, hnm1, x3]; rfl)⟩ (by show v.names.length - (i + 1) < v.names.length - i; omega)
            have hw : IntKind.i64.wrap ((i : Int) - 1) = ((i - 1 : Nat) : Int) := by rw [IntWalk.i64_in _ (by omega)]; omega
            cases hlt : Op.bytesLess pm.toList nm.toList with
            | true =>
              rw [hlt] at hleq hok; refine K.fr [0] hS ?_; refine K.wl 1 [3, 4, 5, 6, 7, 8, 9, 10, 11, 12, 13, 14, 15, 16, 17, 18, 19, 20, 21, 22, 23, 24, 25, 26, 27, 28, 29, 30, 31, 32, 33] rfl rfl rfl rfl rfl rfl rfl (fun wx hx => hx.2.cell 4 (by simp)) hS ?_; refine K.fr [2] hS ?_; refine K.wi 3 i (no + i) rfl rfl rfl rfl rfl rfl rfl rfl rfl (by omega) (by omega) (.inr hS) ?_; refine K.wl 4 [5, 6, 7, 8, 9, 10, 11, 12, 13, 14, 15, 16, 17, 18, 19, 20, 21, 22, 23, 24, 25, 26, 27, 28, 29, 30, 31, 32, 33] rfl rfl rfl rfl rfl rfl rfl (fun wx hx => (hx.1.cell (p := ⟨nb, no + i, none⟩) hnb).trans hnc) hS ?_; refine K.fr [5, 6, 7, 8] hS ?_; refine K.wl 9 [11, 12, 13, 14, 15, 16, 17, 18, 19, 20, 21, 22, 23, 24, 25, 26, 27, 28, 29, 30, 31, 32, 33] rfl rfl rfl rfl rfl rfl rfl (fun wx hx => hx.2.cell 4 (by simp)) hS ?_; refine K.fr [10] hS ?_; refine K.wi 11 i (no + i) rfl rfl rfl rfl rfl rfl rfl rfl rfl (by omega) (by omega) (.inr hS) ?_; refine K.wl 12 [13, 14, 15, 16, 17, 18, 19, 20, 21, 22, 23, 24, 25, 26, 27, 28, 29, 30, 31, 32, 33] rfl rfl rfl rfl rfl rfl rfl (fun wx hx => (hx.1.cell (p := ⟨nb, no + i, none⟩) hnb).trans hnc) hS ?_; refine K.fr [13, 14, 15, 16] hS ?_; refine K.fr [17, 18, 19, 20] hS ?_; refine K.wl 21 [23, 24, 31, 32, 33] rfl rfl rfl rfl rfl rfl rfl (fun wx hx => hx.2.cell 4 (by simp)) hS ?_; refine K.fr [22] hS ?_; refine K.wi 23 i (no + i) rfl rfl rfl rfl rfl rfl rfl rfl rfl (by omega) (by omega) (.inr hS) ?_; refine K.wl 24 [31, 32, 33] rfl rfl rfl rfl rfl rfl rfl (fun wx hx => (hx.1.cell (p := ⟨nb, no + i, none⟩) hnb).trans hnc) hS ?_; refine K.fr [25] hS ?_; refine K.wl 26 [29, 30, 31, 32, 33] rfl rfl rfl rfl rfl rfl rfl (fun wx hx => hx.2.cell 4 (by simp)) hS ?_; refine K.fr [27, 28] hS ?_; refine K.wi 29 (i - 1) (no + (i - 1)) rfl rfl rfl rfl rfl rfl rfl rfl (by omega) (by omega) (by omega) (.inr hS) ?_; refine K.wl 30 [31, 32, 33] rfl rfl rfl rfl rfl rfl rfl (fun wx hx => (hx.1.cell (p := ⟨nb, no + (i - 1), none⟩) hnb).trans hnp) hS ?_; refine K.fr [31, 32] hS ?_; refine K.wo 33 ?_; refine WL.pure rfl rfl rfl rfl ?_; refine K.dl ?_; refine WD.done (by kernel_rfl) ?_; refine K.kgn ?_; refine WC.as 215 (.bool false) rfl (congrArg Value.bool hleq) ?_; refine K.kgo ?_; refine WQ.again (i + 1) ⟨rfl, rfl, rfl, trivial⟩ ⟨hin, hb2, fun j hj => (Nat.lt_succ_iff_lt_or_eq.1 hj).elim (hall j) (fun e => by rw [e]; rw [hok, hnm1]; simp)⟩ (by show v.names.length - (i + 1) < v.names.length - i; omega)
            | false =>
              rw [hlt] at hleq hok; refine K.fr [0] hS ?_; refine K.wl 1 [3, 4, 5, 6, 7, 8, 9, 10, 11, 12, 13, 14, 15, 16, 17, 18, 19, 20, 21, 22, 23, 24, 25, 26, 27, 28, 29, 30, 31, 32, 33] rfl rfl rfl rfl rfl rfl rfl (fun wx hx => hx.2.cell 4 (by simp)) hS ?_; refine K.fr [2] hS ?_; refine K.wi 3 i (no + i) rfl rfl rfl rfl rfl rfl rfl rfl rfl (by omega) (by omega) (.inr hS) ?_; refine K.wl 4 [5, 6, 7, 8, 9, 10, 11, 12, 13, 14, 15, 16, 17, 18, 19, 20, 21, 22, 23, 24, 25, 26, 27, 28, 29, 30, 31, 32, 33] rfl rfl rfl rfl rfl rfl rfl (fun wx hx => (hx.1.cell (p := ⟨nb, no + i, none⟩) hnb).trans hnc) hS ?_; refine K.fr [5, 6, 7, 8] hS ?_; refine K.wl 9 [11, 12, 13, 14, 15, 16, 17, 18, 19, 20, 21, 22, 23, 24, 25, 26, 27, 28, 29, 30, 31, 32, 33] rfl rfl rfl rfl rfl rfl rfl (fun wx hx => hx.2.cell 4 (by simp)) hS ?_; refine K.fr [10] hS ?_; refine K.wi 11 i (no + i) rfl rfl rfl rfl rfl rfl rfl rfl rfl (by omega) (by omega) (.inr hS) ?_; refine K.wl 12 [13, 14, 15, 16, 17, 18, 19, 20, 21, 22, 23, 24, 25, 26, 27, 28, 29, 30, 31, 32, 33] rfl rfl rfl rfl rfl rfl rfl (fun wx hx => (hx.1.cell (p := ⟨nb, no + i, none⟩) hnb).trans hnc) hS ?_; refine K.fr [13, 14, 15, 16] hS ?_; refine K.fr [17, 18, 19, 20] hS ?_; refine K.wl 21 [23, 24, 31, 32, 33] rfl rfl rfl rfl rfl rfl rfl (fun wx hx => hx.2.cell 4 (by simp)) hS ?_; refine K.fr [22] hS ?_; refine K.wi 23 i (no + i) rfl rfl rfl rfl rfl rfl rfl rfl rfl (by omega) (by omega) (.inr hS) ?_; refine K.wl 24 [31, 32, 33] rfl rfl rfl rfl rfl rfl rfl (fun wx hx => (hx.1.cell (p := ⟨nb, no + i, none⟩) hnb).trans hnc) hS ?_; refine K.fr [25] hS ?_; refine K.wl 26 [29, 30, 31, 32, 33] rfl rfl rfl rfl rfl rfl rfl (fun wx hx => hx.2.cell 4 (by simp)) hS ?_; refine K.fr [27, 28] hS ?_; refine K.wi 29 (i - 1) (no + (i - 1)) rfl rfl rfl rfl rfl rfl rfl rfl (by omega) (by omega) (by omega) (.inr hS) ?_; refine K.wl 30 [31, 32, 33] rfl rfl rfl rfl rfl rfl rfl (fun wx hx => (hx.1.cell (p := ⟨nb, no + (i - 1), none⟩) hnb).trans hnp) hS ?_; refine K.fr [31, 32] hS ?_; refine K.wo 33 ?_; refine WL.pure rfl rfl rfl rfl ?_; refine K.dl ?_; refine WD.done (by kernel_rfl) ?_; refine K.kgn ?_; refine WC.as 215 (.bool true) rfl (congrArg Value.bool hleq) ?_; refine K.kgo ?_; exact WQ.ret1 rfl rfl ⟨badn (by rw [hok, hnm1, decide_eq_false x3]; rfl), hS.1⟩
          · obtain rfl : i = v.names.length := by omega
            have hff : fieldsB v = true := hfi.2 ⟨hall, a5⟩; have h0 : shp v = 0 := shp0 hform (by have := hEt hE1; omega) (by omega) (fun _ => hff); have hchk : chk (m + 1) v = firstBad (v.kids.map (chk m)) := by
              conv => lhs; unfold chk
              rw [if_pos h0]
            clear hfi hall nr nsz; refine K.kgl ?_; have hb1 := hbz; refine WC.loop (fun i : Nat => [(1, .int .i64 d), (2, .pointer (some ⟨g, 0, none⟩)), (8, .int .i64 i)]) (fun i w' => i ≤ v.kids.length ∧ Below w1.heap.size w1 w' ∧ ∀ j, j < i → chk m (v.kids.getD j noV) = 0) (fun i => v.kids.length - i) 0 ⟨rfl, rfl, rfl, trivial⟩ ⟨Nat.zero_le _, hb1, fun j hj => absurd hj (by omega)⟩ ?_; clear hb1 c0 c1 c2 c3 c4 c5; rintro i wr ⟨hi, hbr, hall⟩; have hgw : g < w1.heap.size := hR.lt; have c5 : wr.cell? ⟨g, 5, none⟩ = some (.slice sp v.kids.length cap) := (hR.below hbr hgw).cell 5 (by simp); have hbelr : Below w.heap.size w wr := hbel.trans (hbr.mono hbel.size)
            by_cases hik : i < v.kids.length
            · obtain ⟨kb, ko, rfl, hkb, hcells⟩ := hrow (by omega)
              obtain ⟨c, hc6, hci, hcr⟩ := hcells i hik; clear hrow hcells; have hcr' : wr.rangeAt kb (ko + i * 6) c := fun j u hu => by rw [hbelr.cell (p := ⟨kb, ko + i * 6 + j, none⟩) hkb]; exact hcr j u hu
              refine K.kgl ?_; refine WL.idx i (ko + i * 6) rfl rfl rfl rfl rfl rfl rfl rfl hik rfl ?_; refine WL.loadMid rfl rfl rfl rfl rfl rfl hcr' hc6 ?_; refine K.kgo ?_; refine WL.call rfl rfl rfl rfl rfl Tryz.func114 rfl (by kernel_rfl) (ih (d + 1) (hci.below hbelr) hd) ?_; rintro e w4 ⟨rfl, hb4⟩; refine ⟨_, rfl, ?_⟩; have hb4' : Below w1.heap.size w1 w4 := hbr.trans (hb4.mono hbr.size)
              by_cases h0 : chk m (v.kids.getD i noV) = 0
              · refine K.kgo ?_
                refine WQ.again (i + 1) ⟨rfl, rfl, rfl, trivial⟩ ⟨hik, hb4', fun j hj => (Nat.lt_succ_iff_lt_or_eq.1 hj).elim (hall j) (fun e => by rw [e]; exact h0)⟩ (by show v.kids.length - (i + 1) < v.kids.length - i; omega)
              · have hfb : chk (m + 1) v = chk m (v.kids.getD i noV) := by
                  rw [hchk, firstBad_take (i := i) (by rw [List.length_map]; exact hik) (fun j hj => by rw [chk_map m v.kids j (by omega)]; exact hall j hj) (by rw [chk_map m v.kids i hik]; exact h0), chk_map m v.kids i hik]
                refine K.kgo ?_; exact WQ.ret1 rfl rfl ⟨ret_i64 hfb.symm, hbel.trans (hb4'.mono hbel.size)⟩
            · obtain rfl : i = v.kids.length := by omega
              refine K.kgl ?_; refine WQ.ret1 rfl rfl ⟨ret_i64 ?_, hbelr⟩; rw [hchk]; exact (firstBad_all fun j hj => by rw [List.length_map] at hj; rw [chk_map m v.kids j hj]; exact hall j hj).symm
        · have hff : fieldsB v = false := by cases h : fieldsB v with | false => rfl | true => exact (a5 (hfi.1 h).2).elim
          refine K.kgl ?_; exact WQ.ret1 rfl rfl ⟨ret_i64 (chk_bad (shp3 hff) (by decide)).symm, hbel⟩
    · skip
      refine K.kgl ?_; exact WQ.ret1 rfl rfl (bad3 (by rw [hfc]; simp [formC, *]))
  · skip
    refine K.kgl ?_; exact WQ.ret1 rfl rfl (bad3 (by rw [hfc]; simp [formC, *]))

theorem rcheck_any : ∀ {f : Nat} {w : World} {v : V} {cs : List Value} (m : Nat) (d : Int), IsV f w v cs → m ≤ 16 → d = 17 - (m : Int) →
    Calls Tryz.prog 114 #[.agg cs.toArray, .int .i64 d] w fun e w' => e = .returned (.int .i64 (chk m v)) ∧ Below w.heap.size w w'
  | 0, _, _, _, _, _, h, _, _ => h.elim
  | f + 1, w, v, cs, 0, d, hv, _, hd => by
    refine enter (args := [.agg cs.toArray, .int .i64 d]) Tryz.func114 rfl Tryz.ntmps114 rfl ?_; have hd1 : 16 < d := by omega
    refine K.kgo ?_; refine WL.box rfl rfl rfl rfl rfl fun g w1 hf => ?_; refine K.kgo ?_; exact WQ.ret1 rfl rfl ⟨rfl, hf.below⟩
  | f + 1, w, v, cs, m + 1, d, hv, hm, hd => by
    have ih := fun {w : World} {v : V} {cs : List Value} (d : Int) (h1 : IsV f w v cs) (h2 : d = 17 - (m : Int)) => @rcheck_any f w v cs m d h1 (by omega) h2; have hd1 : d ≤ 16 := by omega
    have hd0 : 0 ≤ d := by omega
    by_cases q1 : v.k = 1
    · exact rchk_k1 hv q1 hd1 hd0
    by_cases q2 : v.k = 2
    · exact rchk_k2 hv q2 hd1 hd0
    by_cases q3 : v.k = 3
    · exact rchk_k3 hv q3 hd1 hd0
    by_cases q4 : v.k = 4
    · exact rchk_k4 hv q4 hd1 hd0
    by_cases q5 : v.k = 5
    · exact rchk_k5 hv q5 hd1 hd0
    by_cases q67 : v.k = 6 ∨ v.k = 7
    · exact rchk_k67 hv q67 hd1 hd0
    by_cases q8 : v.k = 8
    · exact rchk_k8 ih (by omega) hv q8 hd1 hd0
    by_cases q9 : v.k = 9
    · exact rchk_k9 ih (by omega) hv q9 hd1 hd0
    exact rchk_kx hv (by omega) hd1 hd0
theorem rCheck_any {f : Nat} {w : World} {v : V} {cs : List Value} (h : IsV f w v cs) :
    Calls Tryz.prog 83 #[.agg cs.toArray] w fun e w' => e = .returned (.int .i64 (chk 16 v)) ∧ Below w.heap.size w w' := by
  refine enter (args := [.agg cs.toArray]) Tryz.func83 rfl Tryz.ntmps83 rfl ?_; refine K.kgo ?_; refine WL.box rfl rfl rfl rfl rfl fun g w1 hf => ?_; have hf' : Fresh w g w1 82 cs := hf; refine K.kgo ?_; refine WL.loadMid rfl rfl rfl rfl rfl rfl (VBlk.rangeAt hf'.blk) h.len ?_; refine WL.call rfl rfl rfl rfl rfl Tryz.func114 rfl (by kernel_rfl) (rcheck_any 16 1 (h.below hf'.below) (by omega) (by omega)) ?_; rintro e w2 ⟨rfl, hb2⟩; refine ⟨_, rfl, ?_⟩; refine K.kgo ?_; exact WQ.ret1 rfl rfl ⟨rfl, hf'.below.trans (hb2.mono hf'.below.size)⟩
end K
end Go.Proofs.YtpfkcfaifleliaaGreat

namespace Go.Proofs.YtpfkcfaifleliaaGreat
open Go.RowKit
namespace K
set_option maxHeartbeats 1000000 in
theorem rreadU_any {w : World} {v : Value} {l : List Int} (hs : Sl .u8 w v l) (hb : Byt l) :
    Calls Tryz.prog 94 #[v] w fun e w' => e = .returned (.tuple (ruV l).toArray) ∧ w' = w := by
  refine enter (args := [v]) Tryz.func94 rfl Tryz.ntmps94 rfl ?_; have hs0 := hs; obtain ⟨sp, cap, rfl, hc1, hc2, -, -⟩ := hs; refine K.kgo ?_; refine WC.loop (fun i : Nat × Int => [(0, .slice sp l.length cap), (5, .int .u64 i.2), (6, .int .i64 i.1)])
    (fun i w' => w' = w ∧ ((i.1 ≤ 9 ∧ i.1 ≤ l.length ∧ ∃ a : Nat, i.2 = (a : Int) ∧ a < 128 ^ i.1 ∧ rdU l = (rdUF (10 - i.1) (decide (0 < i.1)) (l.drop i.1)).bind fun v r => .ok (a + 128 ^ i.1 * v) r) ∨ (i.1 = 10 ∧ rdU l = .bad 3))) (fun i => 10 - i.1) (0, 0) ⟨rfl, rfl, rfl, trivial⟩
    ⟨rfl, .inl ⟨by omega, by omega, 0, rfl, by simp, by
      show rdUF 10 false l = _
      cases h : rdUF 10 false l with
      | ok a r => simp [Rd.bind, h]
      | bad e => simp [Rd.bind, h]⟩⟩ ?_
  rintro ⟨i, vz⟩ wr ⟨rfl, hW⟩; simp only at hW ⊢; rcases hW with ⟨hi9, hil, a, rfl, ha, hR⟩ | ⟨rfl, hR⟩
  case inr =>
    have hfin : ruV l = [.int .u64 0, .int .i64 0, .int .i64 3] := by unfold ruV; rw [hR]
    refine K.kgo ?_; refine WQ.ret3 rfl rfl rfl rfl ⟨by rw [hfin], rfl⟩
  by_cases hik : i < l.length
  · have hdr : l.drop i = nth l i :: l.drop (i + 1) := by rw [List.drop_eq_getElem_cons hik]; simp [nth, hik]
    have hc := hb (nth l i) (by unfold nth; simp [hik]); rw [hdr] at hR; generalize hcc : nth l i = c at hR hc; rw [show 10 - i = (9 - i) + 1 by omega] at hR; unfold rdUF at hR
    by_cases hbad : (9 - i = 0 ∧ 1 < c) ∨ (decide (0 < i) = true ∧ c = 0)
    · rw [if_pos hbad] at hR
      have hfin : ruV l = [.int .u64 0, .int .i64 0, .int .i64 3] := by unfold ruV; rw [hR]; rfl
      by_cases h1 : i = 9
      · subst h1
        by_cases h2 : 127 < c
        · refine K.kgo ?_
          refine WL.idxI 9 rfl rfl rfl rfl rfl rfl hs0 rfl rfl hik fun p hp => ?_; rw [hcc] at hp; refine K.kgl ?_; refine WL.idxI 9 rfl rfl rfl rfl rfl rfl hs0 rfl rfl hik fun p hp => ?_; rw [hcc] at hp; refine K.kgl ?_; refine WQ.again (10, _) ⟨rfl, rfl, rfl, trivial⟩ ⟨rfl, .inr ⟨rfl, hR⟩⟩ (by show 10 - 10 < 10 - 9; omega)
        · by_cases h3 : 1 < c
          · refine K.kgo ?_
            refine WL.idxI 9 rfl rfl rfl rfl rfl rfl hs0 rfl rfl hik fun p hp => ?_; rw [hcc] at hp; refine K.kgl ?_; refine WL.idxI 9 rfl rfl rfl rfl rfl rfl hs0 rfl rfl hik fun p hp => ?_; rw [hcc] at hp; refine K.kgl ?_; refine WL.idxI 9 rfl rfl rfl rfl rfl rfl hs0 rfl rfl hik fun p hp => ?_; rw [hcc] at hp; refine K.kgl ?_; refine WQ.ret3 rfl rfl rfl rfl ⟨by rw [hfin], rfl⟩
          · have hc0 : c = 0 := by simp at hbad; omega
            refine K.kgo ?_; refine WL.idxI 9 rfl rfl rfl rfl rfl rfl hs0 rfl rfl hik fun p hp => ?_; rw [hcc] at hp; refine K.kgl ?_; refine WL.idxI 9 rfl rfl rfl rfl rfl rfl hs0 rfl rfl hik fun p hp => ?_; rw [hcc] at hp; refine K.kgl ?_; refine WL.idxI 9 rfl rfl rfl rfl rfl rfl hs0 rfl rfl hik fun p hp => ?_; rw [hcc] at hp; refine K.kgl ?_; refine WL.idxI 9 rfl rfl rfl rfl rfl rfl hs0 rfl rfl hik fun p hp => ?_; rw [hcc] at hp; refine K.kgl ?_; refine WQ.ret3 rfl rfl rfl rfl ⟨by rw [hfin], rfl⟩
      · have hc0 : c = 0 := by simp at hbad; omega
        have hi0 : 0 < i := by simp at hbad; omega
        refine K.kgo ?_; refine WL.idxI i rfl rfl rfl rfl rfl rfl hs0 rfl rfl hik fun p hp => ?_; rw [hcc] at hp; refine K.kgl ?_; refine WL.idxI i rfl rfl rfl rfl rfl rfl hs0 rfl rfl hik fun p hp => ?_; rw [hcc] at hp; refine K.kgl ?_; refine WL.idxI i rfl rfl rfl rfl rfl rfl hs0 rfl rfl hik fun p hp => ?_; rw [hcc] at hp; refine K.kgl ?_; refine WQ.ret3 rfl rfl rfl rfl ⟨by rw [hfin], rfl⟩
    · rw [if_neg hbad] at hR
      simp only [decide_eq_true_eq, not_or, not_and] at hbad; have e1 : bits .and .u8 c 127 = ((c.toNat % 128 : Nat) : Int) := by
        have := and127b c.toNat (by omega)
        rwa [Int.toNat_of_nonneg hc.1] at this
      have hle : 128 ^ i ≤ 128 ^ 9 := Nat.pow_le_pow_right (by decide) hi9; have hcm : c.toNat % 128 * 128 ^ i < 18446744073709551616 := by
        by_cases h9 : i = 9
        · subst h9
          have : c ≤ 1 := by have := hbad.1 (by omega); omega
          have : c.toNat % 128 ≤ 1 := by omega
          generalize c.toNat % 128 = q at this; omega
        · have : 128 ^ i ≤ 128 ^ 8 := Nat.pow_le_pow_right (by decide) (by omega)
          have h2 : c.toNat % 128 < 128 := Nat.mod_lt _ (by decide); generalize c.toNat % 128 = q at h2; generalize 128 ^ i = r at this; have := Nat.mul_le_mul (Nat.le_of_lt h2) this; omega
      have e2 : IntKind.u64.wrap (((c.toNat % 128 : Nat) : Int) * ((2 ^ min (7 * i) IntKind.u64.bits : Nat) : Int)) = ((c.toNat % 128 * 128 ^ i : Nat) : Int) := by
        rw [show min (7 * i) IntKind.u64.bits = 7 * i from Nat.min_eq_left (by show 7 * i ≤ 64; omega), Nat.pow_mul, ← Int.natCast_mul, IntKind.wrap_u64]; generalize c.toNat % 128 * 128 ^ i = q at hcm; omega
      have e3 := or_shl a (c.toNat % 128) i ha hcm (by omega); have e5 : IntKind.u64.wrap ((c.toNat % 128 : Nat) : Int) = ((c.toNat % 128 : Nat) : Int) := by rw [IntKind.wrap_u64]; omega
      have e6 : 7 * i % (2 ^ IntKind.u64.bits : Int).natAbs = 7 * i := by
        rw [show (2 ^ IntKind.u64.bits : Int).natAbs = 18446744073709551616 from rfl]; omega
      have E : bits .or .u64 (a : Int) (IntKind.u64.wrap (IntKind.u64.wrap (bits .and .u8 c 127) * ((2 ^ min (7 * i % (2 ^ IntKind.u64.bits : Int).natAbs) IntKind.u64.bits : Nat) : Int))) = ((a + 128 ^ i * (c.toNat % 128) : Nat) : Int) := by
        rw [e6, e1, e5, e2, e3]
      clear e1 e2 e3 e5 e6
      by_cases hc8 : c < 128
      · rw [if_pos hc8] at hR
        have hfin : ruV l = [.int .u64 ((a + 128 ^ i * (c.toNat % 128) : Nat) : Int), .int .i64 ((i : Int) + 1), .int .i64 0] := by
          unfold ruV; rw [hR]; simp only [Rd.bind, List.length_drop]; rw [show c.toNat % 128 = c.toNat by omega, show ((l.length - (l.length - (i + 1)) : Nat) : Int) = (i : Int) + 1 by omega]
        have hcase : (i = 9 ∧ ¬ c = 0 ∧ ¬ 1 < c) ∨ (0 < i ∧ ¬ i = 9 ∧ ¬ c = 0) ∨ i = 0 := by omega
        rcases hcase with ⟨h9, hc0, hc1⟩ | ⟨hi0, h9, hc0⟩ | h9
        · refine K.kgo ?_
          refine WL.idxI i rfl rfl rfl rfl rfl rfl hs0 rfl rfl hik fun p hp => ?_; rw [hcc] at hp; refine K.kgl ?_; refine WL.idxI i rfl rfl rfl rfl rfl rfl hs0 rfl rfl hik fun p hp => ?_; rw [hcc] at hp; refine K.kgl ?_; refine WL.idxI i rfl rfl rfl rfl rfl rfl hs0 rfl rfl hik fun p hp => ?_; rw [hcc] at hp; refine K.kgl ?_; refine WL.idxI i rfl rfl rfl rfl rfl rfl hs0 rfl rfl hik fun p hp => ?_; rw [hcc] at hp; refine K.kgl ?_; refine WQ.ret3 rfl rfl rfl rfl ⟨by rw [hfin, ← E], rfl⟩
        · refine K.kgo ?_
          refine WL.idxI i rfl rfl rfl rfl rfl rfl hs0 rfl rfl hik fun p hp => ?_; rw [hcc] at hp; refine K.kgl ?_; refine WL.idxI i rfl rfl rfl rfl rfl rfl hs0 rfl rfl hik fun p hp => ?_; rw [hcc] at hp; refine K.kgl ?_; refine WL.idxI i rfl rfl rfl rfl rfl rfl hs0 rfl rfl hik fun p hp => ?_; rw [hcc] at hp; refine K.kgl ?_; refine WQ.ret3 rfl rfl rfl rfl ⟨by rw [hfin, ← E], rfl⟩
        · refine K.kgo ?_
          refine WL.idxI i rfl rfl rfl rfl rfl rfl hs0 rfl rfl hik fun p hp => ?_; rw [hcc] at hp; refine K.kgl ?_; refine WL.idxI i rfl rfl rfl rfl rfl rfl hs0 rfl rfl hik fun p hp => ?_; rw [hcc] at hp; refine K.kgl ?_; refine WQ.ret3 rfl rfl rfl rfl ⟨by rw [hfin, ← E], rfl⟩
      · rw [if_neg hc8] at hR
        have h9 : ¬ i = 9 := fun h => by have := hbad.1 (by omega); omega
        have hc0 : ¬ c = 0 := by omega
        refine K.kgo ?_; refine WL.idxI i rfl rfl rfl rfl rfl rfl hs0 rfl rfl hik fun p hp => ?_; rw [hcc] at hp; refine K.kgl ?_; refine WL.idxI i rfl rfl rfl rfl rfl rfl hs0 rfl rfl hik fun p hp => ?_; rw [hcc] at hp; refine K.kgl ?_; refine WQ.again (i + 1, ((a + 128 ^ i * (c.toNat % 128) : Nat) : Int)) ⟨rfl, congrArg (fun z => some (Value.int .u64 z)) E, rfl, trivial⟩ ⟨rfl, .inl ⟨by show i + 1 ≤ 9; omega, hik, _, rfl, ?_, ?_⟩⟩ (by show 10 - (i + 1) < 10 - i; omega)
        · show a + 128 ^ i * (c.toNat % 128) < 128 ^ (i + 1)
          have h2 : c.toNat % 128 < 128 := Nat.mod_lt _ (by decide); rw [Nat.pow_succ]; generalize c.toNat % 128 = q at h2; have := Nat.mul_le_mul_left (128 ^ i) (show q + 1 ≤ 128 by omega); rw [Nat.mul_add] at this; omega
        · show rdU l = (rdUF (10 - (i + 1)) (decide (0 < i + 1)) (l.drop (i + 1))).bind fun v r => .ok (a + 128 ^ i * (c.toNat % 128) + 128 ^ (i + 1) * v) r
          rw [hR, show 10 - (i + 1) = 9 - i by omega, show decide (0 < i + 1) = true from decide_eq_true (by omega)]; cases rdUF (9 - i) true (l.drop (i + 1)) with
          | bad e => rfl
          | ok v r =>
            simp only [Rd.bind]; rw [show c.toNat % 128 = c.toNat - 128 by omega, Nat.pow_succ, Nat.mul_add, Nat.mul_assoc (128 ^ i) 128 v, Nat.add_assoc]
  · obtain rfl : i = l.length := by omega
    rw [List.drop_length, show 10 - l.length = (9 - l.length) + 1 by omega] at hR; have hfin : ruV l = [.int .u64 0, .int .i64 0, .int .i64 2] := by unfold ruV; rw [hR]; rfl
    refine K.kgo ?_; refine WQ.ret3 rfl rfl rfl rfl ⟨by rw [hfin], rfl⟩
theorem rzag_any (u : Nat) (h : u < 18446744073709551616) (w : World) : Calls Tryz.prog 64 #[.int .u64 u] w fun e w' => e = .returned (.int .i64 (zag u)) ∧ w' = w := by
  refine enter (args := [.int .u64 u]) Tryz.func64 rfl Tryz.ntmps64 rfl ?_; have e1 : Int.tmod (u : Int) 2 = ((u % 2 : Nat) : Int) := by rw [Int.tmod_eq_emod_of_nonneg (by omega)]; omega
  have e2 : Int.tdiv (u : Int) 2 = ((u / 2 : Nat) : Int) := by rw [Int.tdiv_eq_ediv_of_nonneg (by omega)]; omega
  have e3 : IntKind.u64.wrap (Int.tmod (u : Int) 2) = ((u % 2 : Nat) : Int) := by rw [e1, IntKind.wrap_u64]; omega
  have e4 : IntKind.i64.wrap (IntKind.u64.wrap (Int.tdiv (u : Int) 2)) = ((u / 2 : Nat) : Int) := by rw [e2, IntKind.wrap_u64, IntKind.wrap_i64]; omega
  have e5 : IntKind.i64.wrap (-((u / 2 : Nat) : Int)) = -((u / 2 : Nat) : Int) := by rw [IntKind.wrap_i64]; omega
  have e6 : IntKind.i64.wrap (-((u / 2 : Nat) : Int) - 1) = -((u / 2 : Nat) : Int) - 1 := by rw [IntKind.wrap_i64]; omega
  unfold zag
  by_cases hu : u % 2 = 0
  · rw [if_pos hu]
    refine K.kgo ?_; exact WQ.ret1 rfl rfl ⟨congrArg (fun z => Ending.returned (Value.int .i64 z)) e4, rfl⟩
  · rw [if_neg hu]
    refine K.kgo ?_; exact WQ.ret1 rfl rfl ⟨congrArg (fun z => Ending.returned (Value.int .i64 z)) (by rw [e4]; omega), rfl⟩
end K
end Go.Proofs.YtpfkcfaifleliaaGreat

namespace Go.Proofs.YtpfkcfaifleliaaGreat
open Go.RowKit
namespace K
structure RS7 (B : Nat) (w : World) (rb : Nat) (l : List Int) (e : Int) : Prop where
  rlt : rb < B
  byt : Byt l
  ex : ∃ sp cap, VBlk 204 w rb [.slice sp l.length cap, .int .i64 e] ∧ SlB (fun b => b < B ∧ b ≠ rb) w (.slice sp l.length cap) l
theorem RS7.keep {B : Nat} {w w' : World} {rb : Nat} {l : List Int} {e : Int} (h : RS7 B w rb l e) {K : Nat → Prop} (hk : Keep K w w') (hK : ∀ b, b < B → K b) : RS7 B w' rb l e := by
  obtain ⟨sp, cap, h1, h2⟩ := h.ex; exact ⟨h.rlt, h.byt, sp, cap, h1.keep hk (hK _ h.rlt), h2.keep hk fun b hb => hK b hb.1⟩
theorem RS7.setE {B : Nat} {w : World} {rb : Nat} {l : List Int} {e : Int} (h : RS7 B w rb l e) (x : Int) : RS7 B (w.setCell ⟨rb, 1, none⟩ (.int .i64 x)) rb l x := by
  obtain ⟨sp, cap, h1, h2⟩ := h.ex; exact ⟨h.rlt, h.byt, sp, cap, h1.set 1 (.int .i64 x), h2.keep (K := fun b => b ≠ rb) ((Keep.refl _ w).setCell (fun hk => hk rfl) _) fun b hb => hb.2⟩
theorem RS7.setL {B : Nat} {w : World} {rb : Nat} {l l' : List Int} {e : Int} {v' : Value} (h : RS7 B w rb l e) (hb : Byt l') (hv : SlB (fun b => b < B ∧ b ≠ rb) w v' l') : RS7 B (w.setCell ⟨rb, 0, none⟩ v') rb l' e := by
  obtain ⟨sp, cap, h1, h2⟩ := h.ex; obtain ⟨sp', cap', rfl, -⟩ := hv.sl; exact ⟨h.rlt, hb, sp', cap', h1.set 0 (.slice sp' l'.length cap'), hv.keep (K := fun b => b ≠ rb) ((Keep.refl _ w).setCell (fun hk => hk rfl) _) fun b hb => hb.2⟩
variable {B rb : Nat} {w : World} {l : List Int} {e : Int}
theorem one7_any (h : RS7 B w rb l e) :
    Calls Tryz.prog 124 #[.pointer (some ⟨rb, 0, none⟩)] w fun r w' => ∃ c l' e', r = .returned (.int .u8 c) ∧ 0 ≤ c ∧ c ≤ 255 ∧ RS7 B w' rb l' e' ∧ KeepR rb w w' ∧ Out rdB l e c l' e' ∧ (e' = 0 ∨ c = 0) := by
  refine enter (args := [.pointer (some ⟨rb, 0, none⟩)]) Tryz.func124 rfl Tryz.ntmps124 rfl ?_; obtain ⟨sp, cap, h1, h2⟩ := h.ex; refine K.kgo ?_; refine WL.load rfl rfl rfl rfl rfl rfl (h1.cell 1 (by simp)) ?_
  by_cases he : e = 0
  · subst he
    cases l with
    | nil =>
      simp only [List.length_nil] at h1 h2; refine K.kgo ?_; refine WL.load rfl rfl rfl rfl rfl rfl (h1.cell 0 (by simp)) ?_; refine K.kgo ?_; refine WL.store rfl rfl rfl rfl rfl rfl (by kernel_rfl) (h1.cell 1 (by simp)) (h1.free 1) ?_; have hr := h.setE 2; have hk : KeepR rb w (w.setCell ⟨rb, 1, none⟩ (.int .i64 2)) := KeepR.set _ _ _ _; generalize w.setCell ⟨rb, 1, none⟩ (.int .i64 2) = w2 at hr hk ⊢; obtain ⟨sp2, cap2, h3, h4⟩ := hr.ex; refine K.kgo ?_; refine WL.load rfl rfl rfl rfl rfl rfl (h3.cell 1 (by simp)) ?_; refine K.kgo ?_; exact WQ.ret1 rfl rfl ⟨0, [], 2, rfl, by omega, by omega, hr, hk, ⟨Nat.le_refl _, fun h => absurd rfl h, fun _ => ⟨rfl, by omega⟩⟩, .inr rfl⟩
    | cons c r =>
      have hc := h.byt c (by simp); have hlen : ((c :: r).length : Int) = (r.length : Int) + 1 := by simp
      refine K.kgo ?_; refine WL.load rfl rfl rfl rfl rfl rfl (h1.cell 0 (by simp)) ?_; refine K.kgo ?_; refine WL.load rfl rfl rfl rfl rfl rfl (h1.cell 1 (by simp)) ?_; refine K.kgo ?_; refine WL.load rfl rfl rfl rfl rfl rfl (h1.cell 0 (by simp)) ?_; refine WL.idxI 0 rfl rfl rfl rfl rfl rfl h2.sl rfl rfl (by simp) fun p hp => ?_; refine WL.load rfl rfl rfl rfl rfl rfl hp ?_; refine K.kgo ?_; refine WL.load rfl rfl rfl rfl rfl rfl (h1.cell 0 (by simp)) ?_; refine WL.fromB (z := 1) rfl rfl rfl rfl rfl rfl rfl (by omega) (by omega) h2 fun v' hv' => ?_; have hv : v'.oneCell' = true := by obtain ⟨_, _, rfl, -⟩ := hv'.sl; rfl
      refine K.kgo ?_; refine WL.store rfl rfl rfl rfl rfl hv (by kernel_rfl) (h1.cell 0 (by simp)) (h1.free 0) ?_; refine K.kgo ?_; exact WQ.ret1 rfl rfl ⟨c, r, 0, rfl, hc.1, hc.2, h.setL h.byt.tail hv', KeepR.set _ _ _ _, ⟨by simp, fun h => absurd rfl h, fun _ => ⟨rfl, rfl, rfl⟩⟩, .inl rfl⟩
  · refine K.kgo ?_
    refine WL.load rfl rfl rfl rfl rfl rfl (h1.cell 1 (by simp)) ?_; refine K.kgo ?_; exact WQ.ret1 rfl rfl ⟨0, l, e, rfl, by omega, by omega, h, KeepR.refl _ _, .ofBad he, .inr rfl⟩

theorem number7_any (h : RS7 B w rb l e) :
    Calls Tryz.prog 125 #[.pointer (some ⟨rb, 0, none⟩)] w fun r w' => ∃ (u : Nat) (l' : List Int) (e' : Int), r = .returned (.int .u64 u) ∧ u < 18446744073709551616 ∧ RS7 B w' rb l' e' ∧ KeepR rb w w' ∧ Out rdU l e u l' e' := by
  refine enter (args := [.pointer (some ⟨rb, 0, none⟩)]) Tryz.func125 rfl Tryz.ntmps125 rfl ?_; obtain ⟨sp, cap, h1, h2⟩ := h.ex; refine K.kgo ?_; refine WL.load rfl rfl rfl rfl rfl rfl (h1.cell 1 (by simp)) ?_
  by_cases he : e = 0
  · subst he
    refine K.kgo ?_; refine WL.load rfl rfl rfl rfl rfl rfl (h1.cell 0 (by simp)) ?_; refine WL.call rfl rfl rfl rfl rfl Tryz.func94 rfl (by kernel_rfl) (rreadU_any h2.sl h.byt) ?_; rintro _ w ⟨rfl, rfl⟩; refine ⟨_, rfl, ?_⟩; unfold ruV; cases hr : rdU l with
    | bad x =>
      have hx := rdUF_bad 10 false l x hr; refine K.kgo ?_; refine WL.store rfl rfl rfl rfl rfl rfl (by kernel_rfl) (h1.cell 1 (by simp)) (h1.free 1) ?_; have hr2 := h.setE x; have hk : KeepR rb w (w.setCell ⟨rb, 1, none⟩ (.int .i64 x)) := KeepR.set _ _ _ _; refine K.kgo ?_; exact WQ.ret1 rfl rfl ⟨0, l, x, rfl, by omega, hr2, hk, Nat.le_refl _, fun h => absurd rfl h, fun _ => by rw [hr]; exact ⟨rfl, by omega⟩⟩
    | ok u r =>
      obtain ⟨hcan, hu⟩ := rdU_can h.byt hr; have hdrop : l.drop (((l.length - r.length : Nat) : Int).toNat) = r := by rw [hcan]; simp
      have hlr : r.length ≤ l.length := by rw [hcan]; simp
      refine K.kgo ?_; refine WL.load rfl rfl rfl rfl rfl rfl (h1.cell 0 (by simp)) ?_; refine K.kgo ?_; refine WL.fromB (z := ((l.length - r.length : Nat) : Int)) rfl rfl rfl rfl rfl rfl rfl (by omega) (by omega) h2 fun v' hv' => ?_; rw [hdrop] at hv'; have hv : v'.oneCell' = true := by obtain ⟨_, _, rfl, -⟩ := hv'.sl; rfl
      refine K.kgo ?_; refine WL.store rfl rfl rfl rfl rfl hv (by kernel_rfl) (h1.cell 0 (by simp)) (h1.free 0) ?_; refine K.kgo ?_; exact WQ.ret1 rfl rfl ⟨u, r, 0, rfl, hu, h.setL (by have := h.byt; rw [hcan] at this; exact this.right) hv', KeepR.set _ _ _ _, hlr, fun h => absurd rfl h, fun _ => by rw [hr]; exact ⟨rfl, rfl, rfl⟩⟩
  · refine K.kgo ?_
    exact WQ.ret1 rfl rfl ⟨0, l, e, rfl, by omega, h, KeepR.refl _ _, .ofBad he⟩

theorem count7_any (h : RS7 B w rb l e) :
    Calls Tryz.prog 127 #[.pointer (some ⟨rb, 0, none⟩)] w fun r w' => ∃ (u : Nat) (l' : List Int) (e' : Int), r = .returned (.int .i64 u) ∧ u ≤ 65536 ∧ RS7 B w' rb l' e' ∧ KeepR rb w w' ∧ Out rdC l e u l' e' := by
  refine enter (args := [.pointer (some ⟨rb, 0, none⟩)]) Tryz.func127 rfl Tryz.ntmps127 rfl ?_; refine K.kgo ?_; refine WL.call rfl rfl rfl rfl rfl Tryz.func125 rfl (by kernel_rfl) (number7_any h) ?_; rintro _ w2 ⟨u, l2, e2, rfl, hu, hr, hk, ho⟩; refine ⟨_, rfl, ?_⟩; obtain ⟨sp, cap, h1, -⟩ := hr.ex
  by_cases he : e2 = 0
  · subst he
    by_cases hbig : 65536 < u
    · have hr3 := hr.setE 3
      have hk3 : KeepR rb w2 (w2.setCell ⟨rb, 1, none⟩ (.int .i64 3)) := KeepR.set _ _ _ _; refine K.kgo ?_; refine WL.load rfl rfl rfl rfl rfl rfl (h1.cell 1 (by simp)) ?_; refine K.kgo ?_; refine WL.store rfl rfl rfl rfl rfl rfl (by kernel_rfl) (h1.cell 1 (by simp)) (h1.free 1) ?_; generalize w2.setCell ⟨rb, 1, none⟩ (.int .i64 3) = w3 at hr3 hk3 ⊢; obtain ⟨sp3, cap3, h3, -⟩ := hr3.ex; refine K.kgo ?_; refine WL.load rfl rfl rfl rfl rfl rfl (h3.cell 1 (by simp)) ?_; refine K.kgo ?_; refine WQ.ret1 rfl rfl ⟨0, l2, 3, rfl, by omega, hr3, hk.trans hk3, ho.len, fun h0 => absurd (ho.bad h0).symm h0, fun h0 => ?_⟩; have h5 := ho.ok h0; unfold rdC; cases hq : rdU l with
      | bad x => rw [hq] at h5; exact absurd h5.1.symm h5.2
      | ok x r =>
        rw [hq] at h5; obtain ⟨rfl, rfl, -⟩ := h5; simp only [Rd.bind]; rw [if_pos hbig]; exact ⟨rfl, by omega⟩
    · have e8 : IntKind.i64.wrap (u : Int) = (u : Int) := by rw [IntKind.wrap_i64]; omega
      refine K.kgo ?_; refine WL.load rfl rfl rfl rfl rfl rfl (h1.cell 1 (by simp)) ?_; refine K.kgo ?_; refine WL.load rfl rfl rfl rfl rfl rfl (h1.cell 1 (by simp)) ?_; refine K.kgo ?_; refine WQ.ret1 rfl rfl ⟨u, l2, 0, rfl, by omega, hr, hk, ho.len, ho.bad, fun h0 => ?_⟩; have h5 := ho.ok h0; unfold rdC; cases hq : rdU l with
      | bad x => rw [hq] at h5; exact h5
      | ok x r =>
        rw [hq] at h5; obtain ⟨rfl, rfl, -⟩ := h5; simp only [Rd.bind]; rw [if_neg hbig]; simp
  · refine K.kgo ?_
    refine WL.load rfl rfl rfl rfl rfl rfl (h1.cell 1 (by simp)) ?_; refine K.kgo ?_; refine WL.load rfl rfl rfl rfl rfl rfl (h1.cell 1 (by simp)) ?_; refine K.kgo ?_; refine WQ.ret1 rfl rfl ⟨0, l2, e2, rfl, by omega, hr, hk, ho.len, ho.bad, fun h0 => ?_⟩; have h5 := ho.ok h0; unfold rdC; cases hq : rdU l with
    | bad x => rw [hq] at h5; exact h5
    | ok x r => rw [hq] at h5; exact absurd h5.2.2 he
theorem text7_any (h : RS7 B w rb l e) :
    Calls Tryz.prog 126 #[.pointer (some ⟨rb, 0, none⟩)] w fun r w' => ∃ (s : ByteArray) (l' : List Int) (e' : Int), r = .returned (.string s) ∧ s.size ≤ 65536 ∧ RS7 B w' rb l' e' ∧ KeepR rb w w' ∧ Out rdT l e s l' e' := by
  refine enter (args := [.pointer (some ⟨rb, 0, none⟩)]) Tryz.func126 rfl Tryz.ntmps126 rfl ?_; refine K.kgo ?_; refine WL.call rfl rfl rfl rfl rfl Tryz.func127 rfl (by kernel_rfl) (count7_any h) ?_; rintro _ w2 ⟨u, l2, e2, rfl, hu, hr, hk, ho⟩; refine ⟨_, rfl, ?_⟩; obtain ⟨sp, cap, h1, h2⟩ := hr.ex; have hle := ho.len; refine K.kgo ?_; refine WL.load rfl rfl rfl rfl rfl rfl (h1.cell 1 (by simp)) ?_
  by_cases he : e2 = 0
  · subst he
    by_cases hshort : l2.length < u
    · refine K.kgo ?_
      refine WL.load rfl rfl rfl rfl rfl rfl (h1.cell 0 (by simp)) ?_; refine K.kgo ?_; refine WL.store rfl rfl rfl rfl rfl rfl (by kernel_rfl) (h1.cell 1 (by simp)) (h1.free 1) ?_; have hr3 := hr.setE 2; have hk3 : KeepR rb w2 (w2.setCell ⟨rb, 1, none⟩ (.int .i64 2)) := KeepR.set _ _ _ _; generalize w2.setCell ⟨rb, 1, none⟩ (.int .i64 2) = w3 at hr3 hk3 ⊢; obtain ⟨sp3, cap3, h3, h4⟩ := hr3.ex; refine K.kgo ?_; refine WL.load rfl rfl rfl rfl rfl rfl (h3.cell 1 (by simp)) ?_; refine K.kgo ?_; refine WQ.ret1 rfl rfl ⟨ByteArray.empty, l2, 2, rfl, by decide, hr3, hk.trans hk3, ho.len, fun h0 => absurd (ho.bad h0).symm h0, fun h0 => ?_⟩; have h5 := ho.ok h0; unfold rdT; cases hq : rdC l with
      | bad x => rw [hq] at h5; exact absurd h5.1.symm h5.2
      | ok x r =>
        rw [hq] at h5; obtain ⟨rfl, rfl, -⟩ := h5; simp only [Rd.bind]; rw [if_pos hshort]; exact ⟨rfl, by omega⟩
    · have htl : (l2.take ((u : Int).toNat)) = l2.take u := by simp
      have hdl : (l2.drop ((u : Int).toNat)) = l2.drop u := by simp
      refine K.kgo ?_; refine WL.load rfl rfl rfl rfl rfl rfl (h1.cell 0 (by simp)) ?_; refine K.kgo ?_; refine WL.load rfl rfl rfl rfl rfl rfl (h1.cell 1 (by simp)) ?_; refine K.kgo ?_; refine WL.load rfl rfl rfl rfl rfl rfl (h1.cell 0 (by simp)) ?_; refine K.kgo ?_; refine WL.upto (z := (u : Int)) rfl rfl rfl rfl rfl rfl rfl (by omega) (by omega) h2.sl fun v3 hv3 => ?_; rw [htl] at hv3; refine WL.strOf rfl rfl rfl rfl rfl rfl rfl rfl hv3 ?_; refine K.kgo ?_; refine WL.load rfl rfl rfl rfl rfl rfl (h1.cell 0 (by simp)) ?_; refine K.kgo ?_; refine WL.fromB (z := (u : Int)) rfl rfl rfl rfl rfl rfl rfl (by omega) (by omega) h2 fun v' hv' => ?_; rw [hdl] at hv'; have hv : v'.oneCell' = true := by obtain ⟨_, _, rfl, -⟩ := hv'.sl; rfl
      refine K.kgo ?_; refine WL.store rfl rfl rfl rfl rfl hv (by kernel_rfl) (h1.cell 0 (by simp)) (h1.free 0) ?_; refine K.kgo ?_; refine WQ.ret1 rfl rfl ⟨strOfNums (l2.take u), l2.drop u, 0, rfl, ?_, hr.setL (fun c hc => hr.byt c (List.mem_of_mem_drop hc)) hv', hk.trans (KeepR.set _ _ _ _), by rw [List.length_drop]; omega, fun h0 => absurd (ho.bad h0).symm h0, fun h0 => ?_⟩
      · rw [strOfNums_mk]
        show ((l2.take u).map _).toArray.size ≤ _
        simp
        omega
      · have h5 := ho.ok h0
        unfold rdT; cases hq : rdC l with
        | bad x => rw [hq] at h5; exact absurd h5.1.symm h5.2
        | ok x r =>
          rw [hq] at h5; obtain ⟨rfl, rfl, -⟩ := h5; simp only [Rd.bind]; rw [if_neg hshort, strOfNums_mk]; simp
  · refine K.kgo ?_
    refine WL.load rfl rfl rfl rfl rfl rfl (h1.cell 1 (by simp)) ?_; refine K.kgo ?_; refine WQ.ret1 rfl rfl ⟨ByteArray.empty, l2, e2, rfl, by decide, hr, hk, ho.len, ho.bad, fun h0 => ?_⟩; have h5 := ho.ok h0; unfold rdT; cases hq : rdC l with
    | bad x => rw [hq] at h5; exact h5
    | ok x r => rw [hq] at h5; exact absurd h5.2.2 he
end K
end Go.Proofs.YtpfkcfaifleliaaGreat
