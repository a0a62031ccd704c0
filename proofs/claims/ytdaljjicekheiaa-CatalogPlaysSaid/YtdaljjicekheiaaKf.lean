/- Walks over the slots that are asked for: append of a text; an own row in a box. -/
import Derived.Test.YtdaljjicekheiaaKe
import Derived.Lib.AppendStr
namespace Go.Proofs.Ytdaljjicekheiaa
open Go.RowKit
namespace K
variable {n : NN} {Q : Exit → Act → World → Prop} {l : Env} {w w' : World} {ops : Array Oper} {o : Oper} {rest : List Oper} {d : Nat}

theorem strCells_bytes (s : ByteArray) : Lib.strCells s = (bytesI s).map (Value.int .u8) := by
  unfold Lib.strCells bytesI
  rw [ByteArray.toList_eq, List.map_map]
  rfl
/-- append of a text's bytes onto an own row. -/
theorem appS_run {v : Value} {l1 : List Int} {s : ByteArray} (ty' : Nat) (hown : Bu w v l1) (hb : l1.length + s.size ≤ 140737488355328) :
    ∃ v' w', (Builtin.append_ #[27, 9] ty' #[v, .string s]).run Try.prog w = .ok v' w' ∧ Bu w' v' (l1 ++ bytesI s) ∧ Grow w v w' v' := by
  have hq : (Try.prog.info? 5).map (fun i => (i.zero, i.size, i.bytes)) = some (some (.int .u8 0), 1, 1) := by kernel_rfl
  obtain ⟨ie, hie, he⟩ := Option.map_eq_some_iff.1 hq
  obtain ⟨hz0, he2⟩ := Prod.mk.inj he
  obtain ⟨hsz, hby⟩ := Prod.mk.inj he2
  have hown' : w.ownsRow 0 5 1 v l1.length (l1.map (Value.int .u8)) := hown
  obtain ⟨v', w', hr, h2, h3, -⟩ := Lib.run_append_own_string (P := Try.prog) w 0 27 9 ty' 5 ie Try.underlying27 Try.underlying9 hie hz0 hsz hby v l1.length _ hown' s (by unfold maxLen; omega) hb (Nat.zero_le _)
  refine ⟨v', w', hr, ?_, grown_keep h3, ?_⟩
  · rw [strCells_bytes, ← List.map_append] at h2
    show World.ownsRow _ _ _ _ _ _ _
    rw [List.length_append, bytesI_len]
    exact h2
  · intro g hg
    rcases hown'.2 with ⟨rfl, h0⟩ | ⟨g0, cap, cur, rfl, hbg, hgc, hnc, hcm, hcs, htake⟩
    · have hown2 : w.ownsRow w.heap.size 5 1 (.slice none 0 0) l1.length (l1.map (Value.int .u8)) := ⟨hown'.1, .inl ⟨rfl, h0⟩⟩
      obtain ⟨v2, w2, hr2, h22, -, -⟩ := Lib.run_append_own_string (P := Try.prog) w w.heap.size 27 9 ty' 5 ie Try.underlying27 Try.underlying9 hie hz0 hsz hby _ l1.length _ hown2 s (by unfold maxLen; omega) hb (Nat.le_refl _)
      rw [hr] at hr2
      injection hr2 with e1 e2
      subst e1
      right
      rcases h22.2 with ⟨rfl, -⟩ | ⟨g1, _, _, rfl, h, -⟩
      · cases hg
      · cases hg; exact h
    · by_cases hroom : l1.length + s.size ≤ cap
      · have hcs' : cur.size = cap := by simpa using hcs
        have hr2 := Lib.run_append_room_string (P := Try.prog) w 27 9 ty' 5 ie Try.underlying27 Try.underlying9 hie hsz g0 l1.length cap cur hgc s hroom (by omega)
        rw [hr] at hr2
        injection hr2 with e1 e2
        subst e1
        cases hg
        exact .inl rfl
      · have hr2 := Lib.run_append_grow_string (P := Try.prog) w 27 9 ty' 5 ie (.int .u8 0) Try.underlying27 Try.underlying9 hie hz0 ⟨g0, 0, none⟩ l1.length cap (l1.map (Value.int .u8)) (by rw [hsz]; simp) (hown'.cells (g := g0) rfl) s (by omega) (by omega)
          (by rw [hby]; exact growslice_fits (by omega) (by omega))
        rw [hr] at hr2
        injection hr2 with e1 e2
        subst e1
        cases hg
        exact .inr (Nat.le_refl _)
theorem WL.appS {s x : Operand} {v : Value} {t : ByteArray} {l1 : List Int} (hg : o.guard = none) (hd : o.dst = some d) (hn : Nat.blt d n.n = true)
    (ho : o.op = .call { callee := .builtin .append, args := #[s, x], argTypes := #[27, 9] }) (hs : evl l s = some v) (hown : Bu w v l1) (hx : evl l x = some (.string t)) (hb : l1.length + t.size ≤ 140737488355328)
    (h : ∀ v' w', Bu w' v' (l1 ++ bytesI t) → Grow w v w' v' → WL n ops Q rest ((d, v') :: l) w') : WL n ops Q (o :: rest) l w := by
  obtain ⟨v', w', hr, h2, h3⟩ := appS_run o.type hown hb
  refine WL.step hg hd hn (fun a ha => ?_) (h v' w' h2 h3)
  unfold execOp
  simp only [ho, resolve, invoke, builtin, Sem.run_bind, Sem.run_pure, Result.andThen_ok, List.map_toArray, List.map_cons, List.map_nil, ha.eval hs, ha.eval hx, hr]

/-- What becomes of memory when the own slice v, that lies in the box bb, becomes v'. -/
def GrowB (bb : Nat) (w : World) (v : Value) (w' : World) (v' : Value) : Prop :=
  Keep (fun b => b < w.heap.size ∧ v.ownBlock ≠ some b ∧ b ≠ bb) w w' ∧ ∀ g, v'.ownBlock = some g → v.ownBlock = some g ∨ w.heap.size ≤ g
theorem GrowB.refl (bb : Nat) (w : World) (v : Value) : GrowB bb w v w v := ⟨Keep.refl _ _, fun _ h => .inl h⟩
theorem GrowB.trans {bb : Nat} {w w1 w2 : World} {v v1 v2 : Value} (h : GrowB bb w v w1 v1) (k : GrowB bb w1 v1 w2 v2) : GrowB bb w v w2 v2 :=
  ⟨h.1.trans (k.1.mono fun b hb => ⟨Nat.lt_of_lt_of_le hb.1 h.1.size, fun e => (h.2 b e).elim hb.2.1 (fun h2 => absurd hb.1 (by omega)), hb.2.2⟩),
   fun g hg => (k.2 g hg).elim (h.2 g) (fun h2 => .inr (Nat.le_trans h.1.size h2))⟩
theorem Grow.box {bb : Nat} {w w' : World} {v v' : Value} (h : Grow w v w' v') : GrowB bb w v w' v' := ⟨h.1.mono fun _ hb => ⟨hb.1, hb.2.1⟩, h.2⟩
theorem GrowB.below {bb : Nat} {w w1 w2 : World} {v v1 : Value} (h : GrowB bb w v w1 v1) (k : Below w1.heap.size w1 w2) : GrowB bb w v w2 v1 :=
  ⟨h.1.trans ((Keep.of_below k).mono fun _ hb => Nat.lt_of_lt_of_le hb.1 h.1.size), h.2⟩
/-- The own row of the box. -/
structure Bx (bb : Nat) (w : World) (v : Value) (l : List Int) : Prop where
  blk : VBlk 27 w bb [v]
  bu : Bu w v l
  ne : v.ownBlock ≠ some bb
theorem Bx.below {bb : Nat} {w w' : World} {v : Value} {l : List Int} (h : Bx bb w v l) (hk : Below w.heap.size w w') : Bx bb w' v l := ⟨h.blk.below hk h.blk.lt, h.bu.below hk, h.ne⟩
/-- The own slice that has grown is laid into its box. -/
theorem Bx.put {bb : Nat} {w w' : World} {v v' : Value} {l l' : List Int} (h : Bx bb w v l) (hb : Bu w' v' l') (hg : Grow w v w' v') :
    VBlk 27 w' bb [v] ∧ Bx bb (w'.setCell ⟨bb, 0, none⟩ v') v' l' ∧ GrowB bb w v (w'.setCell ⟨bb, 0, none⟩ v') v' := by
  have hblk : VBlk 27 w' bb [v] := h.blk.keep hg.1 ⟨h.blk.lt, h.ne⟩
  have hne : v'.ownBlock ≠ some bb := fun e => (hg.2 _ e).elim h.ne (fun h2 => absurd h.blk.lt (by omega))
  refine ⟨hblk, ⟨hblk.set 0 v', hb.keep (K := fun b => b ≠ bb) ((Keep.refl _ w').setCell (fun hk => hk rfl) _) (fun g hg2 e => hne (by rw [hg2, e])), hne⟩, ?_, hg.2⟩
  exact (hg.1.mono fun _ hb => ⟨hb.1, hb.2.1⟩ : Keep (fun b => b < w.heap.size ∧ v.ownBlock ≠ some b ∧ b ≠ bb) w w').setCell (fun hk => hk.2.2 rfl) _
theorem Bx.keep {bb g T : Nat} {w w' : World} {v v' : Value} {cs : List Value} (hg : GrowB bb w v w' v') (h : VBlk T w g cs) (h1 : v.ownBlock ≠ some g) (h2 : g ≠ bb) : VBlk T w' g cs ∧ v'.ownBlock ≠ some g :=
  ⟨h.keep hg.1 ⟨h.lt, h1, h2⟩, fun e => (hg.2 _ e).elim h1 (fun h3 => absurd h.lt (by omega))⟩
/-- A slice is one cell. -/
theorem Bu.cell1 {w : World} {v : Value} {l : List Int} (h : Bu w v l) : v.oneCell' = true := by obtain ⟨sp, c, rfl, -, -⟩ := h.form; rfl
section
variable {S : World → Prop} {m fuel : Nat} {listed : Array Bool}
/-- A byte's, or any integer's, place, taken first, and what lies there. -/
theorem WD.idxI {oi : Oper} {t e : Nat} {x i' : Operand} {v : Value} {k kk : IntKind} {z : Int} {zs : List Int} {w0 : World} (i j : Nat) (hi : ops[i]? = some oi) (hs : mayB ops listed i m = true) (hd : oi.dst = some d) (hn : Nat.blt d n.n = true)
    (hQ : Passes Q) (hw : wants ops l oi = some true) (ho : oi.op = .indexAddr t x i') (ht : tyOf ty t = some (.slice e 1)) (hx : evl l x = some v) (hsl : Sl kk w0 v zs) (hi' : evl l i' = some (.int k z)) (hz : z = (j : Int)) (hj : j < zs.length)
    (hS : listed.getD m false = true ∨ S w) (h : ∀ p, w0.cell? p = some (.int kk (nth zs j)) → WD n ops Q S m fuel (listed.setIfInBounds i true) ((d, .pointer (some p)) :: l) w) : WD n ops Q S m (fuel + 1) listed l w := by
  obtain ⟨sp, cap, rfl, -, -, h3, -⟩ := hsl
  obtain ⟨b, off, rfl, -, hr⟩ := h3 (by omega)
  exact WD.idx i j (off + j) hi hs hd hn hQ hw ho ht hx hi' hz hj (by rw [Nat.mul_one]) hS (h _ (hr.at j hj))
end
theorem heap_cell {w w' : World} (h : w'.heap = w.heap) (p : Addr) : w'.cell? p = w.cell? p := World.cell?_of_block (by rw [h])
end K
end Go.Proofs.Ytdaljjicekheiaa
