/- Texts for IxB, part 1 of 11. -/
import Derived.Test.YtlenklobbngopaaGreatRows
import Derived.WalkKit
import Derived.WalkSpells
import Derived.WalkLawsBesides
import Derived.Deep.QuietTactic
import Derived.BigQuiet
import Derived.OneCell
import Derived.Lib.Hide
import Derived.Laws.Rows
import Derived.Laws.CopyOwn
import Derived.Laws.AppendOwnNone
import Derived.Deep.AppendLies
import Derived.Deep.RegionLawGrows
import Derived.Deep.RegionHeld3
import Derived.ArgAppend
import Derived.WideShapes
import Derived.Maps.OwnSet
import Derived.DeepKeys5
import Derived.Laws.Bits64b
import Derived.OrdersHeld
import Derived.RegionTactic
import Derived.IntWalk
import Derived.Deep.Onto
import Derived.Deep.MidRow
import Derived.Deep.DeepFit
import Derived.Deep.CutBlock
import Derived.Deep.DeepCutAuto
import Derived.RangeFuncNested
import Derived.RangeFuncLeaves
import Derived.Sort.LoopGhostIn
import Derived.Lib.ConvBytes
import Derived.Great.BuildSlice
import Derived.Lib.AppendStr
import Derived.ProofKit
import Derived.OpenShut
import Derived.ShutString
import Derived.ChangeOld
import Derived.Below
import Derived.Deep.Slices
import Derived.Laws.BitsLemmas
import Derived.Laws.BitsAllLaws
import Derived.StillTailTactics
import Derived.Deep.RegionLaw
import Derived.DeepKeys
import Derived.Laws.CopyRow
import Derived.Laws.Strings
import GoSem.Op.String
import Derived.Outline
import Derived.Shelf.SlMaps.Clone
import Derived.Laws.Bits64
import Derived.Laws.OwnMore
import Derived.Laws.BytesArg
import Derived.Lib.Bytes
import Derived.Shelf.Abstract
import Derived.OrdersIn
import Derived.Maps.RangeWalk
import Derived.SizedLaws
import Derived.DataOpen
import Derived.ChangeMaps5
set_option maxHeartbeats 64000000
set_option maxRecDepth 100000
set_option linter.all false
namespace Go.Proofs.YtlenklobbngopaaGreat
open _root_.Go.Proofs.Tryz
def aa:=@List.length_append
def af:=@Nat.le_refl
def ag:=@List.getD_eq_getElem?_getD
def ah:=@List.getElem?_eq_getElem
def ai:=@List.flatMap_append
def aj:=@List.length_cons
def ak:=@Nat.lt_of_lt_of_le
def al:=@List.getD_cons_zero
def an:=@List.flatMap_cons
def ao:=@List.append_assoc
def aq:=@List.mem_append
def ar:=@List.mem_cons
def au:=@Option.some.inj
def av:=@List.length_map
def aw:=@Nat.zero_le
def ax:=@List.getD_cons_succ
def ay:=@List.getElem?_append_right
def az:=@List.mem_cons_of_mem
def aA:=@Bool.and_eq_true
def aB:=@List.mem_flatMap
def aC:=@List.length_set
def aD:=@Go.ByteArray.toList_eq
def aE:=@List.length_take
def aF:=@List.length_nil
def aG:=@List.getElem?_eq_none
def aH:=@List.nil_append
def aI:=@List.take_length
def aJ:=@List.take_add_one
def aK:=@List.map_append
def aL:=@List.take_append_drop
def aM:=@List.map_cons
def aN:=@List.getElem_mem
def aO:=@Nat.lt_or_ge
def aP:=@List.getElem?_append_left
def aQ:=@List.length_drop
def aR:=@List.not_mem_nil
def aS:=@List.append_nil
def aT:=@List.cons_append
def aU:=@Nat.le_trans
def aV:=@List.mem_append_left
def aW:=@Go.IntKind.wrap_u64
def aX:=@List.mem_append_right
def aY:=@List.nodup_cons
def aZ:=@List.mem_singleton
def a_:=@Nat.zero_add
def bg:=@List.mem_map
def bj:=@List.eq_nil_of_length_eq_zero
def bm:=@Go.Result.andThen_ok
def bn:=@List.getElem_of_mem
def bp:=@List.drop_eq_getElem_cons
def bA:=@Go.Sem.run_bind
def bB:=@Go.IntKind.wrap_u8
def bC:=@List.take_of_length_le
def bD:=@Go.World.cell?_of_block
def bF:=@UInt8.lt_iff_toNat_lt
def bG:=@Go.IntWalk.i64_in
def bH:=@List.pairwise_cons
def bI:=@Array.length_toList
def bJ:=@Nat.le_succ
def bK:=@List.nodup_append
def bL:=@Go.wpList_store_row
def bM:=@Nat.eq_of_beq_eq_true
def bN:=@List.mem_of_mem_take
def bO:=@List.mem_range
def bP:=@List.take_append_of_le_length
def bQ:=@List.mem_filter
def bR:=@List.take_zero
def bS:=@Array.getD_eq_getD_getElem?
def bT:=@List.all_eq_true
def bU:=@Go.World.block_lt_of_cell?
def bV:=@List.length_eq_zero_iff
def bW:=@List.filter_append
def bX:=@List.drop_eq_nil_of_le
def bY:=@List.take_succ_cons
def bZ:=@Bool.not_eq_true'
def b_:=@List.size_toArray
def cg:=@List.getElem?_cons_succ
def cj:=@List.mem_cons_self
def cm:=@Go.Oper.upon_value
def cn:=@List.map_toArray
def cq:=@decide_eq_decide
def cz:=@List.filter_eq_nil_iff
def cA:=@List.filter_cons
def cB:=@List.getElem?_eq_some_iff
def cC:=@List.perm_iff_count
def cD:=@List.getElem?_map
def cE:=@Nat.lt_succ_iff_lt_or_eq
def cF:=@Go.bodyPost_ret
def cG:=@Option.some.injEq
def cH:=@Option.map_eq_some_iff
def cI:=@List.count_append
def cJ:=@List.drop_succ_cons
def cK:=@List.Perm.nodup_iff
def cL:=@UInt8.toNat.inj
def cM:=@List.mem_or_eq_of_mem_set
def cN:=@List.set_append_right
def cO:=@List.map_take
def cP:=@Nat.mul_one
def cQ:=@Nat.mul_le_mul_right
def cR:=@Nat.not_lt_zero
def cS:=@List.count_cons
def cT:=@List.map_nil
def cU:=@List.map_drop
def cV:=@Go.IntKind.wrap_i64
def cW:=@List.flatMap_nil
def cX:=@List.find?_eq_none
def cY:=@List.length_filter_le
def cZ:=@Go.Proofs.run_typeAssert_map_sl
def c_:=@List.set_eq_take_append_cons_drop
def da:=@List.findIdx?_eq_some_iff_getElem
def de:=@Ne.symm
def df:=@Go.World.ownsRow.cellAt
def dg:=@Nat.pow_succ
def dh:=@List.mem_of_getElem?
def dj:=@List.getElem?_take_of_lt
def dm:=@List.filter_eq_self
def dn:=@Go.run_callFunc_extern
def dp:=@Nat.add_sub_cancel_left
def dq:=@List.drop_append
def dt:=@List.drop_length
def du:=@List.drop_append_of_le_length
def dw:=@Bool.false_ne_true
def dx:=@Option.toList_some
def dy:=@List.set_cons_zero
def dz:=@List.append_eq_nil_iff
def dC:=@Go.setRow_other
def dD:=@Option.map_some
def dE:=@List.range_succ
def dG:=@or_false
def dH:=@List.length_singleton
def dI:=@List.Perm.append_left
def dJ:=@Nat.lt_trichotomy
def dK:=@List.flatten_cons
def dL:=@Int.lt_trichotomy
def dM:=@List.drop_zero
def dN:=@Prod.ext
def dO:=@Go.Region.noSelect_spec
def dP:=@Option.ne_none_iff_exists'
def dQ:=@Array.getElem?_append_left
def dR:=@List.drop_drop
def dT:=@List.mem_iff_getElem
def dU:=@Int.tdiv_eq_ediv_of_nonneg
def dV:=@List.mem_of_mem_drop
def dW:=@Array.getElem?_eq_some_iff
def dX:=@Nat.add_zero
def dY:=@Go.Addr.add_mid
def dZ:=@Array.toList_map
def d_:=@List.ext_getElem
def eb:=@Decidable.byContradiction
def ef:=@List.mem_of_find?_eq_some
def eh:=@List.length_reverse
def ep:=@Array.setIfInBounds_comm
def ew:=@List.Pairwise.imp_of_mem
def ey:=@Bool.or_eq_true
def eA:=@Go.run_loadVar_mid
def eB:=@Go.Lib.hid
def eC:=@Go.Proofs.Tryz.func106
def eD:=@List.getElem?_drop
def eE:=@Go.cell_of_row
def eG:=@Option.bind_eq_some_iff
def eH:=@List.getElem?_cons_zero
def eI:=@Go.World.putObj_heap_other
def eJ:=@Go.Sem.run_pure
def eL:=@Go.wpList_plain
def eM:=@Go.wpListIn_plain
def eO:=@Nat.ne_of_beq_eq_false
def eP:=@Go.Deep.choose_lt
def eQ:=@UInt8.not_lt
def eS:=@List.find?_append
def eU:=@List.ext_getElem?
def eV:=@Go.returnsInHanded_of_change_sized
def eW:=@Nat.le_of_ble_eq_true
def eX:=@List.cons_prefix_cons
def eY:=@Option.getD_some
def eZ:=@Go.Region.free_spec
def e_:=@List.take_append
def fb:=@Go.Proofs.Tryz.func79
def fc:=@List.mem_reverse
def ff:=@Nat.add_assoc
def fg:=@Go.Proofs.Tryz.func137
def fh:=@Nat.pow_le_pow_right
def fi:=@Go.wp_region_still_tail
def fj:=@List.getElem?_set_ne
def fm:=@if_false
def fo:=@List.mem_of_getLast?
def fp:=@Go.wpList_load_row
def fq:=@Bool.eq_iff_iff
def fu:=@List.find?_cons
def fw:=@List.mem_map_of_mem
def fx:=@List.filterMap_cons
def fy:=@Go.Maps.Keyed.of_law
def fz:=@List.map_map
def fA:=@Nat.eq_zero_or_pos
def fB:=@Int.natCast_nonneg
def fC:=@List.set_cons_succ
def fD:=@Bool.false_eq_true
def fE:=@Nat.pos_of_ne_zero
def fF:=@Array.getElem?_eq_getElem
def fG:=@Go.Lib.run_append_own_string
def fH:=@Classical.byContradiction
def fI:=@List.findIdx?_eq_none_iff
def fJ:=@List.getLast?_eq_getElem?
def fK:=@Go.Proofs.Tryz.ntmps88
def fL:=@Prod.mk.inj
def fM:=@Int.toNat_natCast
def fN:=@Go.Proofs.Tryz.func121
def fO:=@List.reverse_cons
def fP:=@List.getElem?_set
def fQ:=@List.pairwise_map
def fR:=@Bool.and_self
def fS:=@Bool.true_and
def fT:=@Bool.or_false
def fU:=@List.length_filterMap_le
def fV:=@Go.Maps.has_false_of_atKey
def fW:=@Int.eq_ofNat_of_zero_le
def fX:=@List.pairwise_singleton
def fY:=@Go.OpenClaim.holds_of_wide
def fZ:=@Go.Maps.has_true_of_atKey
def f_:=@Array.getElem?_eq_none
def gg:=@Go.Proofs.Tryz.func88
def gh:=@Nat.sub_zero
def gj:=@Nat.succ_mul
def gk:=@Go.Proofs.Tryz.func158
def gm:=@Nat.sub_self
def gp:=@List.drop_of_length_le
def gq:=@UInt8.toNat_add
def gu:=@Bool.and_eq_false_iff
def gv:=@List.filterMap_append
def gw:=@List.singleton_append
def gy:=@List.mapM_cons
def gz:=@Go.run_buildSlice
def gA:=@Go.run_eql_struct
def gB:=@Bool.or_eq_false_iff
def gC:=@List.Pairwise.filter
def gD:=@List.pairwise_append
def gE:=@Nat.pow_lt_pow_right
def gF:=@Nat.add_mul
def gG:=@Go.strOfNums_data
def gH:=@not_or
def gI:=@Go.Proofs.Tryz.func91
def gJ:=@Go.mem_ready
def gK:=@List.flatten_append
def gL:=@Nat.mul_le_mul_left
def gM:=@List.length_pos_iff
def gN:=@List.mapM_nil
def gO:=@List.all_cons
def gP:=@ByteArray.ext
def gQ:=@Bool.not_true
def gR:=@Nat.mul_assoc
def gT:=@Bool.false_or
def gU:=@Nat.zero_mul
def gV:=@Int.mul_zero
def gW:=@Nat.mul_add
def gX:=@Nat.pow_add
variable {p F:Prop}{a:Act}{b c B g cap m bytes n2 n' d mb i j fuel id b' base f:Nat}{w w' w1 w2:World}{o oi:Oper}{l l2 cells:List Value}{T eF eT:TypeId}{ops:Array Oper}{rest:List Oper}{Q:Exit -> Act -> World -> Prop}{α κ:Type}{O O2:Nat -> Prop}{z xv tv v1 v':Value}{x y:Code}{iw:Array Bool}{us:List Nat}{txt:ByteArray}{tbl:Int}{cs args:Array Value}{fr:Nat × Nat}{R:Ending -> World -> Prop}{op:BinOp}
theorem gZ (h:p:=by omega): p:=h
theorem iz (h:p:=by simp): p:=h
theorem j9 (h:p:=by decide): p:=h
theorem _root_.Go.RowKit.Below.iR {a b c:World}(h:RowKit.Below a.heap.size a b) (k:RowKit.Below b.heap.size b c): RowKit.Below a.heap.size a c:=h.trans (k.mono h.size)
abbrev iF (b:Nat):Value:=.pointer (some ⟨b,0,none⟩)
abbrev Iq (x:Int):Value:=.int .i64 x
abbrev iB (a b:World):Prop:=RowKit.Below a.heap.size a b
theorem jZ {o:Nat}{v:Value}(hb:b<w.heap.size) (hc:w.cell? ⟨b,o,none⟩=some v) (x:World) (hx:RowKit.Below w.heap.size w x): x.cell? ⟨b,o,none⟩=some v:=(hx.cell (p:=⟨b,o,none⟩) hb).trans hc
open Go.RowKit
def Pl (w w':World):Prop:=∃n,w'=w.drewN n
theorem Pl.mk (w:World) (n:Nat): Pl w (w.drewN n):=⟨n,rfl⟩
def nth (l:List Int) (j:Nat):Int:=l.getD j 0
def Row (k:IntKind) (w:World) (b o:Nat) (l:List Int):Prop :=
 ∀j,j<l.length -> w.cell? ⟨b,o+j,none⟩=some (.int k (nth l j))
theorem Row.at {k:IntKind}{o:Nat}{l:List Int}(h:Row k w b o l) (j:Nat) (hj:j<l.length):
  w.cell? ⟨b,o+j,none⟩=some (.int k (nth l j)):=h j hj
theorem Row.yV {k:IntKind}{o:Nat}{l:List Int}(h:Row k w b o l) (j i:Nat) (hj:j<l.length) (hi:i=o+j):
  w.cell? ⟨b,i,none⟩=some (.int k (nth l j)):=by subst hi;exact h j hj
theorem qw (l:List Int) (i:Nat) (x:Int) (h:i<l.length): nth (l.set i x) i=x:=by
 simp[nth,h]
theorem pk (l:List Int) (i j:Nat) (x:Int) (h:j≠i): nth (l.set i x) j=nth l j:=by
 simp[nth,de h]
theorem Row.iP {k:IntKind}{o:Nat}{l:List Int}(h:Row k w b o l) (hb:w'.heap[b]? = w.heap[b]?): Row k w' b o l:=by
 intro j hj;rw[<- h j hj];exact bD (w:=w) hb
theorem Row.below {k:IntKind}{o:Nat}{l:List Int}(h:Row k w b o l) (hb:Below B w w') (hB:b<B): Row k w' b o l :=
 h.iP (hb.block b hB)
def jA (k:IntKind) (T:TypeId) (w:World) (b:Nat) (l:List Int):Prop :=
 w.heap[b]? = some (.cells (l.map (Value.int k)).toArray T (0,0))
def h_ (T:TypeId) (w:World) (b:Nat) (l:List Value):Prop:=w.heap[b]? = some (.cells l.toArray T (0,0))
theorem h_.lt (h:h_ T w b l): b<w.heap.size:=lt_of_block h
theorem h_.cell (h:h_ T w b l) (j:Nat) (hj:j<l.length):
  w.cell? ⟨b,j,none⟩=some (l.getD j undef):=by
 have h':w.heap[b]? = some (.cells l.toArray T (0,0)):=h;rw[eE w b j _ _ _ h'];simp[hj]
theorem h_.free (h:h_ T w b l) (j:Nat): w.frozen? ⟨b,j,none⟩=false:=by
 have h':w.heap[b]? = some (.cells l.toArray T (0,0)):=h;simp[World.frozen?,h']
theorem h_.set (h:h_ T w b l) (j:Nat) (v:Value):
  h_ T (w.setCell ⟨b,j,none⟩ v) b (l.set j v):=by
 have iS:=h.lt;have h':w.heap[b]? = some (.cells l.toArray T (0,0)):=h;have h'':w.heap[b]=.cells l.toArray T (0,0):=by simpa[fF iS] using h'
 show(w.heap.modify b _)[b]? = _
 rw[fF (by simpa using iS),Array.getElem_modify_self,h''];simp
theorem h_.iP (h:h_ T w b l) (hb:w'.heap[b]? = w.heap[b]?): h_ T w' b l:=hb.trans h
theorem h_.other (h:h_ T w b l) (a:Addr) (v:Value) (hb:b≠a.block): h_ T (w.setCell a v) b l :=
 h.iP (Below.heap_setCell w a v b hb)
theorem h_.alloc (h:h_ T w b l) (ob:Obj): h_ T (w.alloc ob) b l :=
 h.iP (Below.heap_alloc w ob b h.lt)
theorem h_.drewN (h:h_ T w b l) (n:Nat): h_ T (w.drewN n) b l:=h
theorem h_.mk (w:World) (l:List Value) (T:TypeId): h_ T (w.alloc (.cells l.toArray T)) w.heap.size l:=by
 show(w.heap.push _)[w.heap.size]? = _
 simp
theorem jA.v {k:IntKind}{l:List Int}(h:jA k T w b l): h_ T w b (l.map (Value.int k)):=h
theorem jA.lt {k:IntKind}{l:List Int}(h:jA k T w b l): b<w.heap.size:=h.v.lt
theorem jA.cell {k:IntKind}{l:List Int}(h:jA k T w b l) (j:Nat) (hj:j<l.length):
  w.cell? ⟨b,j,none⟩=some (.int k (nth l j)):=by
 rw[h.v.cell j (by simpa using hj)];simp[nth,hj]
theorem jA.F3 {k:IntKind}{l:List Int}(h:jA k T w b l) (i j:Nat) (hj:j<l.length) (hi:i=j):
  w.cell? ⟨b,i,none⟩=some (.int k (nth l j)):=by subst hi;exact h.cell i hj
theorem jA.row {k:IntKind}{l:List Int}(h:jA k T w b l): Row k w b 0 l :=
 fun j hj=>by rw[a_];exact h.cell j hj
theorem jA.free {k:IntKind}{l:List Int}(h:jA k T w b l) (j:Nat): w.frozen? ⟨b,j,none⟩=false:=h.v.free j
theorem jA.set {k:IntKind}{l:List Int}(h:jA k T w b l) (j:Nat) (x:Int):
  jA k T (w.setCell ⟨b,j,none⟩ (.int k x)) b (l.set j x):=by
 have:=h.v.set j (.int k x);unfold jA;rw[List.map_set];exact this
theorem jA.iP {k:IntKind}{l:List Int}(h:jA k T w b l) (hb:w'.heap[b]? = w.heap[b]?): jA k T w' b l:=hb.trans h
theorem jA.other {k:IntKind}{l:List Int}(h:jA k T w b l) (a:Addr) (v:Value) (hb:b≠a.block): jA k T (w.setCell a v) b l :=
 h.iP (Below.heap_setCell w a v b hb)
theorem jA.alloc {k:IntKind}{l:List Int}(h:jA k T w b l) (ob:Obj): jA k T (w.alloc ob) b l :=
 h.iP (Below.heap_alloc w ob b h.lt)
theorem jA.drewN {k:IntKind}{l:List Int}(h:jA k T w b l) (n:Nat): jA k T (w.drewN n) b l:=h
structure ib (K:Nat -> Prop) (w w':World):Prop where
 os:w'.os=w.os
 tape:w'.tape=w.tape
 output:w'.output=w.output
 size:w.heap.size <= w'.heap.size
 block:∀k,K k -> w'.heap[k]? = w.heap[k]?
theorem ib.refl (K:Nat -> Prop) (w:World): ib K w w:=⟨rfl,rfl,rfl,af _,fun _ _=>rfl⟩
theorem ib.trans {K:Nat -> Prop}{a b c:World}(h:ib K a b) (k:ib K b c): ib K a c :=
 ⟨k.os.trans h.os,k.tape.trans h.tape,k.output.trans h.output,aU h.size k.size,fun i hi=>(k.block i hi).trans (h.block i hi)⟩
theorem ib.mono {K K':Nat -> Prop}(h:ib K w w') (hK:∀k,K' k -> K k): ib K' w w':=⟨h.os,h.tape,h.output,h.size,fun k hk=>h.block k (hK k hk)⟩
theorem ib.drewN {K:Nat -> Prop}{a:World}(h:ib K a w) (n:Nat): ib K a (w.drewN n):=⟨h.os,h.tape,h.output,h.size,h.block⟩
theorem ib.alloc {K:Nat -> Prop}{a:World}(h:ib K a w) (hK:∀k,K k -> k<w.heap.size) (o:Obj): ib K a (w.alloc o) :=
 h.trans ⟨rfl,rfl,rfl,iz,fun k hk=>Below.heap_alloc _ _ _ (hK k hk)⟩
theorem ib.setCell {K:Nat -> Prop}{a:World}(h:ib K a w) {p:Addr}(hp:¬K p.block) (u:Value): ib K a (w.setCell p u) :=
 h.trans ⟨rfl,rfl,rfl,by simp[World.setCell],fun k hk=>Below.heap_setCell _ _ _ _ (fun e=>hp (e ▸ hk))⟩
theorem ib.ic (h:Below B w w'): ib (fun k=>k<B) w w':=⟨h.os,h.tape,h.output,h.size,h.block⟩
theorem ib.below (h:ib (fun k=>k<B) w w'): Below B w w':=⟨h.os,h.tape,h.output,h.size,h.block⟩
theorem ib.cell {K:Nat -> Prop}(h:ib K w w') {p:Addr}(hp:K p.block): w'.cell? p=w.cell? p:=bD (w:=w) (h.block p.block hp)
theorem Row.ij {K:Nat -> Prop}{k:IntKind}{o:Nat}{l:List Int}(h:Row k w b o l) (hb:ib K w w') (hB:K b): Row k w' b o l:=h.iP (hb.block b hB)
theorem jA.ij {K:Nat -> Prop}{k:IntKind}{l:List Int}(h:jA k T w b l) (hb:ib K w w') (hB:K b): jA k T w' b l:=h.iP (hb.block b hB)
theorem h_.ij {K:Nat -> Prop}(h:h_ T w b l) (hb:ib K w w') (hB:K b): h_ T w' b l:=h.iP (hb.block b hB)
theorem jA.below {k:IntKind}{l:List Int}(h:jA k T w b l) (hb:Below B w w') (hB:b<B): jA k T w' b l:=h.iP (hb.block b hB)
theorem h_.below (h:h_ T w b l) (hb:Below B w w') (hB:b<B): h_ T w' b l:=h.iP (hb.block b hB)
section
variable {P:Program}{f:FuncId}{args:Array Value}{w:World}{a n:Nat}{v:Value}
theorem GD (h:Calls P f args (w.drewN n) fun e w'=>e=.returned v /\ w.drewN n=w'): Calls P f args (w.drewN n) fun e UB=>e=.returned v /\ ∃m,UB=w.drewN m :=
 h.mono fun _ _ ⟨he,hm⟩=>⟨he,n,hm.symm⟩
theorem rF (h:Calls P f args (w.drewN (a+n)) fun e w'=>e=.returned v /\ w.drewN (a+n)=w'): Calls P f args (w.drewN (a+n)) fun e UB=>e=.returned v /\ ∃m,UB=w.drewN (a+m) :=
 h.mono fun _ _ ⟨he,hm⟩=>⟨he,n,hm.symm⟩
end
theorem oZ {P:Program}(hg:o.guard=none) (t:TypeId) (parts:Array (Nat × Operand)) (ho:o.op=.build t parts) (cells:Array Value) (hf:P.built t (parts.map fun(i,x)=>(i,a.eval x)).toList=some cells) (h:wpList P ops Q rest (a.put o.dst (.agg cells)) w): wpList P ops Q (o :: rest) a w :=
 wpList_build hg t parts ho (by rw[hf];rfl) (by rw[hf];exact h)
theorem below_setRow {a:World}(h:Below B a w) (hg:B <= g) (cs:Array Value): Below B a (w.setRow g cs) :=
 h.trans ⟨rfl,rfl,rfl,iz,fun k hk=>setRow_other w g k cs gZ⟩
theorem h_.setRow (h:h_ T w b l) (cs:List Value): h_ T (w.setRow b cs.toArray) b cs :=
 setRow_heap w b _ _ _ _ h
theorem h_.setRow_other (h:h_ T w b l) (cs:Array Value) (hb:b≠g): h_ T (w.setRow g cs) b l :=
 h.iP (dC w g b cs hb)
def iH (p:Prop):Prop:=∀q:Prop,(p -> q) -> q
theorem iH.mk (h:p): iH p:=fun _ f=>f h
theorem iH.out (h:iH p): p:=h p id
def Sl (k:IntKind) (w:World) (v:Value) (l:List Int):Prop :=
 ∃sp cap,v=.slice sp l.length cap /\ l.length <= cap /\ cap <= 9223372036854775807 /\ (0<l.length -> ∃b o,sp=some ⟨b,o,none⟩ /\ b<w.heap.size /\ Row k w b o l) /\ (sp=none -> cap=0)
theorem Sl.ic {k:IntKind}{v:Value}{l:List Int}(h:Sl k w v l) (hb:iB w w'): Sl k w' v l:=by
 obtain⟨sp,cap,rfl,h1,h2,h3,h4⟩:=h;exact⟨sp,cap,rfl,h1,h2,fun h0=>let ⟨b,o,e,hl,hr⟩:=h3 h0;⟨b,o,e,ak hl hb.size,hr.below hb hl⟩,h4⟩
theorem Sl.ij {K:Nat -> Prop}{k:IntKind}{v:Value}{l:List Int}(h:Sl k w v l) (hb:ib K w w') (hK:∀b o n c,v=.slice (some ⟨b,o,none⟩) n c -> b<w.heap.size -> K b): Sl k w' v l:=by
 obtain⟨sp,cap,rfl,h1,h2,h3,h4⟩:=h;exact⟨sp,cap,rfl,h1,h2,fun h0=>let ⟨b,o,e,hl,hr⟩:=h3 h0;⟨b,o,e,ak hl hb.size,hr.ij hb (hK b o _ _ (by rw[e]) hl)⟩,h4⟩
theorem Sl.nil (k:IntKind) (w:World): Sl k w (.slice none 0 0) []:=⟨none,0,rfl,iz,gZ,fun h=>by simp at h,fun _=>rfl⟩
theorem Sl.mk {k:IntKind}{o:Nat}{l:List Int}(hl:l.length <= cap) (hc:cap <= 9223372036854775807) (hb:b<w.heap.size) (h:Row k w b o l):
  Sl k w (.slice (some ⟨b,o,none⟩) l.length cap) l:=⟨_,_,rfl,hl,hc,fun _=>⟨b,o,rfl,hb,h⟩,fun h=>by cases h⟩
def lenOf:Value -> Nat|.slice _ n _=>n|_=>0
theorem BB {k:IntKind}{o:Nat}{l:List Int}(h:Row k w b o l) (n:Nat): Row k w b (o+n) (l.drop n):=by
 intro j hj;simp only[aQ] at hj;have:=h (n+j) gZ;rw[show o+n+j=o+(n+j) by omega,this];simp[nth]
theorem Jw {A B:Obj}(hb:Below ((w.alloc A).alloc B).heap.size ((w.alloc A).alloc B) w1):
  w1.heap[w.heap.size]? = some A /\ w1.heap[w.heap.size+1]? = some B /\ iB w w1 /\ w.heap.size+2 <= w1.heap.size:=by
 have hs:((w.alloc A).alloc B).heap.size=w.heap.size+2:=iz;refine⟨?_,?_,?_,?_⟩
 ·rw[hb.block _ (by rw[hs];omega),heap_alloc2_old]
 ·rw[hb.block _ (by rw[hs];omega),heap_alloc2_new]
 ·exact(((Below.refl _ _).alloc (af _) _).alloc iz _).trans (hb.mono (by rw[hs];omega))
 ·rw[<- hs];exact hb.size
theorem Az {P:Program}(w:World) (t e:TypeId) (n:Nat) (d:TypeDesc) (i:TypeInfo) (hu:P.underlying t=some (.array n e)) (hi:P.info? e=some i) (hs:i.size=1)
  (he:P.underlying e=some d) (hd:(match d with|.struct _|.array _ _=>false|_=>true)=true) (cs:Array Value) (k:IntKind) (j:Nat) (h1:j<n) (v:Value) (hv:cs[j]? = some v) :
  (Instr.index t (.agg cs) (.int k j)).run P w=.ok v w:=by
 have Tj:(isAgg e).run P w=.ok false w:=by
  unfold isAgg;rw[bA,run_underlying he w];cases d<;>simp_all
 have h0:(0:Int) <= j /\ (j:Int)<n:=gZ;simp[Instr.index,run_underlying hu,asIntOf,h0,sizeOf,typeInfo,hi,hs,part,Tj,hv,bA]
 omega
theorem ON (Z X:List α) (_h:X.length <= Z.length): splice Z 0 X=X++Z.drop X.length:=by simp[splice]
theorem xW (b o i:Nat): (⟨b,o,none⟩:Addr).add i=⟨b,o+i,none⟩:=by
 unfold Addr.add
 by_cases h:i=0
 ·subst h;rfl
 ·rw[if_neg h]
def CJ (w:World) (b o:Nat) (l:List Value):Prop:=∀j,j<l.length -> w.cell? ⟨b,o+j,none⟩=some (l.getD j undef)
theorem CJ.iP {o:Nat}(h:CJ w b o l) (hb:w'.heap[b]? = w.heap[b]?): CJ w' b o l:=by
 intro j hj;rw[<- h j hj];exact bD (w:=w) hb
theorem CJ.Eo (h:h_ T w b l): CJ w b 0 l:=fun j hj=>by rw[a_];exact h.cell j hj
def kj (l:List Value):Prop:=∀u∈l,u.oneCell'=true
theorem kj.append {l':List Value}(h:kj l) (h':kj l'): kj (l++l'):=fun u hu=>(aq.1 hu).elim (h u) (h' u)
theorem kj.str (l:List ByteArray): kj (l.map Value.string):=fun u hu=>by obtain⟨_,_,rfl⟩:=bg.1 hu;rfl
theorem kj.int (k:IntKind) (l:List Int): kj (l.map (Value.int k)):=fun u hu=>by obtain⟨_,_,rfl⟩:=bg.1 hu;rfl
def n_ (w:World) (O:Nat -> Prop) (m:Nat) (v:Value) (n:Nat) (l:List Value):Prop :=
 l.length=n*m /\ kj l /\ ∃sp cap,v=.slice sp n cap /\ n <= cap /\ cap <= 9223372036854775807 /\ (sp=none -> cap=0) /\ (0<n -> ∃b o,sp=some ⟨b,o,none⟩ /\ b<w.heap.size /\ O b /\ CJ w b o l)
theorem n_.ij {n:Nat}{v:Value}(h:n_ w O m v n l) {K:Nat -> Prop}(hk:ib K w w') (hK:∀b,O b -> b<w.heap.size -> K b): n_ w' O m v n l:=by
 obtain⟨h1,h2,sp,cap,h3,h4,h5,h6,h7⟩:=h;exact⟨h1,h2,sp,cap,h3,h4,h5,h6,fun hn=>let ⟨b,o,e,hb,hO,hr⟩:=h7 hn;⟨b,o,e,ak hb hk.size,hO,hr.iP (hk.block b (hK b hO hb))⟩⟩
theorem n_.below {n:Nat}{v:Value}(h:n_ w O m v n l) (hk:Below B w w') (hB:w.heap.size <= B): n_ w' O m v n l :=
 h.ij (ib.ic hk) (fun _ _ hb=>ak hb hB)
def iK (e:TypeId) (m:Nat) (w:World) (O:Nat -> Prop) (v:Value) (n:Nat) (l:List Value):Prop :=
 w.ownsRow 0 e m v n l /\ kj l /\ ∀g,v.ownBlock=some g -> O g
theorem iK.nil (e:TypeId) (m:Nat) (w:World) (O:Nat -> Prop): iK e m w O (.slice none 0 0) 0 []:=⟨World.ownsRow_nil _ _ _ _,fun _ h=>(aR h).elim,fun g h=>by cases h⟩
theorem iK.len {e:TypeId}{v:Value}{n:Nat}(h:iK e m w O v n l): l.length=n*m:=h.1.1
theorem iK.form {e:TypeId}{v:Value}{n:Nat}(h:iK e m w O v n l):
  (v=.slice none 0 0 /\ n=0 /\ l=[]) \/ ∃g cap cur,v=.slice (some ⟨g,0,none⟩) n cap /\ O g /\ g<w.heap.size /\ w.heap[g]? = some (.cells cur e (0,0)) /\ n <= cap /\ cap <= maxLen /\ cur.size=cap*m /\ cur.toList.take (n*m)=l:=by
 obtain⟨⟨h1,h2⟩,-,h3⟩:=h;rcases h2 with⟨rfl,rfl⟩|⟨g,cap,cur,rfl,-,hg,h4,h5,h6,h7⟩
 ·exact .inl ⟨rfl,rfl,bj (by simpa using h1)⟩
 ·exact .inr ⟨g,cap,cur,rfl,h3 g rfl,lt_of_block hg,hg,h4,h5,h6,h7⟩
theorem iK.DC {e:TypeId}{v:Value}{n:Nat}(h:iK e m w O v n l): n_ w O m v n l:=by
 refine⟨h.1.1,h.2.1,?_⟩;have hc:=h;rcases h.form with⟨rfl,rfl,rfl⟩|⟨g,cap,cur,rfl,hO,iS,hg,h4,h5,h6,h7⟩
 ·exact⟨none,0,rfl,gZ,gZ,fun _=>rfl,fun h=>by omega⟩
 ·refine⟨_,cap,rfl,h4,h5,(fun h=>by cases h),fun _=>⟨g,0,rfl,iS,hO,fun j hj=>?_⟩⟩
  rw[a_];have:=df hc.1 j (by rw[<- hc.1.1];exact hj);rw[this];simp[hj]
theorem iK.slice {e:TypeId}{v:Value}{n:Nat}(h:iK e m w O v n l): ∃sp cap,v=.slice sp n cap /\ n <= cap /\ cap <= 9223372036854775807:=by
 rcases h.form with⟨rfl,rfl,-⟩|⟨g,cap,cur,rfl,-,-,-,h4,h5,-⟩
 ·exact⟨none,0,rfl,gZ,gZ⟩
 ·exact⟨_,_,rfl,h4,by unfold maxLen at h5;exact h5⟩
theorem iK.iP {e:TypeId}{v:Value}{n:Nat}(h:iK e m w O v n l) (hb:∀g,v.ownBlock=some g -> w'.heap[g]? = w.heap[g]?): iK e m w' O v n l:=by
 refine⟨⟨h.1.1,?_⟩,h.2⟩;rcases h.1.2 with hn|⟨g,cap,cur,rfl,Hp,hg,r⟩
 ·exact .inl hn
 ·exact .inr ⟨g,cap,cur,rfl,Hp,by rw[hb g rfl];exact hg,r⟩
theorem iK.lt {e:TypeId}{v:Value}{n:Nat}(h:iK e m w O v n l) (hg:v.ownBlock=some g): g<w.heap.size:=(World.ownsRow.lt h.1 g hg).2
theorem iK.own {e:TypeId}{v:Value}{n:Nat}(h:iK e m w O v n l) (hg:v.ownBlock=some g): O g:=h.2.2 g hg
theorem iK.ij {e:TypeId}{v:Value}{n:Nat}(h:iK e m w O v n l) {K:Nat -> Prop}(hk:ib K w w') (hK:∀g,v.ownBlock=some g -> K g): iK e m w' O v n l :=
 h.iP fun g hg=>hk.block g (hK g hg)
theorem iK.mono {e:TypeId}{O':Nat -> Prop}{v:Value}{n:Nat}(h:iK e m w O v n l) (hO:∀b,O b -> O' b): iK e m w O' v n l:=⟨h.1,h.2.1,fun g hg=>hO g (h.2.2 g hg)⟩
theorem iK.alloc {e:TypeId}{v:Value}{n:Nat}(h:iK e m w O v n l) (o:Obj): iK e m (w.alloc o) O v n l :=
 h.iP fun g hg=>Below.heap_alloc w o g (h.lt hg)
theorem iK.tag {e:TypeId}{v:Value}{n:Nat}(h:iK e m w O v n l) (hg:v.ownBlock=some g): ∃cur,w.heap[g]? = some (.cells cur e (0,0)):=by
 rcases h.form with⟨rfl,-⟩|⟨g',cap,cur,rfl,-,-,U2,-⟩
 ·cases hg
 ·cases hg;exact⟨cur,U2⟩
theorem iK.stored {e:TypeId}{n:Nat}(h:iK e m w O (.slice (some ⟨g,0,none⟩) n cap) n l) (j:Nat) {u:Value}(hu:u.oneCell'=true):
  iK e m (w.setCell ⟨g,j,none⟩ u) O (.slice (some ⟨g,0,none⟩) n cap) n (l.set j u) :=
 ⟨(World.ownsRow.stored h.1 j u).1,fun x hx=>by
  rcases cM hx with h1|rfl
  ·exact h.2.1 x h1
  ·exact hu,h.2.2⟩
theorem iK.free {e:TypeId}{n:Nat}(h:iK e m w O (.slice (some ⟨g,0,none⟩) n cap) n l) (j:Nat): w.frozen? ⟨g,j,none⟩=false:=World.ownsRow.frozenAt h.1 j
theorem iK.at {e:TypeId}{n:Nat}(h:iK e m w O (.slice (some ⟨g,0,none⟩) n cap) n l) (j:Nat) (hj:j<l.length): w.cell? ⟨g,j,none⟩=some (l.getD j undef):=by
 rw[df h.1 j (by rw[<- h.1.1];exact hj)];simp[hj]
structure lK (P:Program) (t e:TypeId) (m bytes:Nat):Prop where
 ht:P.underlying t=some (.slice e)
 pos:0<m
 ex:∃i z,P.info? e=some i /\ i.zero=some z /\ i.size=m /\ i.bytes=bytes /\ z.cells.size=m
theorem lK.mk' {P:Program}{t e:TypeId}(ht:P.underlying t=some (.slice e)) (hi:(P.info? e).map (fun i=>(i.zero,i.size,i.bytes))=some (some z,m,bytes)) (hz:z.cells.size=m) (hp:0<m): lK P t e m bytes :=
 ⟨ht,hp,let ⟨i,h1,h2,h3,h4⟩:=info_parts hi;⟨i,_,h1,h2,h3,h4,hz⟩⟩
theorem oC {r:Option Nat}(hg:w.grownBy w' r): ib (fun b=>b<w.heap.size /\ r≠some b) w w' :=
 ⟨hg.os,hg.tape,hg.output,hg.size,fun k hk=>hg.block k hk.1 (fun e=>hk.2 e.symm)⟩
theorem n_.news {n:Nat}{v:Value}(h:n_ w O m v n l):
  (v=.slice none 0 0 /\ n=0 /\ l=[]) \/ ∃ad cap,v=.slice (some ad) n cap /\ n <= cap /\ ∀j u,l[j]? = some u -> w.cell? (ad.add j)=some u:=by
 obtain⟨h1,h2,sp,cap,h3,h4,h5,h6,h7⟩:=h;cases pX:sp with
 | none=>
  have:=h6 pX;have hn:n=0:=gZ;subst hn;exact .inl ⟨by rw[h3,pX,this],rfl,bj (by simpa using h1)⟩
 | some ad=>
  refine .inr ⟨ad,cap,by rw[h3,pX],h4,fun j u hu=>?_⟩;have hj:j<l.length:=by
   rcases aO j l.length with h|h
   ·exact h
   ·simp[h] at hu
  have hn:0<n:=by
   rcases fA n with h0|h0
   ·subst h0;simp at h1;rw[h1] at hj;cases hj
   ·exact h0
  obtain⟨b,o,e,-,-,hr⟩:=h7 hn;rw[pX] at e;cases e
  rw[xW,hr j hj]
  simpa[hj] using hu
theorem Zg {P:Program}{t ty e:TypeId}(E:lK P t e m bytes) {v:Value}{n:Nat}(iJ:iK e m w O v n l) {x:Value}(hx:n_ w O2 m x n2 l2) (LO:n+n2 <= maxLen) (rp:(n+n2)*bytes <= 140737488355328):
  ∃v' w',(Builtin.append_ #[t,t] ty #[v,x]).run P w=.ok v' w' /\ iK e m w' (fun g=>O g \/ g=w.heap.size) v' (n+n2) (l++l2) /\ w.grownBy w' v.ownBlock /\ (∀g,v'.ownBlock=some g -> v.ownBlock=some g \/ g=w.heap.size):=by
 obtain⟨i,z,hi,hz,zY,vJ,Oa⟩:=E.ex;rcases hx.news with⟨rfl,rfl,rfl⟩|⟨ad,cap,rfl,hc,hn⟩
 ·refine⟨v,w,run_append_owned_none (P:=P) (w:=w) 0 t ty e i m E.ht hi v n _ iJ.1,?_,World.grownBy.refl _ _,fun g hg=>.inl hg⟩
  rw[aS];exact iJ.mono (fun _ h=>.inl h)
 ·rcases fA n2 with h0|h0
  ·subst h0
   have qB:=bj (by simpa using hx.1);subst qB;obtain⟨v',w',hr,h2,h3,h4,h5⟩:=run_append_own_at (P:=P) w 0 t ty e i z m bytes E.ht hi hz zY vJ Oa E.pos v n l iJ.1 ad 0 cap [] iz iz iz LO rp (aw _);have h6:∀g,v'.ownBlock=some g -> v.ownBlock=some g \/ g=w.heap.size:=by
    intro g hg;rcases h5 with h5|h5
    ·exact .inl (by rw[<- h5];exact hg)
    ·rw[h5] at hg;cases hg;exact .inr rfl
   exact⟨v',w',hr,⟨h2,iJ.2.1.append hx.2.1,fun g hg=>(h6 g hg).imp (iJ.2.2 g) id⟩,h3,h6⟩
  ·obtain⟨g,c,w',hr,h2,h3,h4,h5⟩:=run_append_lies (P:=P) w t ty 0 e i z m bytes E.ht hi hz zY vJ Oa E.pos v n l iJ.1 ad n2 cap l2 hx.1 hn hx.2.1 h0 LO rp (aw _) w.heap.size rfl
   have h6:∀g',(Value.slice (some ⟨g,0,none⟩) (n+n2) c).ownBlock=some g' -> v.ownBlock=some g' \/ g'=w.heap.size:=by
    intro g' hg;cases hg;exact h4
   exact⟨_,w',hr,⟨h2,iJ.2.1.append hx.2.1,fun g hg=>(h6 g hg).imp (iJ.2.2 g) id⟩,h3,h6⟩
theorem Q0 {P:Program}{K:Act -> World -> Prop}(s x:Operand) (t:TypeId) (ho:o.op=.call { callee:=.builtin .append,args:=#[s,x],argTypes:=#[t,t]}) {e:TypeId}(E:lK P t e m bytes) {v:Value}{n:Nat}(hs:a.eval s=v) (iJ:iK e m w O v n l) (hx:a.eval x=xv) (lU:n_ w O2 m xv n2 l2) (hn:n+n2=n') (LO:n' <= maxLen) (rp:n'*bytes <= 140737488355328) (h:∀sp c w',iK e m w' (fun g=>O g \/ g=w.heap.size) (.slice sp n' c) n' (l++l2) -> w.grownBy w' v.ownBlock -> (∀g,(Value.slice sp n' c).ownBlock=some g -> v.ownBlock=some g \/ g=w.heap.size) -> K (a.put o.dst (.slice sp n' c)) w'): o.wp P a w K Q:=by
 subst hn;obtain⟨v',w',hr,h2,h3,h4⟩:=Zg (P:=P) (ty:=o.type) E iJ lU LO rp;have hv:∃sp c,v'=.slice sp (n+n2) c:=by
  rcases h2.form with⟨rfl,h0,-⟩|⟨g,cap,cur,rfl,-⟩
  ·exact⟨none,0,by rw[h0]⟩
  ·exact⟨_,_,rfl⟩
 obtain⟨sp,c,rfl⟩:=hv;unfold Oper.wp execOp;simp only[ho,resolve,invoke,builtin,bA,eJ,bm,cn,aM,cT,hs,hx,hr];exact h sp c w' h2 h3 h4
theorem uX {P:Program}(sT:o.guard=none) (s x:Operand) (t:TypeId) (ho:o.op=.call { callee:=.builtin .append,args:=#[s,x],argTypes:=#[t,t]}) {e:TypeId}(E:lK P t e m bytes) {v:Value}{n:Nat}(hs:a.eval s=v) (iJ:iK e m w O v n l) (hx:a.eval x=xv) (lU:n_ w O2 m xv n2 l2) (hn:n+n2=n') (LO:n' <= maxLen) (rp:n'*bytes <= 140737488355328) (h:∀sp c w',iK e m w' (fun g=>O g \/ g=w.heap.size) (.slice sp n' c) n' (l++l2) -> w.grownBy w' v.ownBlock -> (∀g,(Value.slice sp n' c).ownBlock=some g -> v.ownBlock=some g \/ g=w.heap.size) -> wpList P ops Q rest (a.put o.dst (.slice sp n' c)) w'): wpList P ops Q (o :: rest) a w :=
 eL sT fun _ hK=>Q0 s x t ho E hs iJ hx lU hn LO rp fun sp c w' h2 h3 h4=>hK _ _ (h sp c w' h2 h3 h4)
theorem T5 {P:Program}{K:Act -> World -> Prop}(sT:o.guard=none) (s x:Operand) (t:TypeId) (ho:o.op=.call { callee:=.builtin .append,args:=#[s,x],argTypes:=#[t,t]}) {e:TypeId}(E:lK P t e m bytes) {v:Value}{n:Nat}(hs:a.eval s=v) (iJ:iK e m w O v n l) (hx:a.eval x=xv) (lU:n_ w O2 m xv n2 l2) (hn:n+n2=n') (LO:n' <= maxLen) (rp:n'*bytes <= 140737488355328) (h:∀sp c w',iK e m w' (fun g=>O g \/ g=w.heap.size) (.slice sp n' c) n' (l++l2) -> w.grownBy w' v.ownBlock -> (∀g,(Value.slice sp n' c).ownBlock=some g -> v.ownBlock=some g \/ g=w.heap.size) -> K (a.put o.dst (.slice sp n' c)) w'):
  if Region.wanted o (yielded ops a.tmps)=true then Oper.wp P o a w K Q else F:=by
 rw[if_pos (by simp[Region.wanted,sT])];exact Q0 s x t ho E hs iJ hx lU hn LO rp h
theorem GZ {P:Program}{K:Act -> World -> Prop}(sT:o.guard=none) (s x:Operand) (t:TypeId) (ho:o.op=.call { callee:=.builtin .append,args:=#[s,x],argTypes:=#[t,t]}) {e:TypeId}(E:lK P t e m bytes) {sp:Option Addr}{n cc:Nat}(hs:a.eval s=.slice sp n n) (iJ:n_ w O m (.slice sp n cc) n l) (hx:a.eval x=xv) (lU:n_ w O2 m xv n2 l2) (h0:0<n2) (hn:n+n2=n') (LO:n' <= maxLen) (rp:n'*bytes <= 140737488355328) (h:∀sp c w',iK e m w' (fun g=>w.heap.size <= g) (.slice sp n' c) n' (l++l2) -> w.grownBy w' none -> K (a.put o.dst (.slice sp n' c)) w'):
  if Region.wanted o (yielded ops a.tmps)=true then Oper.wp P o a w K Q else F:=by
 subst hn;obtain⟨i,z,hi,hz,zY,vJ,Oa⟩:=E.ex;rcases lU.news with⟨rfl,rfl,-⟩|⟨ad,cap,rfl,hc,hnw⟩
 ·omega
 ·refine step_append_grows sT s x t ho e i z m bytes E.ht hi hz zY vJ Oa E.pos sp n n l hs ?_ iJ.1 ?_ ad n2 cap l2 hx lU.1 hnw lU.2.1 gZ LO rp ?_
  ·intro e0;subst e0
   rcases iJ.news with⟨-,h1,-⟩|⟨_,_,h1,_⟩
   ·exact⟨h1,h1⟩
   ·cases h1
  ·intro b hb;subst hb
   rcases iJ.news with⟨h1,-,-⟩|⟨ad',cp,h1,-,h2⟩
   ·cases h1
   ·injection h1 with h1 _ _;cases h1;exact h2
  ·intro v' w' h1 h2
   rcases h1.2 with⟨-,h3⟩|⟨g,oc,cur,rfl,hb,r⟩
   ·omega
   ·exact h _ _ w' ⟨⟨h1.1,.inr ⟨g,oc,cur,rfl,aw _,r⟩⟩,iJ.2.1.append lU.2.1,fun g' e=>by cases e;exact hb⟩ h2
theorem n_.fresh (w:World) (O:Nat -> Prop) (T:TypeId) {n:Nat}(hl:l.length=n*m) (h1:kj l) (hO:O w.heap.size) (hn:n <= maxLen):
  n_ (w.alloc (.cells l.toArray T)) O m (.slice (some ⟨w.heap.size,0,none⟩) n n) n l :=
 ⟨hl,h1,_,n,rfl,af _,by unfold maxLen at hn;exact hn,(fun h=>by cases h),fun _=>⟨_,0,rfl,iz,hO,CJ.Eo (h_.mk w l T)⟩⟩
theorem iK.empty (w:World) (e:TypeId) (m:Nat): iK e m (w.alloc (.cells #[] e)) (fun g=>g=w.heap.size) (.slice (some ⟨w.heap.size,0,none⟩) 0 0) 0 [] :=
 ⟨⟨iz,.inr ⟨w.heap.size,0,#[],rfl,aw _,heap_alloc_new _ _,gZ,by unfold maxLen;omega,iz,iz⟩⟩,fun _ h=>(aR h).elim,fun g h=>by cases h;rfl⟩
theorem zF (h:Below B w w') (n:Nat): Below B w (w'.drewN n):=((ib.ic h).drewN n).below
theorem afJ {a b:ByteArray}(h:a.toList=b.toList): a=b:=by
 rw[aD,aD] at h;exact WideShapes.bytes_inj h
theorem af2 {a b:ByteArray}(h:a≠b): ¬a.toList=b.toList:=fun e=>h (afJ e)
theorem results_cell_tmp {P:Program}{fn:Func}{p q:Tmp}{ty:TypeId}(h:fn.results=#[.cell p ty,.tmp q]) (tmps:Array Value) (w:World) (g:Nat) (t:TypeId) (cs:Array Value) (fr:Nat × Nat) (d:TypeDesc) (x:Value)
  (hp:tmps.getD p undef=iF g) (hg:w.heap[g]? = some (.cells cs t fr))
  (hu:P.underlying ty=some d) (hd:(match d with|.struct _|.array _ _=>true|_=>false)=true) (hi:(P.info? ty).map (·.size)=some cs.size) (hx:tmps.getD q undef=x) :
  (results fn tmps).run P w=.ok (.tuple #[.agg cs,x]) w:=by
 have hp':tmps[p]?.getD undef=iF g:=by simpa using hp
 have VG:tmps[q]?.getD undef=x:=by simpa using hx
 simp[results,h,hp',VG,asAddr,run_loadVar_row w g t ty cs fr d hg hu hd hi]
open Go.Maps
def AS (v:Value):Option (DataW Value × List MemPlace):=some (.held v,[])
def orD (x:Option Value) (z:DataW Value):DataW Value:=match x with|some v=>.held v|none=>z
def MF {κ:Type}(P:Program) (k:TypeId) (mk:κ -> Value) (w:World) (b n:Nat) (F:κ -> Option Value):Prop :=
 ∃D,w.ownsMap P k AS b n D /\ ∀x kl,keyOf P k (mk x)=some kl -> ∀z,D.atKey kl z=orD (F x) z
def nH {κ:Type}[DecidableEq κ] (F:κ -> Option Value) (key:κ) (d:Value):κ -> Option Value:=fun x=>if x=key then some d else F x
def xG {κ:Type}[DecidableEq κ] (F:κ -> Option Value) (key:κ):κ -> Option Value:=fun x=>if x=key then none else F x
theorem RY [DecidableEq κ] (F:κ -> Option Value) (key:κ) (d:Value): nH F key d key=some d:=by simp[nH]
theorem NH [DecidableEq κ] (F:κ -> Option Value) {key x:κ}(d:Value) (h:x≠key): nH F key d x=F x:=by simp[nH,h]
theorem G4 [DecidableEq κ] (F:κ -> Option Value) (key:κ): xG F key key=none:=by simp[xG]
theorem Eg [DecidableEq κ] (F:κ -> Option Value) {key x:κ}(h:x≠key): xG F key x=F x:=by simp[xG,h]
section
variable {κ:Type}{P:Program}{k:TypeId}{mk:κ -> Value}{w:World}{b n:Nat}{F:κ -> Option Value}
theorem MF.lt (h:MF P k mk w b n F): b<w.heap.size:=by obtain⟨D,h,_⟩:=h;exact h.lt
theorem MF.made (P:Program) (k:TypeId) (mk:κ -> Value) (w:World): MF P k mk (w.alloc (.map #[] 0)) w.heap.size 0 (fun _=>none) :=
 ⟨_,World.ownsMap_made w P k AS,fun _ _ _ _=>rfl⟩
theorem MF.mono (h:MF P k mk w b n F) (hn:n <= n'): MF P k mk w b n' F:=by obtain⟨D,h,hF⟩:=h;exact⟨D,h.mono hn,hF⟩
theorem MF.iP (h:MF P k mk w b n F) (hb:w'.heap[b]? = w.heap[b]?): MF P k mk w' b n F:=by
 obtain⟨D,⟨es,clock,h1,h2⟩,hF⟩:=h;exact⟨D,⟨es,clock,hb.trans h1,h2⟩,hF⟩
theorem MF.ij {K:Nat -> Prop}(h:MF P k mk w b n F) (hk:ib K w w') (hb:K b): MF P k mk w' b n F:=h.iP (hk.block b hb)
theorem MF.below (h:MF P k mk w b n F) (hk:Below B w w') (hb:b<B): MF P k mk w' b n F:=h.iP (hk.block b hb)
theorem MF.alloc (h:MF P k mk w b n F) (o:Obj): MF P k mk (w.alloc o) b n F:=h.iP (Below.heap_alloc w o b h.lt)
theorem MF.other (h:MF P k mk w b n F) (a:Addr) (v:Value) (hb:b≠a.block): MF P k mk (w.setCell a v) b n F:=h.iP (Below.heap_setCell w a v b hb)
theorem MF.drewN (h:MF P k mk w b n F) (m:Nat): MF P k mk (w.drewN m) b n F:=h
theorem MF.congr (h:MF P k mk w b n F) {F':κ -> Option Value}(hF:∀x,F' x=F x): MF P k mk w b n F':=by
 obtain⟨D,h,h'⟩:=h;exact⟨D,h,fun key kl hk z=>by rw[hF key];exact h' key kl hk z⟩
theorem MF.look {t e:TypeId}(h:MF P k mk w b n F) (K:Keyed P k) (ht:P.underlying t=some (.map k e)) (hz:(zeroValue e).run P w=.ok z w) {key:κ}{kl:Lit}(jU:keyOf P k (mk key)=some kl): (Instr.lookup t (.map (some b)) (mk key) false).run P w=.ok ((F key).getD z) w:=by
 obtain⟨D,h,hF⟩:=h;obtain⟨v,ps,h1,h2⟩:=h.lookup K ht hz (zd:=.held z) (zp:=[]) rfl jU;rw[hF key kl jU] at h2;rw[h1];cases hx:F key with
 | none=>rw[hx] at h2;simp[orD,AS] at h2;simp[h2.1]
 | some y=>rw[hx] at h2;simp[orD,AS] at h2;simp[h2.1]
theorem MF.al5 {t e:TypeId}(h:MF P k mk w b n F) (K:Keyed P k) (ht:P.underlying t=some (.map k e)) (hz:(zeroValue e).run P w=.ok z w) {key:κ}{kl:Lit}(jU:keyOf P k (mk key)=some kl): (Instr.lookup t (.map (some b)) (mk key) true).run P w=.ok (.tuple #[(F key).getD z,.bool (F key).isSome]) w:=by
 obtain⟨D,h,hF⟩:=h;obtain⟨v,ps,h1,h2⟩:=h.look_ok K ht hz (zd:=.held z) (zp:=[]) rfl jU;have h3:=hF key kl jU;rw[h3] at h2;rw[h1];cases hx:F key with
 | none=>
  rw[hx] at h2 h3;simp[orD,AS] at h2;rw[fV (fun z=>h3 z)];simp[h2.1]
 | some y=>
  rw[hx] at h2 h3;simp[orD,AS] at h2;rw[fZ (fun z=>h3 z)];simp[h2.1]
theorem yU (h:w.mapTurned w' b): ib (fun x=>x≠b) w w':=by
 have g:=h.grown;refine⟨g.os,g.tape,g.output,g.size,fun i hi=>?_⟩;obtain⟨es,clock,es',ar4,hb,rfl⟩:=h;exact ChangeMaps.heap_setBlock_other hb _ hi
theorem MF.put [DecidableEq κ] {t e:TypeId}(OT:∀x y,mk x=mk y -> x=y) (h:MF P k mk w b n F) (K:Keyed P k) (ht:P.underlying t=some (.map k e)) (hn:n<maxLen) {key:κ}(val:Value) {kl:Lit}(jU:keyOf P k (mk key)=some kl): ∃w',(Instr.mapUpdate t (.map (some b)) (mk key) val).run P w=.ok () w' /\ MF P k mk w' b (n+1) (nH F key val) /\ ib (fun x=>x≠b) w w':=by
 obtain⟨D,h,hF⟩:=h;obtain⟨w',h1,h2,h3⟩:=h.store K ht hn jU (val:=val) (d:=.held val) (ps:=[]) rfl;refine⟨w',h1,⟨_,h2,fun Rm kl' AK z=>?_⟩,yU h3⟩
 by_cases e:Rm=key
 ·subst e
  rw[jU] at AK;cases AK;rw[RY,atKey_put_same h.isMap (K.key jU)];rfl
 ·rw[NH _ _ e,atKey_put_other (fun e'=>e (OT _ _ (K.inj AK (by rw[jU,e']))))]
  exact hF Rm kl' AK z
theorem MF.del [DecidableEq κ] {t e:TypeId}(OT:∀x y,mk x=mk y -> x=y) (h:MF P k mk w b n F) (K:Keyed P k) (ht:P.underlying t=some (.map k e)) {key:κ}{kl:Lit}(jU:keyOf P k (mk key)=some kl) (ty:TypeId):
  ∃w',(Builtin.delete_ #[t,k] ty #[.map (some b),mk key]).run P w=.ok (.tuple #[]) w' /\ MF P k mk w' b n (xG F key) /\ ib (fun x=>x≠b) w w':=by
 obtain⟨D,h,hF⟩:=h;obtain⟨w',h1,h2,h3⟩:=h.drop K ht jU ty;refine⟨w',h1,⟨_,h2,fun Rm kl' AK z=>?_⟩,yU h3⟩
 by_cases e:Rm=key
 ·subst e
  rw[jU] at AK;cases AK;rw[G4,atKey_del_same];rfl
 ·rw[Eg _ e,atKey_del_other (fun e'=>e (OT _ _ (K.inj AK (by rw[jU,e']))))]
  exact hF Rm kl' AK z
end
theorem Za {P:Program}{K:Act -> World -> Prop}(hg:o.guard=none) (m x:Operand) (t k:TypeId) (hop:o.op=Op.call { callee:=Callee.builtin Builtin.delete,args:=#[m,x],argTypes:=#[t,k]}) (mv xv:Value) (hm:a.eval m=mv) (hx:a.eval x=xv) (kz:(Builtin.delete_ #[t,k] o.type #[mv,xv]).run P w=.ok (.tuple #[]) w') (h:K (a.put o.dst (.tuple #[])) w'): if Region.wanted o (yielded ops a.tmps)=true then Oper.wp P o a w K Q else F:=by
 rw[if_pos (by simp[Region.wanted,hg])];unfold Oper.wp;simp[execOp,hop,resolve,invoke,builtin,hm,hx,kz,Result.andThen]
 exact h
namespace Cat
structure Tb where
 name:ByteArray
 dropped:Bool
 fs:List ByteArray
def iX:Tb:=⟨ByteArray.empty,false,[]⟩
def uo (s:ByteArray):Bool:=decide (1 <= s.size) && decide (s.size <= 40)
def lT (eF:TypeId) (w:World) (O:Nat -> Prop) (cells:List Value) (i:Nat) (t:Tb):Prop :=
 cells.getD (i*4) undef=Iq (i+1:Nat) /\ cells.getD (i*4+1) undef=.string t.name /\ cells.getD (i*4+2) undef=.bool t.dropped /\
  iK eF 1 w O (cells.getD (i*4+3) undef) t.fs.length (t.fs.map Value.string)
def r6 (eT eF:TypeId) (w:World) (O:Nat -> Prop) (tv:Value) (L:List Tb):Prop :=
 ∃cells,iK eT 4 w O tv L.length cells /\ ∀i,i<L.length -> lT eF w O cells i (L.getD i iX)
structure Good (L:List Tb):Prop where
 len:L.length <= 64
 each:∀i,i<L.length -> (L.getD i iX).name.size <= 40 /\ (L.getD i iX).fs.length <= 16 /\ (∀f∈(L.getD i iX).fs,f.size <= 40) /\ ((L.getD i iX).dropped=true -> (L.getD i iX).fs=[])
def mk (x:Int × ByteArray):Value:=.agg #[Iq x.1,.string x.2]
def mem (l:List ByteArray) (f:ByteArray):Bool:=l.any fun g=>decide (g=f)
theorem mem_iff (l:List ByteArray) (f:ByteArray): mem l f=true ↔ f∈l:=by unfold mem;simp
theorem AB (f:ByteArray): mem [] f=false:=rfl
theorem Mw (l:List ByteArray) (g f:ByteArray): mem (l++[g]) f=(mem l f || decide (g=f)):=by unfold mem;simp
def has (L:List Tb) (id:Int) (f:ByteArray):Bool:=decide (1 <= id) && decide (id <= L.length) && mem (L.getD (id - 1).toNat iX).fs f
def there (L:List Tb) (id:Int):Bool:=decide (1 <= id) && decide (id <= L.length) && !(L.getD (id - 1).toNat iX).dropped
def uf (L:List Tb) (x:Int × ByteArray):Option Value:=if has L x.1 x.2=true then some (.bool true) else none
def IV (dr:Nat) (L:List Tb):Prop:=dr<18446744073709551616 /\ ∀i,dr.testBit i=(L.getD i iX).dropped
def ln (w:World) (c:Nat) (O:Nat -> Prop) (n:Nat) (L:List Tb):Prop :=
 ∃tv dr mb,h_ 144 w c [tv,.int .u64 (dr:Nat),.map (some mb)] /\ O c /\ O mb /\ (∀b,O b -> b<w.heap.size) /\
  r6 98 100 w O tv L /\ IV dr L /\ MF prog 146 mk w mb n (uf L) /\ Good L
theorem qy (s:ByteArray) (w:World): Calls prog 126 #[.string s] w fun e w'=>e=.returned (.bool (uo s)) /\ w=w':=by
 by_cases h1:1 <= s.size
 ·have yY:(1:Int) <= s.size:=gZ
  go_enter func126,ntmps126
  go_wp2
  go_ret
  exact⟨by simp[uo,h1];omega,rfl⟩
 ·have yY:decide ((1:Int) <= s.size)=false:=decide_eq_false gZ
  go_enter func126,ntmps126
  go_wp2
  go_ret
  exact⟨by simp[uo,h1],rfl⟩
theorem KM: lK prog 96 100 1 16:=lK.mk' (z:=.agg #[.string ByteArray.empty]) underlying96 (by kernel_rfl) rfl gZ
theorem yG {v:Value}{n:Nat}(w:World) (h:n_ w O 1 v n l) (hn:n <= 1000000):
  Calls prog 96 #[v] w fun e w'=>∃sp c,e=.returned (.slice sp n c) /\ iK 100 1 w' (fun b=>w.heap.size <= b) (.slice sp n c) n l /\ iB w w':=by
 rcases h.news with⟨rfl,rfl,rfl⟩|⟨ad,cap,rfl,hc,-⟩
 ·go_enter func96,ntmps96
  have ahJ:=@Lib.run_eql_slice_nil
  go_wp2
  go_ret
  exact⟨_,_,rfl,iK.nil _ _ _ _,Below.refl _ _⟩
 ·have lU:n_ (w.alloc (.cells #[] 100)) O 1 (.slice (some ad) n cap) n l:=h.below ((Below.refl _ _).alloc (af _) _) (af _)
  have H:=iH.mk lU;have qs:∀(w:World) ad n c,(binOp .eql 96 (.slice (some ad) n c) (.slice none 0 0)).run prog w=.ok (.bool false) w:=fun w ad n c=>Lib.run_eql_slice_nil w 96 100 (some ad) n c 0 0 underlying96;clear h lU
  go_enter func96,ntmps96
  go_wp2_with (refine uX rfl (.tmp 5) (.tmp 6) 96 rfl KM rfl (iK.empty _ _ _) rfl H.out (n':=n) (a_ _) (by unfold maxLen;omega) gZ ?_;intro sp c w1 iJ hg j6)
  go_ret
  refine⟨_,_,rfl,?_,?_⟩
  ·rw[aH] at iJ
   exact iJ.mono (fun b hb=>by rcases hb with rfl|rfl<;>simp)
  ·have:=(oC hg)
   exact(((Below.refl _ w).alloc (af _) _).trans (this.mono (fun k (hk:k<w.heap.size)=>⟨by simp;omega,fun e=>by have e2:w.heap.size=k:=au e;omega⟩)).below)
theorem rH (w:World): (zeroValue 98).run prog w=.ok (.agg #[Iq 0,.string ByteArray.empty,.bool false,.slice none 0 0]) w:=by kernel_rfl
theorem mX: (prog.info? 98).map (·.size)=some 4:=by kernel_rfl
theorem Jl {v:Value}{n:Nat}(id:Int) (nm:ByteArray) (d:Bool) (w:World) (h:n_ w O 1 v n l) (hn:n <= 1000000):
  Calls prog 63 #[.agg #[Iq id,.string nm,.bool d,v]] w fun e w'=>∃sp c,e=.returned (.agg #[Iq id,.string nm,.bool d,.slice sp n c]) /\ iK 100 1 w' (fun b=>w.heap.size <= b) (.slice sp n c) n l /\ iB w w':=by
 have hz:=rH;have lx:∀sp c,(#[Iq id,.string nm,.bool d,.slice sp n c]:Array Value).all (·.oneCell')=true:=fun _ _=>by simp[Value.oneCell']
 have hb:iB w ((w.alloc (.cells #[Iq id,.string nm,.bool d,v] 98)).alloc (.cells #[Iq 0,.string ByteArray.empty,.bool false,.slice none 0 0] 98)):=((Below.refl _ _).alloc (af _) _).alloc iz _;have pS:=h.below hb (af _);have H:=iH.mk pS;clear h hb pS
 go_enter func63,ntmps63
 go_wp2_with fail
 refine(yG _ H.out hn).mono ?_;rintro e w1 ⟨sp,c,rfl,iJ,mj⟩;obtain⟨k1,k2,uH,j5⟩:=Jw mj;have k1':h_ 98 w1 w.heap.size [Iq id,.string nm,.bool d,v]:=k1;have k2':h_ 98 w1 (w.heap.size+1) [Iq 0,.string ByteArray.empty,.bool false,.slice none 0 0]:=k2;have k3:=k1'.set 3 (.slice sp n c);have c0:=k1'.cell 3 iz;have f0:=k1'.free 3;have k4:h_ 98 (w1.setCell ⟨w.heap.size,3,none⟩ (.slice sp n c)) (w.heap.size+1) [Iq 0,.string ByteArray.empty,.bool false,.slice none 0 0]:=k2'.other _ _ (by show w.heap.size+1≠w.heap.size;omega);have K3:=iH.mk k3;have K4:=iH.mk k4;clear k1 k2 k1' k2' k3 k4 mj
 go_wp2_with (first|(refine fp rfl 98 (.tmp 1) rfl w.heap.size rfl 98 #[Iq id,.string nm,.bool d,.slice sp n c] (0,0) _ K3.out underlying98 rfl mX ?_)|(refine bL rfl 98 (.tmp 2) (.tmp 7) rfl (w.heap.size+1) #[Iq id,.string nm,.bool d,.slice sp n c] rfl rfl 98 #[Iq 0,.string ByteArray.empty,.bool false,.slice none 0 0] K4.out mX rfl (lx _ _) ?_))
 refine cF (results_cell_row rfl _ _ (w.heap.size+1) 98 #[Iq id,.string nm,.bool d,.slice sp n c] (0,0) _ rfl (setRow_heap _ _ _ _ _ _ K4.out) underlying98 rfl mX) rfl ⟨sp,c,rfl,?_,?_⟩
 ·refine(iJ.iP fun g hg=>?_).mono (fun b (hb:_ <= b)=>?_)
  ·have h1:((w.alloc _).alloc _).heap.size <= g:=iJ.own hg
   have h2:w.heap.size+2 <= g:=by simpa using h1
   rw[dC _ _ _ _ gZ,Below.heap_setCell _ _ _ _ (by show g≠w.heap.size;omega)]
  ·have h2:w.heap.size+2 <= b:=by simpa using hb
   omega
 ·exact below_setRow (uH.setCell (af _) _) gZ _
theorem laid: laidOutB prog=true:=by kernel_rfl
theorem afF: (146:TypeId)<prog.types.size:=of_decide_eq_true (by kernel_rfl)
theorem aaA:(match prog.underlying 146 with|some (.array _ _)|some (.struct _)=>true|_=>false)=true:=by rw[underlying146]
theorem keyed: Keyed prog 146:=fy (deep_law_laid laid (m:=2) gZ afF (by kernel_rfl) aaA)
def sM (x:Int × ByteArray):Prop:=(Lit.int .i64 x.1).wf=true /\ x.2.size <= maxLen
theorem keyType: prog.keyType 146=true:=by kernel_rfl
theorem XF: prog.cellsOf 146=2:=by kernel_rfl
theorem qC: prog.cellsOf 3=1:=by kernel_rfl
theorem strCells: prog.cellsOf 9=1:=by kernel_rfl
theorem po: prog.types.size+1=(prog.types.size - 1)+1+1:=of_decide_eq_true (by kernel_rfl)
theorem keyOf_pair {P:Program} {k ti ts:TypeId} {f0 f1:Field} (hk:P.underlying k = some (.struct #[f0,f1])) (hi:P.underlying ti = some (.int .i64)) (hs:P.underlying ts = some .string) (t0:f0.type = ti) (o0:f0.offset = 0) (n0:(f0.name != "_") = true) (t1:f1.type = ts) (o1:f1.offset = 1) (n1:(f1.name != "_") = true) (ZA:P.keyType k = true) (hc:P.cellsOf k = 2) (ci:P.cellsOf ti = 1) (cs:P.cellsOf ts = 1) (hd:P.types.size + 1 = d + 1 + 1) (x:Int × ByteArray) (h1:(Lit.int .i64 x.1).wf = true) (h2:x.2.size <= maxLen): keyOf P k (mk x) = some (.string (keyBytes [.int .i64 x.1,.string x.2.data.toList])):=by
 have e1:(mk x).formed P k=true:=by
  unfold Value.formed mk;simp only[hk,hc]
  rfl
 have e3:P.keyLits (d+1) ti [.int .i64 x.1]=some [.int .i64 x.1]:=by
  unfold Program.keyLits;rw[hi];exact if_pos ⟨rfl,h1⟩
 have e4:P.keyLits (d+1) ts [.string x.2]=some [.string x.2.data.toList]:=by
  unfold Program.keyLits;rw[hs];exact if_pos h2
 have e2:P.keyLits (d+1+1) k (mk x).cells.toList=some [.int .i64 x.1,.string x.2.data.toList]:=by
  unfold Program.keyLits;rw[hk];simp only[mk,Value.cells,hc,t0,t1,o0,o1,n0,n1,ci,cs,aj,aF,gy,gN,dM,cJ,bY,bR,e3,e4,gO,List.all_nil,fR,Array.all_toList.symm,and_self,if_true];simp
 unfold keyOf;simp only[hk,ZA,e1,fR,if_true,hd,e2,dD]
theorem F5 (x:Int × ByteArray) (h:sM x): ∃kl,keyOf prog 146 (mk x)=some kl :=
 ⟨_,keyOf_pair underlying146 underlying3 underlying9 rfl rfl j9 rfl rfl j9 keyType XF qC strCells po x h.1 h.2⟩
theorem mk_inj (x y:Int × ByteArray) (h:mk x=mk y): x=y:=by
 unfold mk at h;simp at h
 exact dN h.1 h.2
theorem YH (w:World): (zeroValue 4).run prog w=.ok (.bool false) w:=by kernel_rfl
theorem FD {n:Nat}{L:List Tb}(h:MF prog 146 mk w mb n (uf L)) (id:Int) (f:ByteArray) (ok:sM (id,f)):
  (Instr.lookup 142 (.map (some mb)) (.agg #[Iq id,.string f]) false).run prog w=.ok (.bool (has L id f)) w:=by
 obtain⟨kl,hk⟩:=F5 (id,f) ok;have:=h.look keyed underlying142 (YH w) hk;unfold mk at this;rw[this];unfold uf;cases has L id f<;>rfl
theorem ahf (dr k:Nat) (h:dr<18446744073709551616): (bits BinOp.and IntKind.u64 ((dr:Int) / 2 ^ k) 1 == 0) = !dr.testBit k:=by
 have h1:((dr:Int) / 2 ^ k)=((dr / 2 ^ k:Nat):Int):=iz;have h2:dr / 2 ^ k<18446744073709551616:=Nat.lt_of_le_of_lt (Nat.div_le_self _ _) h;have h3:=bits_and_u64_nat (dr / 2 ^ k) 1 h2 gZ;rw[h1];have h4:((1:Nat):Int)=1:=rfl;rw[h4] at h3;rw[h3,Nat.testBit_eq_decide_div_mod_eq];have h5:dr / 2 ^ k &&& 1=dr / 2 ^ k % 2:=Nat.and_one_is_mod _;rw[h5];rcases Nat.mod_two_eq_zero_or_one (dr / 2 ^ k) with h6|h6<;>simp[h6]
theorem rW {n:Nat}{L:List Tb}(h:ln w c O n L) (id:Int):
  Calls prog 56 #[iF c,Iq id] w fun e w'=>e=.returned (.bool (there L id)) /\ w=w':=by
 obtain⟨tv,dr,mb,hc,wI,tP,hO,⟨cells,hT,hI⟩,hB,hM,hG⟩:=h;obtain⟨sp,cap,rfl,uN,oG⟩:=hT.slice;have c0:=hc.cell 0 iz;have c1:=hc.cell 1 iz;have hlen:=hG.len;simp only[al,ax] at c0 c1;have HB:=iH.mk hB
 by_cases h1:id<1
 ·have yY:decide (1 <= id)=false:=decide_eq_false gZ
  clear hT hI hM hG hO hc hB
  go_enter func56,ntmps56
  go_wp2
  go_ret
  exact⟨by simp[there];omega,rfl⟩
 ·by_cases h2:id <= L.length
  ·obtain⟨k,rfl⟩:∃k:Nat,id=(k+1:Nat):=⟨(id - 1).toNat,gZ⟩
   have h3:(1:Int) <= (k+1:Nat):=gZ;clear hT hI hM hG hO hc h1 hB
   go_enter func56,ntmps56
   go_wp2
   go_ret
   refine⟨?_,rfl⟩;have h5:there L ((k+1:Nat):Int) = !dr.testBit k:=by
    rw[HB.out.2 k];have e1:(((k+1:Nat):Int) - 1).toNat=k:=gZ;unfold there;rw[e1];simp;omega
   rw[h5,<- ahf dr k HB.out.1]
   rfl
  ·have yY:(1:Int) <= id:=gZ
   have h2':=decide_eq_false gZ;clear hT hI hM hG hO hc hB
   go_enter func56,ntmps56
   go_wp2
   go_ret
   exact⟨by simp[there];omega,rfl⟩
theorem J_ {L:List Tb}(hG:Good L) (id:Int) (f:ByteArray) (h:there L id=false): has L id f=false:=by
 unfold there at h;unfold has
 by_cases h1:1 <= id
 ·by_cases h2:id <= L.length
  ·simp[h1,h2] at h
   have h3:=(hG.each (id - 1).toNat gZ).2.2.2 (by simpa using h);rw[h3,AB];simp
  ·simp[h2]
 ·simp[h1]
theorem adP {n:Nat}{L:List Tb}(h:ln w c O n L) (id:Int) (f:ByteArray) (hf:f.size <= maxLen):
  Calls prog 25 #[iF c,Iq id,.string f] w fun e w'=>e=.returned (.bool (has L id f)) /\ w=w':=by
 have hh:=h;obtain⟨tv,dr,mb,hc,wI,tP,hO,-,hB,hM,hG⟩:=h;have c2:=hc.cell 2 iz;have hlen:=hG.len;simp only[al,ax] at c2;have HH:=iH.mk hh;cases ht:there L id with
 | false=>
  rw[J_ hG id f ht];have HT:=iH.mk ht;clear hc wI tP hO hB hM hG hh ht
  go_enter func25,ntmps25
  go_wp2_with (refine(rW HH.out _).mono ?_;rw[HT.out];rintro e w' ⟨rfl,rfl⟩)
  go_ret
  exact⟨rfl,rfl⟩
 | true=>
  have HT:=iH.mk ht;have hid:1 <= id /\ id <= 64:=by
   unfold there at ht;simp at ht
   omega
  have hl:=FD hM id f ⟨by simp[Lit.wf,IntKind.min,IntKind.max,IntKind.bits,IntKind.signed];omega,hf⟩;clear hc wI tP hO hB hM hG hh ht hid
  go_enter func25,ntmps25
  go_wp2_with (refine(rW HH.out _).mono ?_;rw[HT.out];rintro e w' ⟨rfl,rfl⟩)
  go_ret
  exact⟨rfl,rfl⟩
theorem lT.iP {t:Tb}(h:lT eF w O cells i t) (hb:∀b,O b -> (∃cur,w.heap[b]? = some (.cells cur eF (0,0))) -> w'.heap[b]? = w.heap[b]?): lT eF w' O cells i t :=
 ⟨h.1,h.2.1,h.2.2.1,h.2.2.2.iP fun g hg=>hb g (h.2.2.2.own hg) (h.2.2.2.tag hg)⟩
theorem r6.ij {L:List Tb}(h:r6 eT eF w O tv L) {K:Nat -> Prop}(hk:ib K w w') (hK:∀b,O b -> K b): r6 eT eF w' O tv L:=by
 obtain⟨cells,h1,h2⟩:=h;exact⟨cells,h1.ij hk (fun g hg=>hK g (h1.own hg)),fun i hi=>(h2 i hi).iP fun b hb _=>hk.block b (hK b hb)⟩
theorem ln.ij {n:Nat}{L:List Tb}(h:ln w c O n L) {K:Nat -> Prop}(hk:ib K w w') (hK:∀b,O b -> K b): ln w' c O n L:=by
 obtain⟨tv,dr,mb,h1,h2,h3,h4,h5,h6,h7,h8⟩:=h;exact⟨tv,dr,mb,h1.ij hk (hK c h2),h2,h3,fun b hb=>ak (h4 b hb) hk.size,h5.ij hk hK,h6,h7.ij hk (hK mb h3),h8⟩
theorem ln.lt {n:Nat}{L:List Tb}(h:ln w c O n L): ∀b,O b -> b<w.heap.size:=by
 obtain⟨tv,dr,mb,h1,h2,h3,h4,-⟩:=h;exact h4
theorem ln.nk {n:Nat}{L:List Tb}(h:ln w c O n L): Good L:=by
 obtain⟨tv,dr,mb,h1,h2,h3,h4,h5,h6,h7,h8⟩:=h;exact h8
theorem ln.below {n:Nat}{L:List Tb}(h:ln w c O n L) (hk:Below B w w') (hB:w.heap.size <= B): ln w' c O n L :=
 h.ij (ib.ic hk) (fun b hb=>ak (h.lt b hb) hB)
def Wt (w:World) (r:Int × Tb × Int) (e:Ending) (w':World):Prop :=
 ∃sp c,e=.returned (.tuple #[.agg #[Iq r.1,.string r.2.1.name,.bool r.2.1.dropped,.slice sp r.2.1.fs.length c],Iq r.2.2]) /\
  iK 100 1 w' (fun b=>w.heap.size <= b) (.slice sp r.2.1.fs.length c) r.2.1.fs.length (r.2.1.fs.map Value.string) /\ iB w w'
def ju (L:List Tb) (id:Int):Int × Tb × Int:=if 1 <= id /\ id <= L.length then(id,L.getD (id - 1).toNat iX,0) else(0,iX,7)
theorem AL: prog.built 98 []=some #[Iq 0,.string ByteArray.empty,.bool false,.slice none 0 0]:=by kernel_rfl
theorem mF {n k:Nat}{t:Tb}(h:iK eT 4 w O tv n cells) (hk:k<n) (hI:lT eF w O cells k t):
  ∃g cap,tv=.slice (some ⟨g,0,none⟩) n cap /\ n <= cap /\ cap <= 9223372036854775807 /\ g<w.heap.size /\ O g /\ w.cell? ⟨g,k*4,none⟩=some (Iq (k+1:Nat)) /\ w.cell? ⟨g,k*4+1,none⟩=some (.string t.name) /\ w.cell? ⟨g,k*4+2,none⟩=some (.bool t.dropped) /\
   ∃sp c,w.cell? ⟨g,k*4+3,none⟩=some (.slice sp t.fs.length c) /\ iK eF 1 w O (.slice sp t.fs.length c) t.fs.length (t.fs.map Value.string):=by
 obtain⟨i0,i1,i2,i3⟩:=hI;have hl:=h.len;rcases h.form with⟨-,rfl,-⟩|⟨g,cap,cur,rfl,hO,iS,hg,h4,h5,h6,h7⟩
 ·omega
 ·have j6:∀j,j<4 -> w.cell? ⟨g,k*4+j,none⟩=some (cells.getD (k*4+j) undef):=by
   intro j hj;rw[df h.1 (k*4+j) gZ];have:k*4+j<cells.length:=gZ;simp[this]
  obtain⟨sp,c,e3,-,-⟩:=i3.slice;refine⟨g,cap,rfl,h4,by unfold maxLen at h5;exact h5,iS,hO,?_,?_,?_,sp,c,?_,?_⟩
  ·have:=j6 0 gZ;rw[dX] at this;rw[this,i0]
  ·rw[j6 1 gZ,i1]
  ·rw[j6 2 gZ,i2]
  ·rw[j6 3 gZ,e3]
  ·rw[<- e3];exact i3
theorem vN {n:Nat}{L:List Tb}(h:ln w c O n L) (id:Int):
  Calls prog 82 #[iF c,Iq id] w (Wt w (ju L id)):=by
 have hz:=rH;have hlen:=h.nk.len;have jP:iB w (w.alloc (.cells #[Iq 0,.string ByteArray.empty,.bool false,.slice none 0 0] 98)):=(Below.refl _ w).alloc (af _) _;have hR:h_ 98 (w.alloc (.cells #[Iq 0,.string ByteArray.empty,.bool false,.slice none 0 0] 98)) w.heap.size [Iq 0,.string ByteArray.empty,.bool false,.slice none 0 0]:=h_.mk w [Iq 0,.string ByteArray.empty,.bool false,.slice none 0 0] _;have h0:=h.below jP (af _);have HR:=iH.mk hR;have H0:=iH.mk h0;have HB:=iH.mk jP;clear h h0 jP hR
 by_cases h1:id<1
 ·have r1:ju L id=(0,iX,7):=by unfold ju;rw[if_neg gZ]
  rw[r1];clear H0 r1
  go_enter func82,ntmps82
  go_wp2_with (first|(refine oZ rfl 98 #[] rfl #[Iq 0,.string ByteArray.empty,.bool false,.slice none 0 0] AL ?_)|(refine bL rfl 98 (.tmp 4) (.tmp 21) rfl w.heap.size #[Iq 0,.string ByteArray.empty,.bool false,.slice none 0 0] rfl rfl 98 #[Iq 0,.string ByteArray.empty,.bool false,.slice none 0 0] HR.out mX rfl (by simp[Value.oneCell']) ?_))
  refine cF (results_cell_tmp rfl _ _ w.heap.size 98 #[Iq 0,.string ByteArray.empty,.bool false,.slice none 0 0] (0,0) _ _ rfl (setRow_heap _ _ _ _ _ _ HR.out) underlying98 rfl mX rfl) rfl ⟨none,0,rfl,iK.nil _ _ _ _,below_setRow HB.out (af _) _⟩
 ·by_cases h2:id <= L.length
  ·obtain⟨k,rfl⟩:∃k:Nat,id=(k+1:Nat):=⟨(id - 1).toNat,gZ⟩
   have hk:k<L.length:=gZ;have lk:((k:Int)+1) <= L.length:=gZ;have h3:(1:Int) <= (k+1:Nat):=gZ;have r1:ju L (k+1:Nat)=(((k+1:Nat):Int),L.getD k iX,0):=by
    unfold ju;have e1:(((k+1:Nat):Int) - 1).toNat=k:=gZ;rw[if_pos gZ,e1]
   rw[r1];obtain⟨t,ht⟩:∃t,t=L.getD k iX:=⟨_,rfl⟩;obtain⟨tv,dr,mb,hc,-,-,-,⟨cells,hT,hI⟩,-,-,hG⟩:=H0.out;have vK:=hI k hk;rw[<- ht] at vK ⊢;obtain⟨g,cap,rfl,uN,oG,hg,-,x0,x1,x2,sp,cc,x3,iJ⟩:=mF hT hk vK;have rN:=(hG.each k hk).2.1;rw[<- ht] at rN;have c0:=hc.cell 0 iz;simp only[al] at c0;have HO:=iH.mk iJ;clear hc hT hI vK iJ H0 r1 ht h1 hG
   go_enter func82,ntmps82
   go_wp2_with fail
   generalize World.alloc _ _=w1 at HR HO HB ⊢;refine(Jl _ _ _ _ HO.out.DC gZ).mono ?_;rintro e w2 ⟨sj,c2,rfl,qV,jg⟩;have HR2:=iH.mk (HR.out.below jg HR.out.lt);have HB2:=iH.mk (HB.out.trans (jg.mono HB.out.size));have HO2:=iH.mk qV;have pS:=HR.out.lt;clear jg qV HR HO HB x0 x1 x2 x3 c0 hg
   go_wp2_with (refine bL rfl 98 (.tmp 4) (.tmp 30) rfl w.heap.size #[Iq (k+1:Nat),.string t.name,.bool t.dropped,.slice sj t.fs.length c2] rfl rfl 98 #[Iq 0,.string ByteArray.empty,.bool false,.slice none 0 0] HR2.out mX rfl (by simp[Value.oneCell']) ?_)
   refine cF (results_cell_tmp rfl _ _ w.heap.size 98 #[Iq (k+1:Nat),.string t.name,.bool t.dropped,.slice sj t.fs.length c2] (0,0) _ _ rfl (setRow_heap _ _ _ _ _ _ HR2.out) underlying98 rfl mX rfl) rfl ⟨sj,c2,rfl,?_,below_setRow HB2.out (af _) _⟩;refine(HO2.out.iP fun g hg=>?_).mono (fun b (hb:_ <= b)=>by omega);have h2:=HO2.out.own hg;exact dC _ _ _ _ gZ
  ·have r1:ju L id=(0,iX,7):=by unfold ju;rw[if_neg gZ]
   rw[r1];obtain⟨tv,dr,mb,hc,-,-,-,⟨cells,hT,hI⟩,-,-,hG⟩:=H0.out;obtain⟨sp,cap,rfl,uN,oG⟩:=hT.slice;have c0:=hc.cell 0 iz;simp only[al] at c0;have h3:(1:Int) <= id:=gZ;have h4:(L.length:Int)<id:=gZ;clear hc hT hI H0 r1 hG
   go_enter func82,ntmps82
   go_wp2_with (first|(refine oZ rfl 98 #[] rfl #[Iq 0,.string ByteArray.empty,.bool false,.slice none 0 0] AL ?_)|(refine bL rfl 98 (.tmp 4) (.tmp 21) rfl w.heap.size #[Iq 0,.string ByteArray.empty,.bool false,.slice none 0 0] rfl rfl 98 #[Iq 0,.string ByteArray.empty,.bool false,.slice none 0 0] HR.out mX rfl (by simp[Value.oneCell']) ?_))
   refine cF (results_cell_tmp rfl _ _ w.heap.size 98 #[Iq 0,.string ByteArray.empty,.bool false,.slice none 0 0] (0,0) _ _ rfl (setRow_heap _ _ _ _ _ _ HR.out) underlying98 rfl mX rfl) rfl ⟨none,0,rfl,iK.nil _ _ _ _,below_setRow HB.out (af _) _⟩
def rV (L:List Tb) (s:ByteArray) (k:Nat):Bool:=decide ((L.getD k iX).name=s) && !(L.getD k iX).dropped
def y7 (L:List Tb) (s:ByteArray):Option Nat:=(List.range L.length).find? (rV L s)
def qR (L:List Tb) (s:ByteArray):Int × Tb × Int:=match y7 L s with|some k=>(((k+1:Nat):Int),L.getD k iX,0)|none=>(0,iX,13)
theorem Mh {L:List Tb}{s:ByteArray}{k:Nat}(hk:k<L.length) (h1:∀j,j<k -> rV L s j=false) (h2:rV L s k=true): qR L s=(((k+1:Nat):Int),L.getD k iX,0):=by
 have:y7 L s=some k:=List.find?_range_eq_some.2 ⟨h2,bO.2 hk,fun j hj=>by simp[h1 j hj]⟩;unfold qR;rw[this]
theorem M9 {L:List Tb}{s:ByteArray}(h1:∀j,j<L.length -> rV L s j=false): qR L s=(0,iX,13):=by
 have:y7 L s=none:=List.find?_range_eq_none.2 fun j hj=>by simp[h1 j hj]
 unfold qR;rw[this]
theorem YT {n:Nat}{L:List Tb}(h:ln w c O n L) (s:ByteArray):
  Calls prog 125 #[iF c,.string s] w (Wt w (qR L s)):=by
 have hz:=rH;have hlen:=h.nk.len;have jP:iB w (w.alloc (.cells #[Iq 0,.string ByteArray.empty,.bool false,.slice none 0 0] 98)):=(Below.refl _ w).alloc (af _) _;have hR:h_ 98 (w.alloc (.cells #[Iq 0,.string ByteArray.empty,.bool false,.slice none 0 0] 98)) w.heap.size [Iq 0,.string ByteArray.empty,.bool false,.slice none 0 0]:=h_.mk w [Iq 0,.string ByteArray.empty,.bool false,.slice none 0 0] _;obtain⟨w1,lJ⟩:∃w1,w1=w.alloc (.cells #[Iq 0,.string ByteArray.empty,.bool false,.slice none 0 0] 98):=⟨_,rfl⟩;have h0:=h.below jP (af _);have iS:=h.lt;rw[<- lJ] at h0 jP hR;obtain⟨tv,dr,mb,hc,-,-,-,⟨cells,hT,hI⟩,-,-,hG⟩:=h0;obtain⟨sp,cap,rfl,uN,oG⟩:=hT.slice;have c0:=hc.cell 0 iz;simp only[al] at c0;rw[lJ] at c0;have HW:=iH.mk lJ;have HR:=iH.mk hR;have H0:=iH.mk (h.below jP (af _));have HT:=iH.mk hT;have HI:=iH.mk hI;have HG:=iH.mk hG;have HB:=iH.mk jP;have HL:=iH.mk iS;have pS:=hR.lt;clear h jP hR hc hT hI hG lJ iS
 go_enter func125,ntmps125
 go_wp2_with fail
 go_loopw [15] (fun i wr=>∃k:Nat,k <= L.length /\ i=Iq (k:Nat) /\ iB w1 wr /\ ∀j,j<k -> rV L s j=false) (fun i _=>L.length - (intOf i).toNat)
 case atStart=>exact⟨0,gZ,rfl,by rw[HW.out];exact Below.refl _ _,fun j hj=>by omega⟩
 case round=>
  obtain⟨k,hk,rfl,jC,mC⟩:=hrel;have mo:=H0.out.below jC (af _);have sJ:=HT.out.ij (ib.ic jC) (fun g hg=>HT.out.lt hg);have TM:=fun i hi=>(HI.out i hi).iP fun b hb _=>jC.block b (H0.out.lt b hb);have uH:=HB.out.trans (jC.mono HB.out.size);have DH:=HR.out.below jC pS;have Hno:=iH.mk mC;clear mC
  by_cases tc:k<L.length
  ·have ah2:(k:Int)<L.length:=gZ
   obtain⟨t,ht⟩:∃t,t=L.getD k iX:=⟨_,rfl⟩;have vK:=TM k tc;rw[<- ht] at vK;obtain⟨g,oc,lU,-,-,hg,-,x0,x1,x2,sL,cc,x3,iJ⟩:=mF sJ tc vK;obtain⟨rfl,rfl⟩:sp=some ⟨g,0,none⟩ /\ cap=oc:=by simpa using lU
   have Hcr:=iH.mk mo;have CG:=iH.mk iJ;have Ht:=iH.mk ht;have Y6:=iH.mk uH;have Hrr:=iH.mk DH;have XC:=iH.mk jC;clear mo sJ TM uH DH vK iJ lU ht jC;have hbn:∀cs,iB w1 (wr.alloc (.cells cs 98)):=fun cs=>XC.out.alloc XC.out.size _;have Hbn:=iH.mk hbn;have Lh:∀cs,ln (wr.alloc (.cells cs 98)) c O n L:=fun cs=>Hcr.out.below ((Below.refl _ _).alloc (af _) _) (af _);have Hca:=iH.mk Lh;clear hbn Lh
   by_cases hn:t.name=s
   ·have hq:t.name.toList=s.toList:=by rw[hn]
    have Hn:=iH.mk hn;have e1:there L ((k:Int)+1) = !t.dropped:=by
     unfold there;have e2:((k:Int)+1 - 1).toNat=k:=gZ;rw[e2,<- Ht.out];simp;omega
    have E1:=iH.mk e1;clear hn e1;cases hd:t.dropped with
    | true=>
     have e2:there L ((k:Int)+1)=false:=by rw[E1.out,hd];rfl
     have E2:=iH.mk e2;have adI:iH (∀j,j<k+1 -> rV L s j=false):=iH.mk fun j hj=>by
      by_cases e:j<k
      ·exact Hno.out j e
      ·have:j=k:=gZ
       rw[this];unfold rV;rw[<- Ht.out,hd];simp
     clear e2 hd
     go_wp2_with (refine(rW (Hca.out _) _).mono ?_;rw[E2.out];rintro e w' ⟨rfl,rfl⟩)
     go_roundw
     case rel=>exact⟨k+1,gZ,by go_num,Hbn.out _,adI.out⟩
     case measure=>simp[intOf];omega
    | false=>
     have e2:there L ((k:Int)+1)=true:=by rw[E1.out,hd];rfl
     have E2:=iH.mk e2;have nw:qR L s=(((k+1:Nat):Int),t,0):=by
      rw[Mh tc Hno.out (by unfold rV;rw[<- Ht.out,hd,Hn.out];simp),<- Ht.out]
     have tq:=iH.mk nw;have rN:=(HG.out.each k tc).2.1;rw[<- Ht.out] at rN;clear e2 hd nw
     go_wp2_with (refine(rW (Hca.out _) _).mono ?_;rw[E2.out];rintro e w' ⟨rfl,rfl⟩)
     have jF:=Y6.out.alloc Y6.out.size (.cells #[Iq ((k:Int)+1),.string t.name,.bool t.dropped,.slice sL t.fs.length cc] 98);have Ca:=Hrr.out.alloc (.cells #[Iq ((k:Int)+1),.string t.name,.bool t.dropped,.slice sL t.fs.length cc] 98);have PM:=CG.out.alloc (.cells #[Iq ((k:Int)+1),.string t.name,.bool t.dropped,.slice sL t.fs.length cc] 98);generalize World.alloc wr _=w3 at jF Ca PM ⊢;refine(Jl _ _ _ _ PM.DC gZ).mono ?_;rintro e w2 ⟨sj,c2,rfl,qV,jg⟩;have HR2:=iH.mk (Ca.below jg Ca.lt);have HB2:=iH.mk (jF.iR jg);have HO2:=iH.mk qV;have pS:=Ca.lt;clear jg qV jF Ca PM x0 x1 x2 x3 c0 hg hq
     go_wp2_with (refine bL rfl 98 (.tmp 4) (.tmp 30) rfl w.heap.size #[Iq (k+1:Nat),.string t.name,.bool t.dropped,.slice sj t.fs.length c2] rfl rfl 98 #[Iq 0,.string ByteArray.empty,.bool false,.slice none 0 0] HR2.out mX rfl (by simp[Value.oneCell']) ?_)
     refine cF (results_cell_tmp rfl _ _ w.heap.size 98 #[Iq (k+1:Nat),.string t.name,.bool t.dropped,.slice sj t.fs.length c2] (0,0) _ _ rfl (setRow_heap _ _ _ _ _ _ HR2.out) underlying98 rfl mX rfl) rfl ?_;rw[tq.out];refine⟨sj,c2,rfl,?_,below_setRow HB2.out (af _) _⟩;refine(HO2.out.iP fun g hg=>?_).mono (fun b (hb:_ <= b)=>by omega);have h2:=HO2.out.own hg;exact dC _ _ _ _ gZ
   ·have hq:=af2 hn
    have adI:iH (∀j,j<k+1 -> rV L s j=false):=iH.mk fun j hj=>by
     by_cases e:j<k
     ·exact Hno.out j e
     ·have:j=k:=gZ
      rw[this];unfold rV;rw[<- Ht.out];simp[hn]
    clear hn
    go_wp2_with fail
    go_roundw
    case rel=>exact⟨k+1,gZ,by go_num,Hbn.out _,adI.out⟩
    case measure=>simp[intOf];omega
  ·have qY:decide ((k:Int)<L.length)=false:=decide_eq_false gZ
   have nw:=M9 fun j hj=>Hno.out j gZ;have tq:=iH.mk nw;have Hrr:=iH.mk DH;have Y6:=iH.mk uH;clear nw DH uH mo sJ TM jC c0
   go_wp2_with (first|(refine oZ rfl 98 #[] rfl #[Iq 0,.string ByteArray.empty,.bool false,.slice none 0 0] AL ?_)|(refine bL rfl 98 (.tmp 4) (.tmp 32) rfl w.heap.size #[Iq 0,.string ByteArray.empty,.bool false,.slice none 0 0] rfl rfl 98 #[Iq 0,.string ByteArray.empty,.bool false,.slice none 0 0] Hrr.out mX rfl (by simp[Value.oneCell']) ?_))
   refine cF (results_cell_tmp rfl _ _ w.heap.size 98 #[Iq 0,.string ByteArray.empty,.bool false,.slice none 0 0] (0,0) _ _ rfl (setRow_heap _ _ _ _ _ _ Hrr.out) underlying98 rfl mX rfl) rfl ?_;rw[tq.out];exact⟨none,0,rfl,iK.nil _ _ _ _,below_setRow Y6.out (af _) _⟩
end Cat
section
variable {P:Program}{ops:Array Oper}{Q:Exit -> Act -> World -> Prop}{md:Region.Mode}{S:World -> Prop}{n:Nat}
def nL (P:Program) (md:Region.Mode) (ops:Array Oper) (Q:Exit -> Act -> World -> Prop) (S:World -> Prop) (n:Nat):Nat -> Array Bool -> Act -> World -> Prop
 | 0,iw,a,w=>Region.ready md ops iw=[] /\ Q .normal a w
 | fuel+1,iw,a,w=>
  (Region.ready md ops iw=[] -> Q .normal a w) /\
  ∀i∈Region.ready md ops iw,wpOp P ops Q i (fun a' w'=>((iw.setIfInBounds i true).getD n false=true \/ S w') /\ nL P md ops Q S n fuel (iw.setIfInBounds i true) a' w') a w
theorem Aw:∀(fuel:Nat) (iw:Array Bool) (a:Act) (w:World),nL P md ops Q S n fuel iw a w -> wpAny P md ops Q fuel iw a w
 | 0,_,_,_,h=>h
 | fuel+1,_,_,_,h=>⟨h.1,fun i hi=>wpOp_mono (fun a' w' h'=>Aw fuel _ a' w' h'.2) (h.2 i hi)⟩
def vZ (md:Region.Mode) (ops:Array Oper) (iw:Array Bool) (i n:Nat) (us:List Nat):Bool :=
 us.contains n && us.all fun q=>!iw.getD q true && ((ops[q]?).map (·.after.any fun e=>Region.binds md e && (e.on == i || us.contains e.on))).getD false
theorem adf (h:vZ md ops iw i n us=true): iw.getD n true=false:=by
 unfold vZ at h;simp only[aA,bT] at h;have:=h.2 n (by simpa using h.1)
 simpa using this.1
theorem US (h:vZ md ops iw i n us=true) (hi:iw.getD i true=false) (hj:j∈Region.ready md ops iw): j ∉ us:=by
 intro hju;unfold vZ at h;simp only[aA,bT] at h;obtain⟨-,h2⟩:=h;obtain⟨-,oj,O0,j8⟩:=gJ.1 hj;have h3:=(h2 j hju).2;rw[O0] at h3;simp only[dD,eY] at h3;obtain⟨e,he,hb⟩:=Array.any_eq_true'.1 h3;simp only[aA,ey,beq_iff_eq] at hb;have h4:=j8 e he hb.1;have h5:iw.getD e.on true=false:=by
  rcases hb.2 with e1|e1
  ·rw[e1];exact hi
  ·have:=(h2 e.on (by simpa using e1)).1
   simpa using this
 rcases aO e.on iw.size with h'|h'
 ·simp[h'] at h4 h5;rw[h5] at h4;cases h4
 ·simp[f_ h'] at h4
theorem U1 (h:vZ md ops iw i n us=true) (hj:j ∉ us): vZ md ops (iw.setIfInBounds j true) i n us=true:=by
 unfold vZ at *;simp only[aA,bT] at *;refine⟨h.1,fun q hq=>⟨?_,(h.2 q hq).2⟩⟩;rw[getD_set_ne true (by intro e;subst e;exact hj hq)];exact(h.2 q hq).1
theorem AI (h:iw.getD j true=false): iw.getD j false=false:=by
 rcases aO j iw.size with h'|h'
 ·simp[h'] at h ⊢;exact h
 ·simp[f_ h'] at h
theorem CE {v:Value}(hi:ops[i]? = some oi) (Qk:∀(j:Nat) (o:Oper) cs b,ops[j]? = some o -> o.op≠.select cs b) (hQ:∀c a w,Q (.panic c) (a.put oi.dst v) w -> Q (.panic c) a w):
  ∀(fuel:Nat) (iw:Array Bool) (a:Act) (w:World),
   (∀j oj,ops[j]? = some oj -> j≠i -> iw.getD j true=false -> (∀e∈oj.after,Region.binds md e=true -> e.on≠i) -> oi.apart ops oj=true) ->
   vZ md ops iw i n us=true -> i ∉ us ->
   i∈Region.ready md ops iw -> YieldsIf P ops S oi v a -> S w ->
   nL P md ops Q S n fuel (iw.setIfInBounds i true) (a.put oi.dst v) w -> nL P md ops Q S n (fuel+1) iw a w:=by
 intro fuel
 induction fuel with
 | zero=>
  intro iw a w _ _ _ hr hy hS H;refine⟨fun h=>(by rw[h] at hr;cases hr),fun j hj=>?_⟩
  by_cases yW:j=i
  ·subst yW;exact hy.wpOp hi hS ⟨.inr hS,H⟩
  ·have:=ready_mono hj yW
   rw[H.1] at this;cases this
 | succ fuel ih=>
  intro iw a w IE hw hiu hr hy hS H;refine⟨fun h=>(by rw[h] at hr;cases hr),fun j hj=>?_⟩
  by_cases yW:j=i
  ·subst yW;exact hy.wpOp hi hS ⟨.inr hS,H⟩
  ·have h1:=H.2 j (ready_mono hj yW)
   have Xi:=(gJ.1 hr).1;have hju:=US hw Xi hj;have hnu:n∈us:=by unfold vZ at hw;simp only[aA] at hw;simpa using hw.1
   have hjn:j≠n:=fun e=>hju (e ▸ hnu);have o8:i≠n:=fun e=>hiu (e ▸ hnu);obtain⟨QU,oj,O0,j8⟩:=gJ.1 hj;have GW:∀e∈oj.after,Region.binds md e=true -> e.on≠i:=fun e he hb heq=>by
    have h1:=j8 e he hb;rw[heq,AI Xi] at h1;cases h1
   have h2:=wpOp_putIf O0 (IE j oj O0 yW QU GW) (fun cs b=>Qk i oi cs b hi) (fun cs b=>Qk j oj cs b O0) hQ hy h1;have NP:∀k ok,ops[k]? = some ok -> k≠i -> (iw.setIfInBounds j true).getD k true=false ->
     (∀e∈ok.after,Region.binds md e=true -> e.on≠i) -> oi.apart ops ok=true:=fun k ok hk Jk HQ mC=>by
    refine IE k ok hk Jk ?_ mC
    by_cases DR:j=k
    ·subst DR;exact QU
    ·rw[getD_set_ne true DR] at HQ;exact HQ
   have LD:∀x,(((iw.setIfInBounds i true).setIfInBounds j true).getD n false=true \/ x) -> x:=fun x h=>by
    rcases h with h|h
    ·rw[getD_set_ne false hjn,getD_set_ne false o8,AI (adf hw)] at h;cases h
    ·exact h
   refine wpOp_mono (fun a' w' h3=>⟨.inr (LD _ h3.2.1),ih (iw.setIfInBounds j true) a' w' NP (U1 hw hju) hiu (ready_mono hr (de yW)) h3.1 (LD _ h3.2.1) ?_⟩) h2;rw[ep _ _ yW];exact h3.2.2
theorem Em {v:Value}(hi:ops[i]? = some oi) (Qk:∀(j:Nat) (o:Oper) cs b,ops[j]? = some o -> o.op≠.select cs b) (hQ:∀c a w,Q (.panic c) (a.put oi.dst v) w -> Q (.panic c) a w) (o8:i≠n):
  ∀(fuel:Nat) (iw:Array Bool) (a:Act) (w:World),
   (∀j oj,ops[j]? = some oj -> j≠i -> iw.getD j true=false -> (∀e∈oj.after,Region.binds md e=true -> e.on≠i) -> oi.apart ops oj=true) ->
   i∈Region.ready md ops iw -> YieldsIf P ops (fun _=>True) oi v a -> (iw.getD n false=true \/ S w) ->
   nL P md ops Q S n fuel (iw.setIfInBounds i true) (a.put oi.dst v) w -> nL P md ops Q S n (fuel+1) iw a w:=by
 intro fuel
 induction fuel with
 | zero=>
  intro iw a w _ hr hy hS H;refine⟨fun h=>(by rw[h] at hr;cases hr),fun j hj=>?_⟩
  by_cases yW:j=i
  ·subst yW;exact hy.wpOp hi trivial ⟨by rw[getD_set_ne false o8];exact hS,H⟩
  ·have:=ready_mono hj yW
   rw[H.1] at this;cases this
 | succ fuel ih=>
  intro iw a w IE hr hy hS H;refine⟨fun h=>(by rw[h] at hr;cases hr),fun j hj=>?_⟩
  by_cases yW:j=i
  ·subst yW;exact hy.wpOp hi trivial ⟨by rw[getD_set_ne false o8];exact hS,H⟩
  ·have h1:=H.2 j (ready_mono hj yW)
   have Xi:=(gJ.1 hr).1;obtain⟨QU,oj,O0,j8⟩:=gJ.1 hj;have GW:∀e∈oj.after,Region.binds md e=true -> e.on≠i:=fun e he hb heq=>by
    have h1:=j8 e he hb;rw[heq,AI Xi] at h1;cases h1
   have h2:=wpOp_putIf O0 (IE j oj O0 yW QU GW) (fun cs b=>Qk i oi cs b hi) (fun cs b=>Qk j oj cs b O0) hQ hy h1;have NP:∀k ok,ops[k]? = some ok -> k≠i -> (iw.setIfInBounds j true).getD k true=false ->
     (∀e∈ok.after,Region.binds md e=true -> e.on≠i) -> oi.apart ops ok=true:=fun k ok hk Jk HQ mC=>by
    refine IE k ok hk Jk ?_ mC
    by_cases DR:j=k
    ·subst DR;exact QU
    ·rw[getD_set_ne true DR] at HQ;exact HQ
   have hT:∀x,(((iw.setIfInBounds i true).setIfInBounds j true).getD n false=true \/ x) -> ((iw.setIfInBounds j true).getD n false=true \/ x):=fun x h=>by
    rw[ep _ _ (de yW),getD_set_ne false o8] at h;exact h
   refine wpOp_mono (fun a' w' h3=>⟨hT _ h3.2.1,ih (iw.setIfInBounds j true) a' w' NP (ready_mono hr (de yW)) h3.1 (hT _ h3.2.1) ?_⟩) h2;rw[ep _ _ yW];exact h3.2.2
theorem ny {v:Value}(us:List Nat) (hi:ops[i]? = some oi) (hs:Region.noSelect ops=true) (hf:Region.free md ops iw i=true) (hr:(Region.ready md ops iw).contains i=true) (hu:vZ md ops iw i n us=true) (hiu:us.contains i=false) (hQ:∀c a w,Q (.panic c) (a.put oi.dst v) w -> Q (.panic c) a w) (hw:Region.wanted oi (yielded ops a.tmps)=true) (hy:∀w,S w -> (execOp a.eval oi).run P w=.ok (.value v) w) (hS:S w) (h:nL P md ops Q S n fuel (iw.setIfInBounds i true) (a.put oi.dst v) w): nL P md ops Q S n (fuel+1) iw a w :=
 CE hi (dO hs) hQ fuel iw a w (eZ hi hf) hu (by simpa using hiu) (by simpa using hr) (.inl ⟨hw,hy⟩) hS h
theorem mI {v:Value}(hi:ops[i]? = some oi) (hs:Region.noSelect ops=true) (hf:Region.free md ops iw i=true) (hr:(Region.ready md ops iw).contains i=true) (o8:(i == n)=false) (hQ:∀c a w,Q (.panic c) (a.put oi.dst v) w -> Q (.panic c) a w) (hS:iw.getD n false=true \/ S w) (hw:Region.wanted oi (yielded ops a.tmps)=true) (hy:∀w,(execOp a.eval oi).run P w=.ok (.value v) w) (h:nL P md ops Q S n fuel (iw.setIfInBounds i true) (a.put oi.dst v) w): nL P md ops Q S n (fuel+1) iw a w :=
 Em hi (dO hs) hQ (by simpa using o8) fuel iw a w (eZ hi hf) (by simpa using hr) (.inl ⟨hw,fun w _=>hy w⟩) hS h
theorem _root_.Go.Proofs.YtlenklobbngopaaGreat.iM {v:Value}(hS:iw.getD n false=true \/ S w) (h:nL P md ops Q S n fuel (iw.setIfInBounds i true) (a.put oi.dst v) w) (hi:ops[i]? = some oi:=by exact rfl) (hs:Region.noSelect ops=true:=by kernel_rfl) (hf:Region.free md ops iw i=true:=by kernel_rfl) (hr:(Region.ready md ops iw).contains i=true:=by kernel_rfl) (o8:(i == n)=false:=by exact rfl) (hQ:∀c a w,Q (.panic c) (a.put oi.dst v) w -> Q (.panic c) a w:=by exact fun _ _ _ h=>h) (hw:Region.wanted oi (yielded ops a.tmps)=true:=by rfl) (hy:∀w,(execOp a.eval oi).run P w=.ok (.value v) w:=by exact fun _=>by first|(go_simp;done)|(go_simp;with_reducible rfl)): nL P md ops Q S n (fuel+1) iw a w:=mI hi hs hf hr o8 hQ hS hw hy h
theorem pW (hr:Region.ready md ops iw=[i]) (hi:ops[i]? = some oi) (h:∀K':Act -> World -> Prop,(∀a w,((iw.setIfInBounds i true).getD n false=true \/ S w) -> nL P md ops Q S n fuel (iw.setIfInBounds i true) a w -> K' a w) -> if Region.wanted oi (yielded ops a.tmps)=true then Oper.wp P oi a w K' Q else K' (a.put oi.dst undef) w):
  nL P md ops Q S n (fuel+1) iw a w :=
 ⟨(fun h0=>by rw[h0] at hr;cases hr),fun j hj=>by
  rw[hr] at hj;obtain rfl:j=i:=by simpa using hj
  have:=h (fun a' w'=>((iw.setIfInBounds j true).getD n false=true \/ S w') /\ nL P md ops Q S n fuel (iw.setIfInBounds j true) a' w') (fun a w h1 h2=>⟨h1,h2⟩);unfold wpOp;simp only[hi]
  by_cases hw:Region.wanted oi (yielded ops a.tmps)=true
  ·rw[if_pos hw] at this ⊢;exact .inl this
  ·rw[if_neg hw] at this ⊢;exact this⟩
theorem tJ (hr:Region.ready md ops iw=[]) (h:Q .normal a w): ∀fuel,nL P md ops Q S n fuel iw a w
 | 0=>⟨hr,h⟩
 | _+1=>⟨fun _=>h,by rw[hr];simp⟩
theorem oo (n:Nat) (S:World -> Prop) (hm:P.follows .mixedOrders=true) (h:nL P .any ops Q S n ops.size (Array.replicate ops.size false) a w.drew): (Code.region id ops true).wp P Q a w :=
 wp_region_any hm (Aw _ _ _ _ h)
end
namespace Cat
structure E9 (cs:Array Value) (kind:Int) (txt:ByteArray) (tbl:Int):Prop where
 j5:cs.size=46
 hk:cs[0]? = some (Iq kind)
 rT:cs[1]? = some (.string txt)
 qT:cs[2]? = some (Iq tbl)
 Ym:txt.size <= maxLen
 hwf:(Lit.int .i64 tbl).wf=true
def kt (L:List Tb) (kind:Int) (txt:ByteArray) (tbl:Int):Int :=
 if kind=5 then(if 64 <= L.length then 17 else if tbl≠L.length+1 \/ uo txt=false then 3 else if(y7 L txt).isSome=true then 8 else 0)
 else if kind=6 then(if there L tbl=true then 0 else 7)
 else if kind=7 then(if there L tbl=false then 7 else if uo txt=false then 3 else if has L tbl txt=true then 8 else if 16 <= (L.getD (tbl - 1).toNat iX).fs.length then 17 else 0)
 else 0
def mW (L:List Tb) (kind:Int) (txt:ByteArray) (tbl:Int):List Tb :=
  if kt L kind txt tbl=0 then
    (if kind=5 then L++[⟨txt, false, []⟩]
     else if kind=6 then L.set (tbl - 1).toNat ⟨(L.getD (tbl - 1).toNat iX).name, true, []⟩
     else if kind=7 then L.set (tbl - 1).toNat ⟨(L.getD (tbl - 1).toNat iX).name, (L.getD (tbl - 1).toNat iX).dropped, (L.getD (tbl - 1).toNat iX).fs++[txt]⟩
     else L)
  else L
def wA (w:World) (c n:Nat) (O:Nat -> Prop) (L:List Tb) (kind:Int) (txt:ByteArray) (tbl:Int) (e:Ending) (w':World):Prop :=
 ∃O',e=.returned (Iq (kt L kind txt tbl)) /\ ln w' c O' (n+1) (mW L kind txt tbl) /\ ib (fun b=>b<w.heap.size /\ ¬O b) w w' /\ ∀b,O' b -> O b \/ w.heap.size <= b
theorem ln.mono {n:Nat}{L:List Tb}(h:ln w c O n L) (hn:n <= n'): ln w c O n' L:=by
 obtain⟨tv,dr,mb,h1,h2,h3,h4,h5,h6,h7,h8⟩:=h;exact⟨tv,dr,mb,h1,h2,h3,h4,h5,h6,h7.mono hn,h8⟩
theorem ov {n:Nat}{L:List Tb}{kind:Int}{x:Int}(hx:kt L kind txt tbl=x) (kD:x≠0) (h:ln w c O n L) (hb:iB w w'): wA w c n O L kind txt tbl (.returned (Iq x)) w' :=
 ⟨O,by rw[hx],by unfold mW;rw[if_neg (by rw[hx];exact kD)];exact(h.below hb (af _)).mono gZ,ib.mono (ib.ic hb) (fun k hk=>hk.1),fun b hb=>.inl hb⟩
theorem lV (l r:List α) (i:Nat) (d:α) (h:i<l.length): (l++r).getD i d=l.getD i d:=by simp[aP h]
theorem mq (l r:List α) (i:Nat) (d:α): (l++r).getD (l.length+i) d=r.getD i d:=by simp[ay]
theorem vE (l:List α) (i:Nat) (d:α) (h:l.length <= i): l.getD i d=d:=by simp[h]
theorem Y7 (L:List Tb) (txt:ByteArray) (id:Int) (f:ByteArray): has (L++[⟨txt,false,[]⟩]) id f=has L id f:=by
 unfold has
 by_cases h1:1 <= id
 ·by_cases h2:id <= L.length
  ·have h3:id <= (L++[⟨txt,false,[]⟩]:List Tb).length:=by simp;omega
   rw[lV _ _ _ _ gZ];simp[h1,h2];omega
  ·by_cases h4:id=L.length+1
   ·have e:(id - 1).toNat=L.length+0:=gZ
    rw[e,mq]
    show(_ && _ && mem [] f)=_
    simp[h2,AB]
   ·rw[vE _ _ _ (by simp;omega)]
    simp[iX,h2,AB]
 ·simp[h1]
theorem kN {yo:Array Value}{t t':TypeId}{fr':Nat × Nat}(h:w.heap[b]? = some (.cells cs t fr)) (h':w.heap[b']? = some (.cells yo t' fr')) (kD:t≠t'): b≠b':=by
 intro e;subst e;rw[h] at h';injection h' with h';injection h' with _ h2 _;exact kD h2
theorem MF.kN {P:Program}{k:TypeId}{mk:κ -> Value}{n:Nat}{F:κ -> Option Value}(h:MF P k mk w b n F) {t:TypeId}(h':w.heap[b']? = some (.cells cs t fr)): b≠b':=by
 obtain⟨D,⟨es,clock,h1,-⟩,-⟩:=h;intro e;subst e;rw[h1] at h';cases h'
theorem Zj {w0:World}{n dr:Nat}{L:List Tb}{sO:Value}(hc:h_ 144 w0 c [tv,.int .u64 (dr:Nat),.map (some mb)]) (wI:O c) (tP:O mb) (hO:∀b,O b -> b<w0.heap.size) (hT:iK 98 4 w0 O tv L.length cells) (hI:∀i,i<L.length -> lT 100 w0 O cells i (L.getD i iX)) (hB:IV dr L) (hM:MF prog 146 mk w0 mb n (uf L)) (hG:Good L) (hk:ib (fun b=>b<w0.heap.size /\ tv.ownBlock≠some b) w0 w1) (hBB:w0.heap.size <= B) (Cw:iK 98 4 w1 (fun g=>O g \/ g=B) sO (L.length+1) (cells++[Iq (L.length+1:Nat),.string txt,.bool false,.slice none 0 0])) (hlen:L.length<64) (aaj:txt.size <= 40):
  ln (w1.setCell ⟨c,0,none⟩ sO) c (fun b=>O b \/ sO.ownBlock=some b) (n+1) (L++[⟨txt,false,[]⟩]) /\ ib (fun b=>b<w0.heap.size /\ ¬O b) w0 (w1.setCell ⟨c,0,none⟩ sO) /\ ∀b,(O b \/ sO.ownBlock=some b) -> O b \/ w0.heap.size <= b:=by
 have Lt:tv.ownBlock≠some c:=by
  intro e;obtain⟨cur,kI⟩:=hT.tag e;exact kN hc kI j9 rfl
 have xF:tv.ownBlock≠some mb:=by
  intro e;obtain⟨cur,kI⟩:=hT.tag e;exact MF.kN hM kI rfl
 have Co:=MF.kN hM hc;have tC:=hc.ij hk ⟨hO c wI,Lt⟩;have amA:=hT.len;have ho:∀b,sO.ownBlock=some b -> O b \/ w0.heap.size <= b:=fun b e=>(Cw.own e).imp id (fun e=>by rw[e];exact hBB);have j5:(w1.setCell ⟨c,0,none⟩ sO).heap.size=w1.heap.size:=by simp[World.setCell]
 have TR:∀b,b≠c -> (w1.setCell ⟨c,0,none⟩ sO).heap[b]? = w1.heap[b]?:=fun b hb=>Below.heap_setCell _ _ _ _ hb;refine⟨⟨sO,dr,mb,tC.set 0 sO,.inl wI,.inl tP,fun b hb=>?_,⟨cells++[Iq (L.length+1:Nat),.string txt,.bool false,.slice none 0 0],?_,fun i hi=>?_⟩,⟨hB.1,fun i=>?_⟩,?_,⟨by simp;omega,fun i hi=>?_⟩⟩,⟨hk.os,hk.tape,hk.output,by rw[j5];exact hk.size,fun b hb=>?_⟩,fun b hb=>hb.elim .inl (ho b)⟩
 ·rw[j5]
  rcases hb with hb|hb
  ·exact ak (hO b hb) hk.size
  ·exact Cw.lt hb
 ·have hl:(L++[(⟨txt,false,[]⟩:Tb)]).length=L.length+1:=iz
  rw[hl];refine⟨(Cw.iP fun g hg=>TR g ?_).1,Cw.2.1,fun g hg=>.inr hg⟩;intro e;obtain⟨cur,kI⟩:=Cw.tag hg;rw[e] at kI;exact kN tC kI j9 rfl
 ·have h62:∀b,O b -> (∃cur,w0.heap[b]? = some (.cells cur 100 (0,0))) -> (w1.setCell ⟨c,0,none⟩ sO).heap[b]? = w0.heap[b]?:=by
   rintro b hb ⟨cur,kI⟩;have h1:=kN kI hc j9;have h2:tv.ownBlock≠some b:=by
    intro e;obtain⟨apj,IP⟩:=hT.tag e;exact kN kI IP j9 rfl
   rw[TR b h1,hk.block b ⟨hO b hb,h2⟩]
  by_cases h:i<L.length
  ·rw[lV L _ i _ h]
   obtain⟨i0,i1,i2,i3⟩:=(hI i h).iP h62;refine⟨?_,?_,?_,?_⟩
   ·rw[lV _ _ _ _ gZ];exact i0
   ·rw[lV _ _ _ _ gZ];exact i1
   ·rw[lV _ _ _ _ gZ];exact i2
   ·rw[lV _ _ _ _ gZ];exact i3.mono fun b hb=>.inl hb
  ·have e:i=L.length:=by simp at hi;omega
   subst e;have e1:(L++[(⟨txt,false,[]⟩:Tb)]).getD L.length iX=⟨txt,false,[]⟩:=mq L _ 0 _;rw[e1];have e2:=amA.symm;unfold lT;rw[e2];refine⟨mq cells _ 0 _,mq cells _ 1 _,mq cells _ 2 _,?_⟩;rw[mq cells _ 3 _];exact iK.nil _ _ _ _
 ·rw[hB.2 i]
  rcases dJ i L.length with h|h|h
  ·rw[lV _ _ _ _ h]
  ·subst h;rw[vE L _ _ (af _)];have e:=mq L [(⟨txt,false,[]⟩:Tb)] 0 iX;rw[dX] at e;rw[e];rfl
  ·rw[vE _ _ _ gZ,vE _ _ _ (by simp;omega)]
 ·have:=((hM.ij hk ⟨hO mb tP,xF⟩).iP (w':=w1.setCell ⟨c,0,none⟩ sO) (TR mb Co)).mono (bJ n)
  exact this.congr fun x=>by unfold uf;rw[Y7]
 ·by_cases h:i<L.length
  ·rw[lV _ _ _ _ h];exact hG.each i h
  ·have e:i=L.length:=by simp at hi;omega
   subst e;have e1:(L++[(⟨txt,false,[]⟩:Tb)]).getD L.length iX=⟨txt,false,[]⟩:=mq L _ 0 _;rw[e1];exact⟨aaj,iz,iz,iz⟩
 ·rw[TR b (fun e=>hb.2 (e ▸ wI))]
  exact hk.block b ⟨hb.1,fun e=>hb.2 (hT.own e)⟩
theorem KF: lK prog 94 98 4 56:=lK.mk' (z:=.agg #[Iq 0,.string ByteArray.empty,.bool false,.slice none 0 0]) underlying94 (by kernel_rfl) rfl gZ
theorem Ol {n:Nat}{L:List Tb}(h:ln w c O n L) (hE:E9 cs 5 txt tbl):
  Calls prog 88 #[iF c,.agg cs] w (wA w c n O L 5 txt tbl):=by
 have hz:=rH;have jP:iB w (w.alloc (.cells cs 76)):=(Below.refl _ w).alloc (af _) _;have h1:=h.below jP (af _);have HE:=iH.mk hE;have ji:=heap_alloc_new w (.cells cs 76);have e0:(w.alloc (.cells cs 76)).cell? ⟨w.heap.size,0,none⟩=some (Iq 5):=by rw[eE _ _ _ _ _ _ ji];exact hE.hk
 have e1:(w.alloc (.cells cs 76)).cell? ⟨w.heap.size,1,none⟩=some (.string txt):=by rw[eE _ _ _ _ _ _ ji];exact hE.rT
 have e2:(w.alloc (.cells cs 76)).cell? ⟨w.heap.size,2,none⟩=some (Iq tbl):=by rw[eE _ _ _ _ _ _ ji];exact hE.qT
 have H:=iH.mk h;have HB:=iH.mk jP;have H1:=iH.mk h1;clear h jP h1 hE ji
 go_enter gg,fK
 go_wp2_with fail
 generalize World.alloc _ _=w1 at e0 e1 e2 HB H1 ⊢;have Xr:=bU w1 _ e0;refine(YT H1.out _).mono ?_;rintro e w2 ⟨sp,cc,rfl,iJ,jg⟩;have Dm:((qR L txt).2.2=0 /\ (y7 L txt).isSome=true) \/ ((qR L txt).2.2=13 /\ (y7 L txt).isSome=false):=by
  unfold qR;cases y7 L txt<;>simp
 generalize qR L txt=r at *;obtain⟨ri,rt,rc⟩:=r;have Hec:=iH.mk Dm;have jF:iB w1 (w2.alloc (.cells #[Iq ri,.string rt.name,.bool rt.dropped,.slice sp rt.fs.length cc] 98)):=jg.alloc jg.size _;have H3:=iH.mk (H1.out.below jF (af _));have Yq:=iH.mk (HB.out.trans (jF.mono HB.out.size));have e1':(w2.alloc (.cells #[Iq ri,.string rt.name,.bool rt.dropped,.slice sp rt.fs.length cc] 98)).cell? ⟨w.heap.size,1,none⟩=some (.string txt):=by rw[jF.cell (p:=⟨w.heap.size,1,none⟩) Xr];exact e1
 have e2':(w2.alloc (.cells #[Iq ri,.string rt.name,.bool rt.dropped,.slice sp rt.fs.length cc] 98)).cell? ⟨w.heap.size,2,none⟩=some (Iq tbl):=by rw[jF.cell (p:=⟨w.heap.size,2,none⟩) Xr];exact e2
 have B7:w.heap.size<w2.heap.size:=ak Xr jg.size;clear Dm jg jF H1 HB e0 e1 e2 Xr iJ;obtain⟨tv,dr,mb,hc,wI,tP,Kx,⟨cells,hT,hI⟩,Bm,zG,hG⟩:=H3.out;have HX:=iH.mk (And.intro tP (And.intro Kx (And.intro Bm (And.intro zG hG))));clear tP Kx Bm zG;obtain⟨sj,cap,rfl,uN,oG⟩:=hT.slice;have c0:=hc.cell 0 iz;simp only[al] at c0;have hcw:=H.out.lt c wI;have HT:=iH.mk hT;have HI:=iH.mk hI;have hlen:=hG.len;have Hc:=iH.mk hc;clear hT hI hG hc
 by_cases O3:64 <= L.length
 ·have hx:kt L 5 txt tbl=17:=by unfold kt;rw[if_pos rfl,if_pos O3]
  have Hx:=iH.mk hx;have ais:(64:Int) <= L.length:=gZ;clear hx
  go_wp2_with fail
  go_ret
  exact ov Hx.out gZ H.out Yq.out
 ·have ais:(L.length:Int)<64:=gZ
  have tQ:IntKind.i64.wrap ((L.length:Int)+1)=(L.length:Int)+1:=bG _ gZ
  by_cases qT:tbl=L.length+1
  ·subst qT
   have hg:(((L.length:Int)+1) != (L.length:Int)+1)=false:=iz;cases m4:uo txt with
   | false=>
    have hx:kt L 5 txt (L.length+1)=3:=by unfold kt;rw[if_pos rfl,if_neg O3,if_pos (.inr m4)]
    have Hx:=iH.mk hx;have Hcl:iH (∀w,Calls prog 126 #[.string txt] w fun e w'=>e=.returned (.bool false) /\ w=w'):=iH.mk fun w=>by rw[<- m4];exact qy txt w
    clear hx m4
    go_wp2_with fail
    go_quiet ((go_at_call 126;exact GD (Hcl.out _)))
    go_wp2_with fail
    go_ret
    exact ov Hx.out gZ H.out (zF Yq.out _)
   | true=>
    have Hcl:iH (∀w,Calls prog 126 #[.string txt] w fun e w'=>e=.returned (.bool true) /\ w=w'):=iH.mk fun w=>by rw[<- m4];exact qy txt w
    have CO:=iH.mk m4;clear m4
    go_wp2_with fail
    go_quiet ((go_at_call 126;exact GD (Hcl.out _)))
    rcases Hec.out with⟨hr,hi⟩|⟨hr,hi⟩
    ·have hx:kt L 5 txt (L.length+1)=8:=by unfold kt;rw[if_pos rfl,if_neg O3,if_neg (by simp[CO.out]),if_pos hi]
     have Hx:=iH.mk hx;subst hr;clear hx hi
     go_wp2_with fail
     go_ret
     exact ov Hx.out gZ H.out (zF Yq.out _)
    ·skip
     subst hr;have Hi:=iH.mk hi;clear hi
     go_wp2_with fail
     generalize nR:World.drewN _ _=w4;have f0:w4.cell? ⟨c,0,none⟩=some (.slice sj L.length cap):=by rw[<- nR];exact c0
     have f1:w4.cell? ⟨w.heap.size,1,none⟩=some (.string txt):=by rw[<- nR];exact e1'
     have f2:w4.cell? ⟨w.heap.size,2,none⟩=some (Iq ((L.length:Int)+1)):=by rw[<- nR];exact e2'
     have HB4:=iH.mk (show iB w w4 by rw [<- nR];exact zF Yq.out _);have HT4:=iH.mk (show iK 98 4 w4 O (.slice sj L.length cap) L.length cells by rw [<- nR];exact HT.out);have HI4:=iH.mk (show ∀ i,i < L.length -> lT 100 w4 O cells i (L.getD i iX) by rw [<- nR];exact HI.out);have Hc4:=iH.mk (show h_ 144 w4 c [.slice sj L.length cap,.int .u64 (dr : Nat),.map (some mb)] by rw [<- nR];exact Hc.out);have HX4:=iH.mk (show O mb /\ (∀ b,O b -> b < w4.heap.size) /\ IV dr L /\ MF prog 146 mk w4 mb n (uf L) /\ Good L by rw [<- nR];exact HX.out);clear Yq H3 HT HI HX Hc c0 e1' e2' nR O3 ais uN;have hS : w4.drew.cell? ⟨c,0,none⟩ = some (.slice sj L.length cap) /\ w4.drew.cell? ⟨w.heap.size,1,none⟩ = some (.string txt) /\ w4.drew.cell? ⟨w.heap.size,2,none⟩ = some (Iq ((L.length : Int) + 1)):=⟨f0,f1,f2⟩;have ahH : w.heap.size < w4.heap.size:=bU w4 _ f1;have T_ : c < w4.heap.size:=bU w4 _ f0;refine oo 11 (fun w' => w'.cell? ⟨c,0,none⟩ = some (.slice sj L.length cap) /\ w'.cell? ⟨w.heap.size,1,none⟩ = some (.string txt) /\ w'.cell? ⟨w.heap.size,2,none⟩ = some (Iq ((L.length : Int) + 1))) (by kernel_rfl) ?_;refine iM (i:=0) (.inr hS) ?_  -- move (tmp 0)
     refine iM (i:=1) (.inr hS) ?_  -- move (tmp 0)
     refine iM (i:=2) (.inr hS) ?_  -- nilCheck (tmp 51)
     refine iM (i:=3) (.inr hS) ?_  -- fieldAddr 69 (tmp 52) 0
     refine ny (i:=4) [11] rfl (by kernel_rfl) (by kernel_rfl) (by kernel_rfl) (by kernel_rfl) rfl (fun _ _ _ h => h) (by rfl) (fun w' Jz => by first | (go_simp;done) | (go_simp;with_reducible rfl)) hS ?_  -- load 41 (tmp 53)
     refine mI (i:=5) rfl (by kernel_rfl) (by kernel_rfl) (by kernel_rfl) rfl (fun _ _ _ h => h) (.inr hS) (by rfl) (fun _ => by first | (go_simp;done) | (go_simp;with_reducible rfl)) ?_  -- fieldAddr 37 (tmp 3) 2
     refine ny (i:=6) [9,10,11] rfl (by kernel_rfl) (by kernel_rfl) (by kernel_rfl) (by kernel_rfl) rfl (fun _ _ _ h => h) (by rfl) (fun w' Jz => by first | (go_simp;done) | (go_simp;with_reducible rfl)) hS ?_  -- load 3 (tmp 55)
     refine mI (i:=7) rfl (by kernel_rfl) (by kernel_rfl) (by kernel_rfl) rfl (fun _ _ _ h => h) (.inr hS) (by rfl) (fun _ => by first | (go_simp;done) | (go_simp;with_reducible rfl)) ?_  -- fieldAddr 37 (tmp 3) 1
     refine ny (i:=8) [9,10,11] rfl (by kernel_rfl) (by kernel_rfl) (by kernel_rfl) (by kernel_rfl) rfl (fun _ _ _ h => h) (by rfl) (fun w' Jz => by first | (go_simp;done) | (go_simp;with_reducible rfl)) hS ?_  -- load 9 (tmp 57)
     refine mI (i:=9) rfl (by kernel_rfl) (by kernel_rfl) (by kernel_rfl) rfl (fun _ _ _ h => h) (.inr hS) (by rfl) (fun _ => by first | (go_simp;done) | (go_simp;with_reducible rfl)) ?_  -- build 45 #[(0,tmp 56),(1,tmp 58)]
     refine pW (i:=10) (by kernel_rfl) rfl ?_;intro K hK  -- yR Op.buildSlice 41 1 #[(0,Operand.tmp 59)]
     go_simp
     have ph:(w4.alloc (.cells #[Iq ((L.length:Int)+1),.string txt,.bool false,.slice none 0 0] 98)).drew.cell? ⟨c,0,none⟩=some (.slice sj L.length cap) /\ (w4.alloc (.cells #[Iq ((L.length:Int)+1),.string txt,.bool false,.slice none 0 0] 98)).drew.cell? ⟨w.heap.size,1,none⟩=some (.string txt) /\ (w4.alloc (.cells #[Iq ((L.length:Int)+1),.string txt,.bool false,.slice none 0 0] 98)).drew.cell? ⟨w.heap.size,2,none⟩=some (Iq ((L.length:Int)+1)) :=
      ⟨by rw[<- f0];exact bD (w:=w4) (Below.heap_alloc _ _ _ T_),by rw[<- f1];exact bD (w:=w4) (Below.heap_alloc _ _ _ ahH),by rw[<- f2];exact bD (w:=w4) (Below.heap_alloc _ _ _ ahH)⟩
     refine hK _ _ (.inr ph) ?_;have ho5 : iK 98 4 (w4.alloc (.cells #[Iq ((L.length : Int) + 1),.string txt,.bool false,.slice none 0 0] 98)).drew O (.slice sj L.length cap) L.length cells:=HT4.out.alloc _;have hs5 : n_ (w4.alloc (.cells #[Iq ((L.length : Int) + 1),.string txt,.bool false,.slice none 0 0] 98)).drew (fun _ => True) 4 (.slice (some ⟨w4.heap.size,0,none⟩) 1 1) 1 [Iq ((L.length : Int) + 1),.string txt,.bool false,.slice none 0 0]:=n_.fresh w4 (fun _ => True) _ (m:=4) (n:=1) (l:=[Iq ((L.length : Int) + 1),.string txt,.bool false,.slice none 0 0]) rfl (fun u hu => by simp at hu;rcases hu with rfl | rfl | rfl | rfl <;> rfl) trivial (by unfold maxLen;omega);clear hS ph hK K;refine pW (i:=11) (by kernel_rfl) rfl ?_;intro K hK  -- yR Op.call { callee:=Callee.builtin Builtin.append,args:=#[Operand.tmp 54,Operand.tmp 60],argTypes:=#[41,41] }
     refine T5 rfl (.tmp 54) (.tmp 60) 94 rfl KF rfl ho5 rfl hs5 (n':=L.length+1) rfl (by unfold maxLen;omega) gZ ?_;intro xy c5 w5 xO vC j6;have Lt:(Value.slice sj L.length cap).ownBlock≠some c:=by
      intro e;obtain⟨cur,kI⟩:=HT4.out.tag e;exact kN Hc4.out kI j9 rfl
     have mz :=
      ((ib.ic (((Below.refl w4.heap.size w4).alloc (af _) (.cells #[Iq ((L.length:Int)+1),.string txt,.bool false,.slice none 0 0] 98)).drew)).mono (fun b hb=>hb.1)).trans ((oC vC).mono fun b (hb:b<w4.heap.size /\ (Value.slice sj L.length cap).ownBlock≠some b)=>⟨by show b<(w4.alloc (.cells #[Iq ((L.length:Int)+1),.string txt,.bool false,.slice none 0 0] 98)).heap.size;simp;omega,hb.2⟩)
     have Sx:=Hc4.out.ij mz ⟨T_,Lt⟩;have g0:=Sx.cell 0 iz;have g1:=Sx.free 0;simp only [al] at g0;have Hk5:=iH.mk mz;have F9:=iH.mk xO;have atF:=iH.mk vC;have Hat:=iH.mk j6;refine hK _ _ (.inl rfl) ?_;clear hK K ho5 hs5 Lt mz Sx xO vC j6;refine iM (i:=12) (.inl rfl) ?_  -- nilCheck (tmp 50)
     refine iM (i:=13) (.inl rfl) ?_  -- fieldAddr 69 (tmp 62) 0
     refine pW (i:=14) (by kernel_rfl) rfl ?_;intro K hK  -- yR Op.store 41 (Operand.tmp 63) (Operand.tmp 61)
     go_simp
     refine hK _ _ (.inl rfl) ?_;refine tJ (by kernel_rfl) ?_ _;clear hK K
     go_wp2_with fail
     go_ret
     have aet:txt.size <= 40:=by
      have:=CO.out;unfold uo at this;simp at this
      exact this.2
     obtain⟨x1,x2,x3,x4,x5⟩:=HX4.out;obtain⟨y1,y2,y3⟩:=Zj Hc4.out wI x1 x2 HT4.out HI4.out x3 x4 x5 Hk5.out (B:=(w4.alloc (.cells #[Iq ((L.length:Int)+1),.string txt,.bool false,.slice none 0 0] 98)).heap.size) iz F9.out gZ aet;have vO:kt L 5 txt ((L.length:Int)+1)=0:=by
      unfold kt;rw[if_pos rfl,if_neg gZ,if_neg (by simp[CO.out]),if_neg (by simp[Hi.out])]
     have BY:mW L 5 txt ((L.length:Int)+1)=L++[⟨txt,false,[]⟩]:=by
      unfold mW;rw[if_pos vO,if_pos rfl]
     have nR:w.heap.size <= w4.heap.size:=gZ;refine⟨_,by rw[vO];rfl,by rw[BY];exact y1,((ib.ic HB4.out).mono fun b hb=>hb.1).trans (y2.mono fun b (hb:b<w.heap.size /\ ¬O b)=>⟨gZ,hb.2⟩),fun b hb=>(y3 b hb).imp id fun h=>by omega⟩
  ·have hx:kt L 5 txt tbl=3:=by unfold kt;rw[if_pos rfl,if_neg O3,if_pos (.inl qT)]
   have Hx:=iH.mk hx;have hg:=beq_eq_false_iff_ne.2 qT;have lN:(tbl != (L.length:Int)+1)=true:=by rw[bne_iff_ne];exact qT
   clear hx qT
   go_wp2_with fail
   go_quiet (fail)
   go_wp2_with fail
   go_ret
   exact ov Hx.out gZ H.out (zF Yq.out _)
end Cat
def oa (k:IntKind) (e:TypeId) (w:World) (base:Nat) (v:Value) (l:List Int):Prop:=w.ownsRow base e 1 v l.length (l.map (Value.int k))
theorem oa.nil (k:IntKind) (e:TypeId) (w:World) (base:Nat): oa k e w base (.slice none 0 0) []:=World.ownsRow_nil _ _ _ _
theorem oa.block {k:IntKind}{e:TypeId}{v:Value}{l:List Int}(h:oa k e w base v l):
  (v=.slice none 0 0 /\ l=[]) \/ ∃g cap rest,v=.slice (some ⟨g,0,none⟩) l.length cap /\ base <= g /\ l.length <= cap /\ cap <= maxLen /\ h_ e w g (l.map (Value.int k)++rest) /\ (l.map (Value.int k)++rest).length=cap:=by
 obtain⟨h1,h2⟩:=h;rcases h2 with⟨h2,h3⟩|⟨g,cap,cur,hv,hg,hh,r1,r2,r3,r4⟩
 ·exact .inl ⟨h2,bj h3⟩
 ·refine .inr ⟨g,cap,cur.toList.drop l.length,hv,hg,r1,r2,?_,?_⟩
  ·rw[cP] at r4
   rw[<- r4,aL]
   simpa[h_] using hh
  ·rw[cP] at r3
   simp;omega
theorem oa.row {k:IntKind}{e:TypeId}{l:List Int}(h:oa k e w base (.slice (some ⟨g,0,none⟩) l.length cap) l): Row k w g 0 l:=by
 intro j hj;have:=df h j (by simpa using hj);rw[a_,this];simp[nth,hj]
theorem oa.sl {k:IntKind}{e:TypeId}{v:Value}{l:List Int}(h:oa k e w base v l): Sl k w v l:=by
 rcases h.block with⟨rfl,rfl⟩|⟨g,cap,rest,rfl,hg,h1,h2,hb,-⟩
 ·exact Sl.nil k w
 ·exact Sl.mk h1 (by unfold maxLen at h2;exact h2) hb.lt h.row
theorem oa.alloc {k:IntKind}{e:TypeId}{v:Value}{l:List Int}(h:oa k e w base v l) (o:Obj): oa k e (w.alloc o) base v l:=World.ownsRow.alloc h o
theorem oa.ij {K:Nat -> Prop}{k:IntKind}{e:TypeId}{v:Value}{l:List Int}(h:oa k e w base v l) (hk:ib K w w') (hK:∀g,base <= g -> g<w.heap.size -> v.ownBlock=some g -> K g): oa k e w' base v l:=by
 refine⟨h.1,?_⟩;rcases h.2 with hn|⟨g,cap,cur,rfl,hb,hgg,rest⟩
 ·exact .inl hn
 ·refine .inr ⟨g,cap,cur,rfl,hb,?_,rest⟩
  rw[hk.block g (hK g hb (lt_of_block hgg) rfl)];exact hgg
theorem oa.below {k:IntKind}{e:TypeId}{v:Value}{l:List Int}(h:oa k e w base v l) (hk:Below B w w') (hB:w.heap.size <= B): oa k e w' base v l :=
 h.ij (ib.ic hk) (fun _ _ hg _=>ak hg hB)
theorem oa.own {k:IntKind}{e:TypeId}{v:Value}{l:List Int}(h:oa k e w base v l): ∀g,v.ownBlock=some g -> base <= g /\ g<w.heap.size:=fun g hg=>World.ownsRow.lt h g hg
theorem oa.mk {k:IntKind}{e:TypeId}(l rest:List Int) (hb:base <= w.heap.size) (hm:l.length+rest.length <= maxLen):
  oa k e (w.alloc (.cells ((l++rest).map (Value.int k)).toArray e)) base (.slice (some ⟨w.heap.size,0,none⟩) l.length (l.length+rest.length)) l:=by
 refine⟨iz,.inr ⟨w.heap.size,l.length+rest.length,_,rfl,hb,heap_alloc_new _ _,gZ,hm,iz,?_⟩⟩;simp
theorem oa.empty {k:IntKind}{e:TypeId}(hb:base <= w.heap.size): oa k e (w.alloc (.cells #[] e)) base (.slice (some ⟨w.heap.size,0,none⟩) 0 0) []:=oa.mk [] [] hb (by unfold maxLen;simp)
theorem Sl.one (k:IntKind) (w:World) (x:Int) (T:TypeId): Sl k (w.alloc (.cells #[.int k x] T)) (.slice (some ⟨w.heap.size,0,none⟩) 1 1) [x] :=
 Sl.mk (l:=[x]) (af _) j9 iz (jA.row (T:=T) (h_.mk w [.int k x] T))
structure Qs (P:Program) (t e:TypeId) (bytes:Nat):Prop where
 ht:P.underlying t=some (.slice e)
 ex:∃i z,P.info? e=some i /\ i.zero=some z /\ i.size=1 /\ i.bytes=bytes /\ z.cells.size=1
theorem Qs.mk' {P:Program}{t e:TypeId}{k:IntKind}{x:Int}(ht:P.underlying t=some (.slice e)) (hi:(P.info? e).map (fun i=>(i.zero,i.size,i.bytes))=some (some (.int k x),1,bytes)): Qs P t e bytes :=
 ⟨ht,let ⟨i,h1,h2,h3,h4⟩:=info_parts hi;⟨i,_,h1,h2,h3,h4,rfl⟩⟩
theorem AY {v:Value}(hg:w.grownBy w' v.ownBlock) (ho:∀g,v.ownBlock=some g -> base <= g) (hb:base <= w.heap.size): ib (fun b=>b<base) w w' :=
 ⟨hg.os,hg.tape,hg.output,hg.size,fun k hk=>hg.block k (ak hk hb) (fun e=>absurd (ho k e.symm) (Nat.not_le.2 hk))⟩
theorem wY {P:Program}(sT:o.guard=none) (s x:Operand) (t:TypeId) (ho:o.op=.call { callee:=.builtin .append,args:=#[s,x],argTypes:=#[t,t]}) {e:TypeId}{k:IntKind}(E:Qs P t e bytes) (base:Nat) (v:Value) (l:List Int) (hs:a.eval s=v) (iJ:oa k e w base v l) (xv:Value) (l2:List Int) (hx:a.eval x=xv) (lU:Sl k w xv l2) (n:Nat) (hn:l.length+l2.length=n) (mj:n <= maxLen) (jg:n*bytes <= 140737488355328) (Z2:base <= w.heap.size) (h:∀sp c w',oa k e w' base (.slice sp n c) (l++l2) -> ib (fun b=>b<base) w w' -> wpList P ops Q rest (a.put o.dst (.slice sp n c)) w'): wpList P ops Q (o :: rest) a w:=by
 subst hn;obtain⟨i,z,hi,hz,zY,vJ,Oa⟩:=E.ex;obtain⟨sp,cap,rfl,tC,rO,ji,ahJ⟩:=lU;have go:∀v' w',w'.ownsRow base e 1 v' (l.length+l2.length) (l.map (Value.int k)++l2.map (Value.int k)) -> w.grownBy w' v.ownBlock -> wpList P ops Q rest (a.put o.dst v') w':=by
  intro v' w' h1 h2;have yY:oa k e w' base v' (l++l2):=by
   unfold oa;rw[aK,aa];exact h1
  have hk:=AY h2 (fun g hg=>(iJ.own g hg).1) Z2;rcases yY.block with⟨e1,e2⟩|⟨g,c,r,e1,-⟩
  ·subst e1
   have e3:l.length+l2.length=0:=by rw[<- aa,e2];rfl
   rw[e3] at h;exact h none 0 w' yY hk
  ·subst e1
   rw[aa] at yY ⊢;exact h _ c w' yY hk
 by_cases h0:sp=none
 ·subst h0
  have vO:=ahJ rfl;subst vO;have qB:l2=[]:=bj gZ;subst qB;refine wpList_append_own_none sT s x t ho base e i 1 E.ht hi v l.length _ hs iJ hx (go v w ?_ (World.grownBy.refl _ _));unfold oa at iJ;simpa using iJ
 ·obtain⟨ad,had⟩:=dP.1 h0
  refine wpList_append_own w sT s x t ho base e i z 1 bytes E.ht hi hz zY vJ Oa j9 v l.length _ hs iJ ad l2.length cap (l2.map (Value.int k)) (by rw[hx,had]) iz ?_ ?_ mj jg Z2 (fun v' w' h1 h2 _=>go v' w' h1 h2)
  ·intro j u hu
   have hj:j<l2.length:=by
    rcases aO j l2.length with h|h
    ·exact h
    ·simp[h] at hu
   obtain⟨b,o,e1,iS,hr⟩:=ji gZ;rw[e1] at had;cases had
   rw[xW,hr j hj]
   simpa[nth,hj] using hu
  ·intro u hu
   obtain⟨_,_,rfl⟩:=bg.1 hu
   rfl
theorem Pf (w:World) (A B C:Obj):
  (((w.alloc A).alloc B).alloc C).heap[w.heap.size]? = some A /\ (((w.alloc A).alloc B).alloc C).heap[w.heap.size+1]? = some B /\ (((w.alloc A).alloc B).alloc C).heap[w.heap.size+1+1]? = some C /\
   iB w (((w.alloc A).alloc B).alloc C) /\ (((w.alloc A).alloc B).alloc C).heap.size=w.heap.size+3:=by
 have hs:((w.alloc A).alloc B).heap.size=w.heap.size+1+1:=iz;have pS:(w.alloc A).heap.size=w.heap.size+1:=iz;refine⟨?_,?_,?_,?_,?_⟩
 ·rw[Below.heap_alloc _ _ _ (by rw[hs];omega),heap_alloc2_old]
 ·rw[Below.heap_alloc _ _ _ (by rw[hs];omega),heap_alloc2_new]
 ·rw[<- hs,heap_alloc_new]
 ·exact(((Below.refl _ w).alloc (af _) A).alloc (by rw[pS];omega) B).alloc (by rw[hs];omega) C
 ·simp
open BigFrame
namespace Ld
end Ld
namespace K
def FF (r:Option Nat):Fence:={ Fence.wide with round:=r }
def cw (md:Option (Option Nat)) (P:Program) (c:Code) (Q:Exit -> Act -> World -> Prop) (a:Act) (w:World):Prop :=
 match md with
 | none=>c.wp P Q a w
 | some r=>c.wpIn (FF r) 1 P Q a w
def lw (md:Option (Option Nat)) (P:Program) (ops:Array Oper) (Q:Exit -> Act -> World -> Prop) (rest:List Oper) (a:Act) (w:World):Prop :=
 match md with
 | none=>wpList P ops Q rest a w
 | some r=>wpListIn (FF r) 1 P ops Q rest a w
section
variable {md:Option (Option Nat)}{P:Program}{Q Q':Exit -> Act -> World -> Prop}{a:Act}{w w':World}{ops:Array Oper}{rest:List Oper}{o:Oper}{K K':Act -> World -> Prop}{r:Option Nat}
theorem R0 {c:Code}(hq:∀e a w,Q e a w -> Q' e a w) (h:cw md P c Q a w): cw md P c Q' a w:=by
 cases md with
 | none=>exact Code.wp_mono hq h
 | some r=>exact Go.wpIn_mono h hq
theorem afh (h:cw md P x (Exit.then (cw md P y Q) Q) a w): cw md P (.seq x y) Q a w:=by
 cases md with
 | none=>exact wp_seq h
 | some r=>exact wpIn_seq h
theorem Yv {c:Code}(h:cw md P c (Exit.inBlock id Q) a w): cw md P (.block id c) Q a w:=by
 cases md with
 | none=>exact wp_block h
 | some r=>exact wpIn_block h
theorem adU (h:Q .normal a w): cw md P .skip Q a w:=by
 cases md with
 | none=>exact wp_skip h
 | some r=>exact wpIn_skip h
theorem abP (h:Q (.exit id) a w): cw md P (.exit id) Q a w:=by
 cases md with
 | none=>exact wp_exit h
 | some r=>exact wpIn_exit h
theorem agB (h:Q .ret a w): cw md P .ret Q a w:=by
 cases md with
 | none=>exact wp_ret h
 | some r=>exact wpIn_ret h
theorem T9 {l:List Oper}(h:lw md P l.toArray Q l a w): cw md P (.region id l.toArray false) Q a w:=by
 cases md with
 | none=>exact wp_region_lit h
 | some r=>exact wpIn_region_lit h
theorem aeB {c:Operand}{t:Bool}(hc:a.eval c=.bool t) (ht:t=true -> cw md P x Q a w) (hf:t=false -> cw md P y Q a w): cw md P (.cond c x y) Q a w:=by
 cases md with
 | none=>exact wp_cond_split hc ht hf
 | some r=>exact wpIn_cond_split hc ht hf
theorem abE {c:Code}(I:Nat -> Act -> World -> Prop) (n₀:Nat) (h₀:I n₀ a w) (round:∀n a w,I n a w -> cw md P c (Exit.then (fun a' w'=>∃n',n'<n /\ I n' a' w') Q) a w): cw md P (.loop c) Q a w:=by
 cases md with
 | none=>exact wp_loop_ghost I n₀ h₀ round
 | some r=>exact wpIn_loop_ghost I n₀ h₀ round
theorem agW {P:Program}(h:Q .normal a w): lw md P ops Q [] a w:=by
 cases md with
 | none=>exact h
 | some r=>exact h
theorem V_ {v:Next}(hv:∀d,v≠.defer d) (hr:(execOp a.eval o).run P w=.ok v w'): ∀c,o.op≠.defer c:=by
 intro c hc;unfold execOp at hr;rw[hc] at hr;simp only[bA] at hr;cases h:(resolve a.eval c o.type).run P w with
 | ok d w2=>rw[h] at hr;simp at hr;exact hv _ hr.1.symm
 | halt x w2=>rw[h] at hr;cases hr
theorem zI {v:Next}(hv:∀d,v≠.defer d) (hr:(execOp a.eval o).run P w=.ok v w'): (o.semAt r a.eval).run P w=.ok v w':=by
 rw[Oper.semAt_eq r a.eval o (V_ hv hr)];exact hr
theorem Ml {v:Value}(hg:o.guard=none) (hr:(execOp a.eval o).run P w=.ok (.value v) w') (h:lw md P ops Q rest (a.put o.dst v) w'): lw md P ops Q (o :: rest) a w:=by
 cases md with
 | none=>exact eL hg fun K hK=>by unfold Oper.wp;rw[hr,cm];exact hK _ _ h
 | some r=>exact eM hg fun K hK=>⟨fun _ _=>trivial,by show o.uponIn (FF r) 1 P a K Q ((o.semAt r a.eval).run P w);rw[zI (by intro d hd;cases hd) hr,Oper.uponIn_value];exact hK _ _ h⟩
theorem adX (hg:o.guard=none) (hr:(execOp a.eval o).run P w=.ok .skip w') (h:lw md P ops Q rest (a.put o.dst undef) w'): lw md P ops Q (o :: rest) a w:=by
 cases md with
 | none=>exact eL hg fun K hK=>by unfold Oper.wp;rw[hr,Oper.upon_skip];exact hK _ _ h
 | some r=>exact eM hg fun K hK=>⟨fun _ _=>trivial,by show o.uponIn (FF r) 1 P a K Q ((o.semAt r a.eval).run P w);rw[zI (by intro d hd;cases hd) hr,Oper.uponIn_skip];exact hK _ _ h⟩
theorem Qw {n:Nat}(h:Calls P f args w R): CallsIn (FF r) n P f args w R:=by
 cases r with
 | none=>exact callsIn_wide.2 h
 | some l=>exact CallsIn.inRound l (callsIn_wide.2 h)
theorem MU (hg:o.guard=none) (hr:(execOp a.eval o).run P w=.ok (.enter f args) w') (h:Calls P f args w' fun e w2=>∃v,e=.returned v /\ lw md P ops Q rest (a.put o.dst v) w2): lw md P ops Q (o :: rest) a w:=by
 cases md with
 | none=>
  exact eL hg fun K hK=>by
   unfold Oper.wp;rw[hr,Oper.upon_enter];refine h.mono fun e w2 hh=>?_;obtain⟨v,rfl,h2⟩:=hh;exact hK _ _ h2
 | some r=>
  refine eM hg fun K hK=>⟨fun _ _=>trivial,?_⟩
  show o.uponIn (FF r) 1 P a K Q ((o.semAt r a.eval).run P w)
  rw[zI (by intro d hd;cases hd) hr,Oper.uponIn_enter];refine⟨fun _=>af 1,(Qw h).mono fun e w2 hh=>?_⟩;obtain⟨v,rfl,h2⟩:=hh;exact hK _ _ h2
theorem Zy {l:Nat}(hg:o.guard=none) (hr:(execOp a.eval o).run P w=(Instr.yield l args).run P w) (hy:YieldAt Fence.wide 0 P l args w R) (h:∀e w2,R e w2 -> ∃v,e=.returned v /\ lw (some none) P ops Q rest (a.put o.dst v) w2): lw (some none) P ops Q (o :: rest) a w:=by
 obtain⟨fn,tmps,assign,body,h1,h2⟩:=hy;refine eM hg fun K hK=>⟨fun _ _=>trivial,?_⟩
 show o.uponIn (FF none) 1 P a K Q ((o.semAt none a.eval).run P w)
 rw[zI (by intro d hd;cases hd) (hr.trans h1),Oper.uponIn_round];refine⟨fun _=>af 1,RoundIn.mono h2 fun e w2 hh=>?_⟩;obtain⟨v,rfl,h3⟩:=h e w2 hh;exact hK _ _ h3
theorem ajL (hw:Region.wanted o (yielded ops a.tmps)=true) (h:lw md P ops Q ({ o with guard:=none } :: rest) a w): lw md P ops Q (o :: rest) a w:=by
 have lQ:Region.wanted { o with guard:=none } (yielded ops a.tmps)=true:=rfl;cases md with
 | none=>
  change wpList P ops Q _ a w at h
  show wpList P ops Q _ a w
  unfold wpList at h ⊢;rw[if_pos lQ] at h;rw[if_pos hw];exact h
 | some r=>
  change wpListIn (FF r) 1 P ops Q _ a w at h
  show wpListIn (FF r) 1 P ops Q _ a w
  unfold wpListIn at h ⊢;rw[if_pos lQ] at h;rw[if_pos hw];exact h
theorem afK (hw:Region.wanted o (yielded ops a.tmps)=false) (h:lw md P ops Q rest (a.put o.dst undef) w): lw md P ops Q (o :: rest) a w:=by
 have lQ:¬Region.wanted o (yielded ops a.tmps)=true:=by rw[hw];exact dw
 cases md with
 | none=>show wpList P ops Q _ a w;unfold wpList;rw[if_neg lQ];exact h
 | some r=>show wpListIn (FF r) 1 P ops Q _ a w;unfold wpListIn;rw[if_neg lQ];exact⟨fun _ _=>trivial,h⟩
def Kn (Q:Exit -> Act -> World -> Prop):Exit -> Act -> World -> Prop
 | .outgrown,_,_=>False
 | e,a,w=>Q e a w
theorem agY {n:Nat}{row:String}{R:Value -> World -> Prop}(h:Rows P row args w R): RowsIn (FF r) n P row args w R:=by
 have h1:RowsIn Fence.wide n P row args w R:=fun c cs _=>let ⟨v,w',hR,hs⟩:=h c cs;⟨v,w',hR,stepsIn_wide.2 hs⟩
 exact h1
theorem YG (hk:∀a w, K a w -> K' a w) (h:o.wp P a w K (Exit.then K (Kn Q))): o.wp P a w K' Q := by
  unfold Oper.wp at h ⊢
  revert h
  generalize (execOp a.eval o).run P w=x; intro h; cases x with
  | ok x w2=>
    cases x<;>first|exact hk _ _ h|exact h|skip
    all_goals first
      | (refine Calls.mono h fun e w3 h3=>?_
         cases e with
         | returned v=>exact hk _ _ h3
         | panicked ch=>exact h3
         | outgrown=>obtain⟨a4, w4, h4⟩ := h3; exact h4.elim)
      | exact Rows.mono h fun v w3 h3=>hk _ _ h3
  | halt x w2=>cases x<;>first | exact h | skip
theorem Sc (hd:∀c, o.op≠.defer c) (hk:∀a w, K a w -> K' a w) (h:o.wp P a w K (Exit.then K (Kn Q))): o.wpIn (FF r) 1 P a w K' Q := by
  refine⟨fun _ _=>trivial, ?_⟩
  show o.uponIn (FF r) 1 P a K' Q ((o.semAt r a.eval).run P w)
  rw[Oper.semAt_eq r a.eval o hd]; unfold Oper.wp at h
  revert h
  generalize (execOp a.eval o).run P w=x; intro h; cases x with
  | ok x w2=>
    cases x<;>first|exact hk _ _ h|exact h.elim|skip
    all_goals first
      | (refine⟨fun _=>af 1, (Qw h).mono fun e w3 h3=>?_⟩
         cases e with
         | returned v=>exact hk _ _ h3
         | panicked ch=>exact h3
         | outgrown=>obtain⟨a4, w4, h4⟩ := h3; exact h4.elim)
      | exact⟨fun _=>af 1, (agY h).mono fun v w3 h3=>hk _ _ h3⟩
  | halt x w2=>cases x<;>first | exact h | exact h.elim | skip
theorem Ep (hg:o.guard=none) (hd:∀c,o.op≠.defer c) (h:wpList P ops (Exit.then (lw md P ops Q rest) (Kn Q)) [o] a w): lw md P ops Q (o :: rest) a w:=by
 have hw:Region.wanted o (yielded ops a.tmps)=true:=by simp[Region.wanted,hg]
 unfold wpList at h;rw[if_pos hw] at h;have h1:o.wp P a w (lw md P ops Q rest) (Exit.then (lw md P ops Q rest) (Kn Q)):=by
  rcases h with h|⟨-,a2,w2,h2⟩
  ·exact h
  ·exact h2.elim
 cases md with
 | none=>exact eL hg fun K hK=>YG hK h1
 | some r=>exact eM hg fun K hK=>Sc hd hK h1
theorem NI (hq:∀e a w, Q e a w -> Q' e a w) (hk:∀a w, K a w -> K' a w) (h:o.wp P a w K Q): o.wp P a w K' Q' := by
  unfold Oper.wp at h ⊢
  revert h
  generalize (execOp a.eval o).run P w=r; intro h; cases r with
  | ok x w2=>
    cases x<;>first|exact hk _ _ h|exact h|skip
    all_goals first
      | (refine Calls.mono h fun e w3 h3=>?_
         cases e with
         | returned v=>exact hk _ _ h3
         | panicked ch=>exact hq _ _ _ h3
         | outgrown=>obtain⟨a4, w4, h4⟩ := h3; exact⟨a4, w4, hq _ _ _ h4⟩)
      | exact Rows.mono h fun v w3 h3=>hk _ _ h3
  | halt x w2=>cases x<;>first | exact hq _ _ _ h | exact h | skip
theorem I0 {F:Fence}{n:Nat}(hq:∀e a w, Q e a w -> Q' e a w) (hk:∀a w, K a w -> K' a w) (h:o.wpIn F n P a w K Q): o.wpIn F n P a w K' Q' := by
  refine⟨h.1, ?_⟩; have h := h.2
  revert h
  generalize (o.semAt F.round a.eval).run P w=r; intro h; cases r with
  | ok x w2=>
    cases x<;>first|exact hk _ _ h|exact h|skip
    all_goals first
      | (refine⟨h.1, CallsIn.mono h.2 fun e w3 h3=>?_⟩
         cases e with
         | returned v=>exact hk _ _ h3
         | panicked ch=>exact hq _ _ _ h3
         | outgrown=>obtain⟨a4, w4, h4⟩ := h3; exact⟨a4, w4, hq _ _ _ h4⟩)
      | exact⟨h.1, RowsIn.mono h.2 fun v w3 h3=>hk _ _ h3⟩
      | (refine⟨h.1, RoundIn.mono h.2 fun e w3 h3=>?_⟩
         cases e with
         | returned v=>exact hk _ _ h3
         | panicked ch=>exact hq _ _ _ h3
         | outgrown=>obtain⟨a4, w4, h4⟩ := h3; exact⟨a4, w4, hq _ _ _ h4⟩)
  | halt x w2=>cases x<;>first | exact hq _ _ _ h | exact h | skip
theorem xH (hq:∀e a w,Q e a w -> Q' e a w) (hl:LetsOut Q -> LetsOut Q'):∀(rest:List Oper) (a:Act) (w:World),wpList P ops Q rest a w -> wpList P ops Q' rest a w
 | [],a,w,h=>hq _ _ _ h
 | o :: rest,a,w,h=>by
  unfold wpList at h ⊢
  split
  ·rename_i hw
   rw[if_pos hw] at h;rcases h with h|h
   ·exact .inl (NI hq (fun a w h=>xH hq hl rest a w h) h)
   ·exact .inr ⟨h.1,hl h.2⟩
  ·rename_i hw
   rw[if_neg hw] at h;exact xH hq hl rest _ w h
theorem uI {F:Fence}{n:Nat}(hq:∀e a w,Q e a w -> Q' e a w):∀(rest:List Oper) (a:Act) (w:World),wpListIn F n P ops Q rest a w -> wpListIn F n P ops Q' rest a w
 | [],a,w,h=>hq _ _ _ h
 | o :: rest,a,w,h=>by
  unfold wpListIn at h ⊢
  split
  ·rename_i hw
   rw[if_pos hw] at h;exact I0 hq (fun a w h=>uI hq rest a w h) h
  ·rename_i hw
   rw[if_neg hw] at h;exact⟨h.1,uI hq rest _ w h.2⟩
theorem adY (hq:∀e a w,Q e a w -> Q' e a w) (h:lw md P ops Q rest a w): lw md P ops Q' rest a w:=by
 cases md with
 | none=>exact xH hq (fun⟨a,w,q⟩=>⟨a,w,hq _ _ _ q⟩) rest a w h
 | some r=>exact uI hq rest a w h
end
abbrev Env:=List (Nat × Value)
def look:Env -> Nat -> Option Value
 | [],_=>none
 | (j,v) :: r,k=>bif Nat.beq j k then some v else look r k
def jw (l:Env):Operand -> Option Value
 | .tmp t=>look l t
 | .const v=>some v
 | .global g=>some (iF g)
 | .func f=>some (.func (.func f) #[] #[])
structure NN where
 n:Nat
 ds:List Deferred:=[]
 md:Option (Option Nat):=none
structure Fr (n:NN) (a:Act) (l:Env):Prop where
 size:a.tmps.size=n.n
 defers:a.defers=n.ds
 slot:∀k v,look l k=some v -> a.tmps[k]? = some v
theorem Fr.eval {n:NN}{l:Env}(h:Fr n a l) {x:Operand}{v:Value}(hx:jw l x=some v): a.eval x=v:=by
 cases x with
 | tmp t=>have:=h.slot t v hx;show a.tmps.getD t undef=v;rw[bS,this];rfl
 | const u=>exact au hx
 | global g=>exact au hx
 | func f=>exact au hx
theorem Fr.put {n:NN}{l:Env}(h:Fr n a l) (hd:Nat.blt d n.n=true) (v:Value): Fr n (a.put (some d) v) ((d,v) :: l):=by
 have HU:d<n.n:=by rw[Nat.blt_eq] at hd;exact hd
 refine⟨by show(a.tmps.setIfInBounds d v).size=n.n;rw[Array.size_setIfInBounds];exact h.size,h.defers,fun k u hk=>?_⟩
 show(a.tmps.setIfInBounds d v)[k]? = some u
 have hs:=h.size;unfold look at hk;cases hb:Nat.beq d k with
 | true=>
  rw[hb] at hk;obtain rfl:d=k:=bM hb;obtain rfl:v=u:=au hk;simp[hs,HU]
 | false=>
  rw[hb] at hk;have kD:d≠k:=eO hb;rw[Array.getElem?_setIfInBounds_ne kD];exact h.slot k u hk
theorem Fr.none {n:NN}{a:Act}{l:Env}(h:Fr n a l) (v:Value):Fr n (a.put none v) l:=h
def Sub (l:Env):Env -> Prop
 | []=>True
 | (k,v) :: r=>look l k=some v /\ Sub l r
theorem Sub.look {l:Env}:∀ {m:Env}{k:Nat}{v:Value},Sub l m -> look m k=some v -> K.look l k=some v
 | [],_,_,_,h=>by cases h
 | (j,u) :: r,k,v,h,hk=>by
  unfold K.look at hk;cases hb:Nat.beq j k with
  | true=>
   rw[hb] at hk;obtain rfl:j=k:=bM hb;obtain rfl:u=v:=au hk;exact h.1
  | false=>rw[hb] at hk;exact Sub.look h.2 hk
theorem Fr.sub {n:NN}{l m:Env}(h:Fr n a l) (hs:Sub l m): Fr n a m:=⟨h.size,h.defers,fun k v hk=>h.slot k v (hs.look hk)⟩
def argsEnv:Nat -> List Value -> Env
 | _,[]=>[]
 | i,v :: r=>(i,v) :: argsEnv (i+1) r
theorem y_:∀(l:List Value) (i k:Nat) (v:Value),look (argsEnv i l) k=some v -> i <= k /\ l[k - i]? = some v
 | [],_,_,_,h=>by cases h
 | u :: r,i,k,v,h=>by
  unfold argsEnv look at h;cases hb:Nat.beq i k with
  | true=>
   rw[hb] at h;obtain rfl:i=k:=bM hb;exact⟨af _,by simpa using h⟩
  | false=>
   rw[hb] at h;have kD:i≠k:=eO hb;obtain⟨h1,h2⟩:=y_ r (i+1) k v h;refine⟨gZ,?_⟩;have:k - i=(k - (i+1))+1:=gZ;rw[this]
   simpa using h2
section
variable {n:NN}{Q:Exit -> Act -> World -> Prop}{l:Env}{w:World}
structure WC (n:NN) (c:Code) (Q:Exit -> Act -> World -> Prop) (l:Env) (w:World):Prop where
 go:∀a,Fr n a l -> cw n.md prog c Q a w
structure WL (n:NN) (ops:Array Oper) (Q:Exit -> Act -> World -> Prop) (rest:List Oper) (l:Env) (w:World):Prop where
 go:∀a,Fr n a l -> lw n.md prog ops Q rest a w
structure WQ (n:NN) (Q:Exit -> Act -> World -> Prop) (e:Exit) (l:Env) (w:World):Prop where
 go:∀a,Fr n a l -> Q e a w
theorem enter {f:FuncId}{fn:Func}{c:Code}{args:List Value}{n:Nat}(hf:prog.funcs[f]? = some fn) (hb:fn.body=some c) (hn:fn.ntmps=n) (hs:Nat.ble args.length n=true) (h:WC ⟨n,[],none⟩ c (bodyPost prog fn R) (argsEnv 0 args) w): Calls prog f args.toArray w R:=by
 refine calls_of_wp hf hb (h.go _ ?_);subst hn;have Pu:args.length <= fn.ntmps:=eW hs;refine⟨by simp;omega,rfl,fun k v hk=>?_⟩;obtain⟨-,h2⟩:=y_ _ _ _ _ hk;rw[gh] at h2;have iS:k<args.length:=by
  rcases aO k args.length with h|h
  ·exact h
  ·rw[aG h] at h2;cases h2
 rw[dQ (by simpa using iS)]
 simpa using h2
theorem WC.seq (h:WC n x (Exit.then (cw n.md prog y Q) Q) l w): WC n (.seq x y) Q l w:=⟨fun a ha=>afh (h.go a ha)⟩
theorem WC.block {c:Code}(h:WC n c (Exit.inBlock id Q) l w): WC n (.block id c) Q l w:=⟨fun a ha=>Yv (h.go a ha)⟩
theorem WC.skip (h:WQ n Q .normal l w): WC n .skip Q l w:=⟨fun a ha=>adU (h.go a ha)⟩
theorem WC.exit (h:WQ n Q (.exit id) l w): WC n (.exit id) Q l w:=⟨fun a ha=>abP (h.go a ha)⟩
theorem WC.ret (h:WQ n Q .ret l w): WC n .ret Q l w:=⟨fun a ha=>agB (h.go a ha)⟩
theorem WC.region {ops:List Oper}(h:WL n ops.toArray Q ops l w): WC n (.region id ops.toArray false) Q l w:=⟨fun a ha=>T9 (h.go a ha)⟩
theorem WC.JS {c:Operand}{b:Bool}(hc:jw l c=some (.bool b)) (h1:b=true -> WC n x Q l w) (h2:b=false -> WC n y Q l w): WC n (.cond c x y) Q l w :=
 ⟨fun a ha=>aeB (ha.eval hc) (fun e=>(h1 e).go a ha) (fun e=>(h2 e).go a ha)⟩
theorem WC.condTrue {c:Operand}(hc:jw l c=some (.bool true)) (h:WC n x Q l w): WC n (.cond c x y) Q l w:=WC.JS hc (fun _=>h) (fun e=>by cases e)
theorem WC.condFalse {c:Operand}(hc:jw l c=some (.bool false)) (h:WC n y Q l w): WC n (.cond c x y) Q l w:=WC.JS hc (fun e=>by cases e) (fun _=>h)
theorem WC.qg {c:Operand}[Decidable p] (hc:jw l c=some (.bool (decide p))) (hp:p) (h:WC n x Q l w): WC n (.cond c x y) Q l w:=WC.condTrue (by rw[hc,decide_eq_true hp]) h
theorem WC.pE {c:Operand}[Decidable p] (hc:jw l c=some (.bool (decide p))) (hp:¬p) (h:WC n y Q l w): WC n (.cond c x y) Q l w:=WC.condFalse (by rw[hc,decide_eq_false hp]) h
theorem WC.akk {c:Operand}[Decidable p] (hc:jw l c=some (.bool (decide p))) (h1:p -> WC n x Q l w) (h2:¬p -> WC n y Q l w): WC n (.cond c x y) Q l w :=
 WC.JS hc (fun e=>h1 (of_decide_eq_true e)) (fun e=>h2 (of_decide_eq_false e))
theorem WC.as {c:Code}(k:Nat) (v':Value) {v:Value}(hk:look l k=some v) (e:v=v') (h:WC n c Q ((k,v') :: l) w): WC n c Q l w :=
 ⟨fun a ha=>h.go a ⟨ha.size,ha.defers,fun j u hj=>by
  unfold look at hj;cases hb:Nat.beq k j with
  | true=>
   rw[hb] at hj;obtain rfl:k=j:=bM hb;obtain rfl:v'=u:=au hj;subst e;exact ha.slot _ _ hk
  | false=>rw[hb] at hj;exact ha.slot _ _ hj⟩⟩
def aaR (n:NN) {ι:Type}(L:ι -> Env) (W:ι -> World -> Prop) (μ:ι -> Nat) (i:ι) (a:Act) (w:World):Prop:=∃j,Fr n a (L j) /\ W j w /\ μ j<μ i
def Wo (n:NN) {ι:Type}(L:ι -> Env) (W:ι -> World -> Prop) (a:Act) (w:World):Prop:=∃i,Fr n a (L i) /\ W i w
theorem WC.loop {ι:Type}{c:Code}(L:ι -> Env) (W:ι -> World -> Prop) (μ:ι -> Nat) (i:ι) (hs:Sub l (L i)) (hw:W i w) (round:∀i w,W i w -> WC n c (Exit.then (aaR n L W μ i) Q) (L i) w): WC n (.loop c) Q l w:=by
 refine⟨fun a ha=>abE (fun m a w=>∃i,Fr n a (L i) /\ W i w /\ μ i=m) (μ i) ⟨i,ha.sub hs,hw,rfl⟩ ?_⟩;rintro m a w ⟨i,hf,hw,rfl⟩;refine R0 (fun e a w q=>?_) ((round i w hw).go a hf);cases e with
 | normal=>obtain⟨j,h1,h2,h3⟩:=q;exact⟨μ j,h3,j,h1,h2,rfl⟩
 | exit id=>exact q
 | goto l=>exact q
 | ret=>exact q
 | panic ch=>exact q
 | outgrown=>exact q
end
inductive xt where
 | int (k:IntKind) | str | bool | ptr (e:Nat) | slice (e s:Nat) | struct (n:Nat) (fs:List (Nat × Nat × Nat)) | arr (n e s:Nat) | map (k e:Nat)
def xt.ok (P:Program) (t:Nat):xt -> Prop
 | .int k=>P.underlying t=some (.int k)
 | .str=>P.underlying t=some .string
 | .bool=>P.underlying t=some .bool
 | .ptr e=>P.underlying t=some (.pointer e)
 | .slice e s=>P.underlying t=some (.slice e) /\ (P.info? e).map (·.size)=some s
 | .map k e=>P.underlying t=some (.map k e)
 | .arr n e s=>P.underlying t=some (.array n e) /\ (P.info? e).map (·.size)=some s /\ (P.info? t).map (·.size)=some (n*s)
 | .struct n fs=>(∃us,P.underlying t=some (.struct us)) /\ (P.info? t).map (·.size)=some n /\
   (match P.underlying t with|some (.struct us)=>(us.toList.map fun f=>(f.type,f.offset,((P.info? f.type).map (·.size)).getD 0)) == fs|_=>false)=true
def m_ (P:Program):List (Nat × xt) -> Prop
 | []=>True
 | (t,d) :: r=>d.ok P t /\ m_ P r
def tyOf:List (Nat × xt) -> Nat -> Option xt
 | [],_=>none
 | (t,d) :: r,k=>bif Nat.beq t k then some d else tyOf r k
theorem m_.of {P:Program}: ∀ {T:List (Nat × xt)}{t:Nat}{d:xt},m_ P T -> tyOf T t=some d -> d.ok P t
 | [],_,_,_,h=>by cases h
 | (j,u) :: r,t,d,h,hk=>by
  unfold tyOf at hk;cases hb:Nat.beq j t with
  | true=>
   rw[hb] at hk;obtain rfl:j=t:=bM hb;obtain rfl:u=d:=au hk;exact h.1
  | false=>rw[hb] at hk;exact m_.of h.2 hk
def cellsN:Option xt -> Option Nat
 | some (.struct m _)=>some m
 | some (.arr n _ s)=>some (n*s)
 | _=>none
theorem rK {P:Program}{T:List (Nat × xt)}(hT:m_ P T) {t m:Nat}(h:cellsN (tyOf T t)=some m) :
  ∃d,P.underlying t=some d /\ (match d with|.struct _|.array _ _=>true|_=>false)=true /\ (P.info? t).map (·.size)=some m:=by
 unfold cellsN at h
 split at h
 ·rename_i m' fs he
  obtain rfl:=au h;obtain⟨⟨us,hu⟩,j5,-⟩:=m_.of hT he;exact⟨_,hu,rfl,j5⟩
 ·rename_i n e s he
  obtain rfl:=au h;obtain⟨hu,-,j5⟩:=m_.of hT he;exact⟨_,hu,rfl,j5⟩
 ·cases h
def quoI (k:IntKind) (a b:Int):Option Value :=
 match b with
 | .ofNat (_+1)=>some (.int k (k.wrap (a.tdiv b)))
 | _=>none
def aiX (k:IntKind) (a b:Int):Option Value :=
 match b with
 | .ofNat (_+1)=>some (.int k (a.tmod b))
 | _=>none
def shlI (k:IntKind) (a:Int):Int -> Option Value
 | .ofNat m=>some (.int k (k.wrap (a*((2 ^ min m k.bits:Nat):Int))))
 | _=>none
def ahD (k:IntKind) (a:Int):Int -> Option Value
 | .ofNat m=>some (.int k (a / ((2 ^ min m k.bits:Nat):Int)))
 | _=>none
def binI (k:IntKind) (a b:Int):BinOp -> Option Value
 | .add=>some (.int k (k.wrap (a+b)))
 | .sub=>some (.int k (k.wrap (a - b)))
 | .mul=>some (.int k (k.wrap (a*b)))
 | .eql=>some (.bool (decide (a=b)))
 | .neq=>some (.bool (decide (a≠b)))
 | .lss=>some (.bool (decide (a<b)))
 | .leq=>some (.bool (decide (a <= b)))
 | .gtr=>some (.bool (decide (b<a)))
 | .geq=>some (.bool (decide (b <= a)))
 | .and=>some (.int k (bits .and k a b))
 | .or=>some (.int k (bits .or k a b))
 | .xor=>some (.int k (bits .xor k a b))
 | .quo=>quoI k a b
 | .rem=>aiX k a b
 | _=>none
def shI (k:IntKind) (a b:Int):BinOp -> Option Value
 | .shl=>shlI k a b
 | .shr=>ahD k a b
 | _=>none
def binS (a b:ByteArray):BinOp -> Option Value
 | .eql=>some (.bool (a.toList == b.toList))
 | .neq=>some (.bool (!(a.toList == b.toList)))
 | .lss=>some (.bool (Op.bytesLess a.toList b.toList))
 | .leq=>some (.bool (Op.bytesLess a.toList b.toList || a.toList == b.toList))
 | .gtr=>some (.bool !(Op.bytesLess a.toList b.toList || a.toList == b.toList))
 | .geq=>some (.bool !(Op.bytesLess a.toList b.toList))
 | _=>none
def ahP:BinOp -> Bool
 | .shl | .shr=>true
 | _=>false
def evlAll (l:Env):List Operand -> Option (List Value)
 | []=>some []
 | x :: r=>match jw l x,evlAll l r with
  | some v,some vs=>some (v :: vs)
  | _,_=>none
def pvPick (l:Env) (a b:Operand):Option Value -> Option Value
 | some (.bool true)=>jw l a
 | some (.bool false)=>jw l b
 | _=>none
def pvBool (a b:Bool):Option xt -> BinOp -> Option Value
 | some .bool,.eql=>some (.bool (a == b))
 | some .bool,.neq=>some (.bool (!(a == b)))
 | _,_=>none
def pvBin (op:BinOp) (ty:Option xt):Option Value -> Option Value -> Option Value
 | some (.int k a),some (.int k' b)=>bif ahP op then shI k a b op else if k=k' then binI k a b op else none
 | some (.string a),some (.string b)=>binS a b op
 | some (.bool a),some (.bool b)=>pvBool a b ty op
 | _,_=>none
def pvUn:UnOp -> Option Value -> Option Value
 | .neg,some (.int k a)=>some (.int k (k.wrap (0 - a)))
 | .not,some (.bool b)=>some (.bool (!b))
 | .xor,some (.int k a)=>some (.int k (bits .xor k (if k.signed then -1 else k.max) a))
 | _,_=>none
def pvConv:Option xt -> Option xt -> Option Value -> Option Value
 | some (.int _),some (.int k),some (.int _ a)=>some (.int k (k.wrap a))
 | some .str,some .str,some (.string s)=>some (.string s)
 | _,_,_=>none
def pvExt (i:Nat):Option Value -> Option Value
 | some (.tuple vs)=>vs[i]?
 | _=>none
def pvNil:Option Value -> Option Value
 | some (.pointer (some p))=>some (.pointer (some p))
 | _=>none
def pvOff (b o:Nat):Option (Nat × Nat × Nat) -> Option Value
 | some (_,off,_+1)=>some (.pointer (some ⟨b,o+off,none⟩))
 | _=>none
def pvField (i:Nat):Option xt -> Option Value -> Option Value
 | some (.struct _ fs),some (.pointer (some ⟨b,o,none⟩))=>pvOff b o fs[i]?
 | _,_=>none
def pvLen:Option xt -> Option Value -> Option Value
 | some (.slice _ _),some (.slice _ n _)=>some (Iq n)
 | some .str,some (.string s)=>some (Iq s.size)
 | _,_=>none
def pvMin (less:Bool):Option Value -> Option Value -> Option Value
 | some (.int k a),some (.int _ b)=>some (.int k (bif less then(if b<a then b else a) else(if b>a then b else a)))
 | _,_=>none
def pvCall (T:List (Nat × xt)) (l:Env) (c:Call):Option Value :=
 match c.callee,c.args.toList,c.argTypes.toList with
 | .builtin .len,[x],[t]=>pvLen (tyOf T t) (jw l x)
 | .builtin .min,[x,y],_=>pvMin true (jw l x) (jw l y)
 | .builtin .max,[x,y],_=>pvMin false (jw l x) (jw l y)
 | _,_,_=>none
def pv (T:List (Nat × xt)) (l:Env):Op -> Option Value
 | .move x=>jw l x
 | .assign x=>jw l x
 | .pick c a b=>pvPick l a b (jw l c)
 | .binOp op t x y _=>pvBin op (tyOf T t) (jw l x) (jw l y)
 | .unOp op _ x=>pvUn op (jw l x)
 | .convert s d x=>pvConv (tyOf T s) (tyOf T d) (jw l x)
 | .extract t i=>pvExt i (jw l t)
 | .nilCheck x=>pvNil (jw l x)
 | .fieldAddr t x i=>pvField i (tyOf T t) (jw l x)
 | .call c=>pvCall T l c
 | _=>none
theorem YR {P:Program}{k:IntKind}{a b:Int}{v:Value}(h:binI k a b op=some v) (t:TypeId) (w:World): (binOp op t (.int k a) (.int k b)).run P w=.ok v w:=by
 cases op
 case quo=>
  simp only[binI] at h;unfold quoI at h
  split at h
  ·rename_i m
   obtain rfl:=au h;simp only[binOp_quo,Op.intDiv];rw[if_neg (by show ¬((m+1:Nat):Int)=0;omega)]
   rfl
  ·cases h
 case rem=>
  simp only[binI] at h;unfold aiX at h
  split at h
  ·rename_i m
   obtain rfl:=au h;simp only[binOp_rem,Op.intDiv];rw[if_neg (by show ¬((m+1:Nat):Int)=0;omega)]
   rfl
  ·cases h
 case eql=>simp only[binI,cG] at h;subst h;rw[binOp_eql];exact congrArg (fun b=>Result.ok (Value.bool b) w) (by by_cases e:a=b<;>simp[e])
 case neq=>simp only[binI,cG] at h;subst h;rw[binOp_neq];exact congrArg (fun b=>Result.ok (Value.bool b) w) (by by_cases e:a=b<;>simp[e])
 all_goals simp only[binI,cG,reduceCtorEq] at h
 all_goals (subst h;simp[go_sem])
theorem aeS {P:Program}{k k':IntKind}{a b:Int}{v:Value}(h:shI k a b op=some v) (t:TypeId) (w:World): (binOp op t (.int k a) (.int k' b)).run P w=.ok v w:=by
 cases op
 case shl=>
  simp only[shI] at h;unfold shlI at h
  split at h
  ·rename_i m
   obtain rfl:=au h;have h0:(0:Int) <= Int.ofNat m:=fB m;simp only[binOp_shl,shift_shl_any _ _ _ _ h0];simp
  ·cases h
 case shr=>
  simp only[shI] at h;unfold ahD at h
  split at h
  ·rename_i m
   obtain rfl:=au h;have h0:(0:Int) <= Int.ofNat m:=fB m;simp only[binOp_shr,shift_shr_any _ _ _ _ h0];simp
  ·cases h
 all_goals cases h
theorem ZT {P:Program}{a b:ByteArray}{v:Value}(h:binS a b op=some v) (t:TypeId) (w:World): (binOp op t (.string a) (.string b)).run P w=.ok v w:=by
 cases op<;>simp only[binS,cG,reduceCtorEq] at h
 all_goals (subst h;simp[go_sem])
theorem UZ {P:Program}{t n o off s ft:Nat}{fs:List (Nat × Nat × Nat)}(h:(xt.struct n fs).ok P t) (hi:fs[i]? = some (ft,off,s+1)) (w:World):
  (Instr.fieldAt t (.pointer (some ⟨b,o,none⟩)) i).run P w=.ok (.pointer (some ⟨b,o+off,none⟩)) w:=by
 obtain⟨⟨us,hu⟩,-,hf⟩:=h;rw[hu] at hf;simp only[beq_iff_eq] at hf;rw[<- hf,cD] at hi;cases hx:us.toList[i]? with
 | none=>rw[hx] at hi;cases hi
 | some f=>
  rw[hx] at hi;simp only[dD,cG,Prod.mk.injEq] at hi;obtain⟨-,rfl,hs⟩:=hi;have VG:us[i]? = some f:=by simpa using hx
  have j5:(sizeOf f.type).run P w=.ok (s+1) w:=by
   cases hq:P.info? f.type with
   | none=>rw[hq] at hs;simp at hs
   | some q=>rw[hq] at hs;simp at hs;simp[sizeOf,typeInfo,hq,hs]
  simp[Instr.fieldAt,run_underlying hu,VG,Instr.sureAddr,fieldPlace,j5,dY]
theorem HV {P:Program}{T:List (Nat × xt)}(hT:m_ P T) {n:NN}{l:Env}(ha:Fr n a l) {v:Value}(h:pv T l o.op=some v) (w:World):
  (execOp a.eval o).run P w=.ok (.value v) w:=by
 unfold execOp
 revert h
 cases o.op with
 | move x=>intro h;simp[ha.eval h]
 | assign x=>intro h;simp[ha.eval h]
 | pick c x y=>
  intro h;simp only[pv] at h;generalize hc:jw l c=cv at h;unfold pvPick at h
  split at h
  ·simp[ha.eval hc,ha.eval h,asBool]
  ·simp[ha.eval hc,ha.eval h,asBool]
  ·cases h
 | binOp op t x y t2=>
  intro h;simp only[pv] at h;generalize hx:jw l x=xv at h;generalize hy:jw l y=yv at h;unfold pvBin at h
  split at h
  ·rename_i k p k' q
   cases hs:ahP op with
   | true=>
    rw[hs] at h;simp only[cond_true] at h;have:=aeS (P:=P) (k':=k') h t w;simp[ha.eval hx,ha.eval hy,eqGuard_at_int,this]
   | false=>
    rw[hs] at h;simp only[cond_false] at h
    split at h
    ·rename_i e;subst e
     have:=YR (P:=P) h t w;simp[ha.eval hx,ha.eval hy,eqGuard_at_int,this]
    ·cases h
  ·have:=ZT (P:=P) h t w
   simp[ha.eval hx,ha.eval hy,eqGuard_at_string,this]
  ·rename_i p q
   generalize ht:tyOf T t=tv at h;unfold pvBool at h
   split at h
   ·obtain rfl:=au h
    simp[ha.eval hx,ha.eval hy,eqGuard_at_bool,run_eql_bool w t p q (hT.of ht)]
   ·obtain rfl:=au h
    simp[ha.eval hx,ha.eval hy,eqGuard_at_bool,run_neq_bool w t p q (hT.of ht)]
   ·cases h
  ·cases h
 | unOp op t x=>
  intro h;simp only[pv] at h;generalize hx:jw l x=xv at h;unfold pvUn at h
  split at h<;>first|(cases h;done)|(obtain rfl:=au h;have e:=ha.eval hx;simp only[e];simp[go_sem])
 | convert s d x=>
  intro h;simp only[pv] at h;generalize h1:tyOf T s=sv at h;generalize h2:tyOf T d=dv at h;generalize h3:jw l x=xv at h;unfold pvConv at h
  split at h
  ·rename_i k1 k2 k3 m
   obtain rfl:=au h;have e1:P.underlying s=some (.int k1):=hT.of h1;have e2:P.underlying d=some (.int k2):=hT.of h2;simp[ha.eval h3,convert,run_underlying e1,run_underlying e2,Conv.intToInt]
  ·obtain rfl:=au h
   have e1:P.underlying s=some .string:=hT.of h1;have e2:P.underlying d=some .string:=hT.of h2;simp[ha.eval h3,convert,run_underlying e1,run_underlying e2]
  ·cases h
 | extract t i=>
  intro h;simp only[pv] at h;generalize hx:jw l t=xv at h;unfold pvExt at h
  split at h
  ·simp[ha.eval hx,Instr.extract,h]
  ·cases h
 | nilCheck x=>
  intro h;simp only[pv] at h;generalize hx:jw l x=xv at h;unfold pvNil at h
  split at h
  ·obtain rfl:=au h
   simp[ha.eval hx]
  ·cases h
 | fieldAddr t x i=>
  intro h;simp only[pv] at h;generalize ht:tyOf T t=tv at h;generalize hx:jw l x=xv at h;unfold pvField at h
  split at h
  ·rename_i m fs b off0
   generalize hi:fs[i]? = fv at h;unfold pvOff at h
   split at h
   ·obtain rfl:=au h
    have:=UZ (b:=b) (o:=off0) (hT.of ht) hi w;simp[ha.eval hx,this]
   ·cases h
  ·cases h
 | call c=>
  intro h;simp only[pv] at h;obtain⟨callee,⟨args⟩,⟨argTypes⟩⟩:=c;unfold pvCall at h;simp only at h
  split at h
  ·rename_i x t
   generalize ht:tyOf T t=tv at h;generalize hx:jw l x=xv at h;unfold pvLen at h
   split at h
   ·rename_i e s b m c
    obtain rfl:=au h;have e1:=(hT.of ht).1;simp[resolve,invoke,builtin,ha.eval hx,Builtin.len_,run_underlying e1,goInt]
   ·obtain rfl:=au h
    have e1:P.underlying t=some .string:=hT.of ht;simp[resolve,invoke,builtin,ha.eval hx,Builtin.len_,run_underlying e1,goInt]
   ·cases h
  ·rename_i x y
   generalize hx:jw l x=xv at h;generalize hy:jw l y=yv at h;unfold pvMin at h
   split at h
   ·obtain rfl:=au h
    simp[resolve,invoke,builtin,ha.eval hx,ha.eval hy,run_min_int2]
   ·cases h
  ·rename_i x y
   generalize hx:jw l x=xv at h;generalize hy:jw l y=yv at h;unfold pvMin at h
   split at h
   ·obtain rfl:=au h
    simp[resolve,invoke,builtin,ha.eval hx,ha.eval hy,run_max_int2]
   ·cases h
  ·cases h
 | _=>intro h;cases h
def ty:List (Nat × xt):=[(2,.int .i64),(3,.int .i64),(4,.bool),(5,.int .u8),(6,.int .u8),(7,.struct 4 [(2,0,1),(3,1,1),(4,2,1),(6,3,1)]),(8,.struct 4 [(2,0,1),(3,1,1),(4,2,1),(6,3,1)]),(9,.str),(10,.str),(11,.str),(12,.int .u64),(13,.struct 2 [(9,0,1),(12,1,1)]),(14,.struct 2 [(9,0,1),(12,1,1)]),(15,.ptr 265),(16,.ptr 268),(17,.ptr 276),(18,.struct 1 [(17,0,1)]),(19,.struct 1 [(17,0,1)]),(21,.int .i32),(22,.slice 9 1),(23,.slice 25 6),(24,.struct 6 [(3,0,1),(3,1,1),(3,2,1),(9,3,1),(22,4,1),(23,5,1)]),(25,.struct 6 [(3,0,1),(3,1,1),(3,2,1),(9,3,1),(22,4,1),(23,5,1)]),(27,.ptr 3),(28,.ptr 83),(30,.arr 32 5 1),(31,.arr 32 5 1),(32,.slice 76 46),(33,.struct 36 [(3,0,1),(3,1,1),(3,2,1),(31,3,32),(32,35,1)]),(34,.struct 36 [(3,0,1),(3,1,1),(3,2,1),(31,3,32),(32,35,1)]),(35,.slice 3 1),(43,.slice 49 1),(45,.ptr 61),(49,.slice 114 57),(50,.slice 121 4),(51,.struct 1 [(50,0,1)]),(52,.struct 1 [(50,0,1)]),(53,.ptr 52),(54,.slice 168 14),(55,.map 74 3),(56,.struct 4 [(53,0,1),(54,1,1),(3,2,1),(55,3,1)]),(57,.struct 4 [(53,0,1),(54,1,1),(3,2,1),(55,3,1)]),(58,.ptr 132),(59,.ptr 57),(60,.struct 3 [(58,0,1),(28,1,1),(59,2,1)]),(61,.struct 3 [(58,0,1),(28,1,1),(59,2,1)]),(70,.int .i64),(72,.map 78 4),(73,.struct 2 [(3,0,1),(3,1,1)]),(74,.struct 2 [(3,0,1),(3,1,1)]),(75,.struct 46 [(3,0,1),(9,1,1),(3,2,1),(3,3,1),(3,4,1),(25,5,6),(31,11,32),(4,43,1),(74,44,2)]),(76,.struct 46 [(3,0,1),(9,1,1),(3,2,1),(3,3,1),(3,4,1),(25,5,6),(31,11,32),(4,43,1),(74,44,2)]),(77,.struct 2 [(3,0,1),(3,1,1)]),(78,.struct 2 [(3,0,1),(3,1,1)]),(81,.map 85 86),(82,.struct 1 [(81,0,1)]),(83,.struct 1 [(81,0,1)]),(84,.struct 2 [(3,0,1),(9,1,1)]),(85,.struct 2 [(3,0,1),(9,1,1)]),(86,.ptr 165),(87,.ptr 144),(89,.struct 14 [(3,0,1),(3,1,1),(3,2,1),(25,3,6),(4,9,1),(4,10,1),(3,11,1),(3,12,1),(3,13,1)]),(90,.struct 14 [(3,0,1),(3,1,1),(3,2,1),(25,3,6),(4,9,1),(4,10,1),(3,11,1),(3,12,1),(3,13,1)]),(94,.slice 98 4),(96,.slice 100 1),(97,.struct 4 [(3,0,1),(9,1,1),(4,2,1),(96,3,1)]),(98,.struct 4 [(3,0,1),(9,1,1),(4,2,1),(96,3,1)]),(99,.struct 1 [(9,0,1)]),(100,.struct 1 [(9,0,1)]),(102,.slice 90 14),(113,.struct 57 [(3,0,1),(3,1,1),(3,2,1),(3,3,1),(25,4,6),(9,10,1),(76,11,46)]),(114,.struct 57 [(3,0,1),(3,1,1),(3,2,1),(3,3,1),(25,4,6),(9,10,1),(76,11,46)]),(118,.ptr 121),(120,.struct 4 [(3,0,1),(9,1,1),(4,2,1),(22,3,1)]),(121,.struct 4 [(3,0,1),(9,1,1),(4,2,1),(22,3,1)]),(125,.slice 173 7),(127,.map 135 102),(128,.map 3 3),(129,.map 74 135),(130,.map 74 4),(131,.struct 6 [(87,0,1),(127,1,1),(128,2,1),(129,3,1),(130,4,1),(3,5,1)]),(132,.struct 6 [(87,0,1),(127,1,1),(128,2,1),(129,3,1),(130,4,1),(3,5,1)]),(134,.struct 2 [(3,0,1),(3,1,1)]),(135,.struct 2 [(3,0,1),(3,1,1)]),(141,.int .u64),(142,.map 146 4),(143,.struct 3 [(94,0,1),(141,1,1),(142,2,1)]),(144,.struct 3 [(94,0,1),(141,1,1),(142,2,1)]),(145,.struct 2 [(3,0,1),(9,1,1)]),(146,.struct 2 [(3,0,1),(9,1,1)]),(158,.slice 5 1),(163,.ptr 192),(164,.struct 3 [(163,0,1),(3,1,1),(3,2,1)]),(165,.struct 3 [(163,0,1),(3,1,1),(3,2,1)]),(168,.struct 14 [(3,0,1),(3,1,1),(3,2,1),(25,3,6),(4,9,1),(4,10,1),(3,11,1),(3,12,1),(3,13,1)]),(172,.struct 7 [(3,0,1),(25,1,6)]),(173,.struct 7 [(3,0,1),(25,1,6)]),(186,.int .u64),(188,.arr 8 9 1),(189,.arr 8 3 1),(190,.arr 8 163 1),(191,.struct 28 [(4,0,1),(3,1,1),(188,2,8),(189,10,8),(190,18,8),(163,26,1),(163,27,1)]),(192,.struct 28 [(4,0,1),(3,1,1),(188,2,8),(189,10,8),(190,18,8),(163,26,1),(163,27,1)]),(204,.slice 207 2),(206,.struct 2 [(9,0,1),(3,1,1)]),(207,.struct 2 [(9,0,1),(3,1,1)]),(214,.ptr 168),(228,.ptr 98),(229,.slice 163 1),(233,.int .i8),(235,.int .u32),(246,.arr 4 3 1),(251,.arr 8 235 1),(252,.arr 64 235 1),(255,.ptr 252),(257,.arr 8 235 1),(259,.arr 128 5 1),(261,.ptr 257),(264,.struct 4 [(17,0,1),(17,1,1),(17,2,1),(9,3,1)]),(265,.struct 4 [(17,0,1),(17,1,1),(17,2,1),(9,3,1)]),(267,.struct 0 [(266,0,0)]),(268,.struct 0 [(266,0,0)]),(269,.int .u8),(270,.int .u8),(272,.ptr 5),(273,.int .i32),(274,.int .i32),(275,.struct 11 [(12,0,1),(12,1,1),(235,2,1),(269,3,1),(5,4,1),(5,5,1),(270,6,1),(271,7,1),(272,8,1),(273,9,1),(274,10,1)]),(276,.struct 11 [(12,0,1),(12,1,1),(235,2,1),(269,3,1),(5,4,1),(5,5,1),(270,6,1),(271,7,1),(272,8,1),(273,9,1),(274,10,1)])]
theorem mV: m_ prog ty:=⟨underlying2,underlying3,underlying4,underlying5,underlying6,⟨⟨_,underlying7⟩,by kernel_rfl,by kernel_rfl⟩,⟨⟨_,underlying8⟩,by kernel_rfl,by kernel_rfl⟩,underlying9,underlying10,underlying11,underlying12,⟨⟨_,underlying13⟩,by kernel_rfl,by kernel_rfl⟩,⟨⟨_,underlying14⟩,by kernel_rfl,by kernel_rfl⟩,underlying15,underlying16,underlying17,⟨⟨_,underlying18⟩,by kernel_rfl,by kernel_rfl⟩,⟨⟨_,underlying19⟩,by kernel_rfl,by kernel_rfl⟩,underlying21,⟨underlying22,by kernel_rfl⟩,⟨underlying23,by kernel_rfl⟩,⟨⟨_,underlying24⟩,by kernel_rfl,by kernel_rfl⟩,⟨⟨_,underlying25⟩,by kernel_rfl,by kernel_rfl⟩,underlying27,underlying28,⟨underlying30,by kernel_rfl,by kernel_rfl⟩,⟨underlying31,by kernel_rfl,by kernel_rfl⟩,⟨underlying32,by kernel_rfl⟩,⟨⟨_,underlying33⟩,by kernel_rfl,by kernel_rfl⟩,⟨⟨_,underlying34⟩,by kernel_rfl,by kernel_rfl⟩,⟨underlying35,by kernel_rfl⟩,⟨underlying43,by kernel_rfl⟩,underlying45,⟨underlying49,by kernel_rfl⟩,⟨underlying50,by kernel_rfl⟩,⟨⟨_,underlying51⟩,by kernel_rfl,by kernel_rfl⟩,⟨⟨_,underlying52⟩,by kernel_rfl,by kernel_rfl⟩,underlying53,⟨underlying54,by kernel_rfl⟩,underlying55,⟨⟨_,underlying56⟩,by kernel_rfl,by kernel_rfl⟩,⟨⟨_,underlying57⟩,by kernel_rfl,by kernel_rfl⟩,underlying58,underlying59,⟨⟨_,underlying60⟩,by kernel_rfl,by kernel_rfl⟩,⟨⟨_,underlying61⟩,by kernel_rfl,by kernel_rfl⟩,underlying70,underlying72,⟨⟨_,underlying73⟩,by kernel_rfl,by kernel_rfl⟩,⟨⟨_,underlying74⟩,by kernel_rfl,by kernel_rfl⟩,⟨⟨_,underlying75⟩,by kernel_rfl,by kernel_rfl⟩,⟨⟨_,underlying76⟩,by kernel_rfl,by kernel_rfl⟩,⟨⟨_,underlying77⟩,by kernel_rfl,by kernel_rfl⟩,⟨⟨_,underlying78⟩,by kernel_rfl,by kernel_rfl⟩,underlying81,⟨⟨_,underlying82⟩,by kernel_rfl,by kernel_rfl⟩,⟨⟨_,underlying83⟩,by kernel_rfl,by kernel_rfl⟩,⟨⟨_,underlying84⟩,by kernel_rfl,by kernel_rfl⟩,⟨⟨_,underlying85⟩,by kernel_rfl,by kernel_rfl⟩,underlying86,underlying87,⟨⟨_,underlying89⟩,by kernel_rfl,by kernel_rfl⟩,⟨⟨_,underlying90⟩,by kernel_rfl,by kernel_rfl⟩,⟨underlying94,by kernel_rfl⟩,⟨underlying96,by kernel_rfl⟩,⟨⟨_,underlying97⟩,by kernel_rfl,by kernel_rfl⟩,⟨⟨_,underlying98⟩,by kernel_rfl,by kernel_rfl⟩,⟨⟨_,underlying99⟩,by kernel_rfl,by kernel_rfl⟩,⟨⟨_,underlying100⟩,by kernel_rfl,by kernel_rfl⟩,⟨underlying102,by kernel_rfl⟩,⟨⟨_,underlying113⟩,by kernel_rfl,by kernel_rfl⟩,⟨⟨_,underlying114⟩,by kernel_rfl,by kernel_rfl⟩,underlying118,⟨⟨_,underlying120⟩,by kernel_rfl,by kernel_rfl⟩,⟨⟨_,underlying121⟩,by kernel_rfl,by kernel_rfl⟩,⟨underlying125,by kernel_rfl⟩,underlying127,underlying128,underlying129,underlying130,⟨⟨_,underlying131⟩,by kernel_rfl,by kernel_rfl⟩,⟨⟨_,underlying132⟩,by kernel_rfl,by kernel_rfl⟩,⟨⟨_,underlying134⟩,by kernel_rfl,by kernel_rfl⟩,⟨⟨_,underlying135⟩,by kernel_rfl,by kernel_rfl⟩,underlying141,underlying142,⟨⟨_,underlying143⟩,by kernel_rfl,by kernel_rfl⟩,⟨⟨_,underlying144⟩,by kernel_rfl,by kernel_rfl⟩,⟨⟨_,underlying145⟩,by kernel_rfl,by kernel_rfl⟩,⟨⟨_,underlying146⟩,by kernel_rfl,by kernel_rfl⟩,⟨underlying158,by kernel_rfl⟩,underlying163,⟨⟨_,underlying164⟩,by kernel_rfl,by kernel_rfl⟩,⟨⟨_,underlying165⟩,by kernel_rfl,by kernel_rfl⟩,⟨⟨_,underlying168⟩,by kernel_rfl,by kernel_rfl⟩,⟨⟨_,underlying172⟩,by kernel_rfl,by kernel_rfl⟩,⟨⟨_,underlying173⟩,by kernel_rfl,by kernel_rfl⟩,underlying186,⟨underlying188,by kernel_rfl,by kernel_rfl⟩,⟨underlying189,by kernel_rfl,by kernel_rfl⟩,⟨underlying190,by kernel_rfl,by kernel_rfl⟩,⟨⟨_,underlying191⟩,by kernel_rfl,by kernel_rfl⟩,⟨⟨_,underlying192⟩,by kernel_rfl,by kernel_rfl⟩,⟨underlying204,by kernel_rfl⟩,⟨⟨_,underlying206⟩,by kernel_rfl,by kernel_rfl⟩,⟨⟨_,underlying207⟩,by kernel_rfl,by kernel_rfl⟩,underlying214,underlying228,⟨underlying229,by kernel_rfl⟩,underlying233,underlying235,⟨underlying246,by kernel_rfl,by kernel_rfl⟩,⟨underlying251,by kernel_rfl,by kernel_rfl⟩,⟨underlying252,by kernel_rfl,by kernel_rfl⟩,underlying255,⟨underlying257,by kernel_rfl,by kernel_rfl⟩,⟨underlying259,by kernel_rfl,by kernel_rfl⟩,underlying261,⟨⟨_,underlying264⟩,by kernel_rfl,by kernel_rfl⟩,⟨⟨_,underlying265⟩,by kernel_rfl,by kernel_rfl⟩,⟨⟨_,underlying267⟩,by kernel_rfl,by kernel_rfl⟩,⟨⟨_,underlying268⟩,by kernel_rfl,by kernel_rfl⟩,underlying269,underlying270,underlying272,underlying273,underlying274,⟨⟨_,underlying275⟩,by kernel_rfl,by kernel_rfl⟩,⟨⟨_,underlying276⟩,by kernel_rfl,by kernel_rfl⟩,trivial⟩
def Bu (w:World) (v:Value) (l:List Int):Prop:=oa .u8 5 w 0 v l
def jv (w:World) (v:Value) (w':World) (v':Value):Prop :=
 ib (fun b=>b<w.heap.size /\ v.ownBlock≠some b) w w' /\ ∀g,v'.ownBlock=some g -> v.ownBlock=some g \/ w.heap.size <= g
theorem jv.refl (w:World) (v:Value): jv w v w v:=⟨ib.refl _ _,fun _ h=>.inl h⟩
theorem jv.trans {v v2:Value}(h:jv w v w1 v1) (k:jv w1 v1 w2 v2): jv w v w2 v2 :=
  ⟨h.1.trans (k.1.mono fun b hb=>⟨ak hb.1 h.1.size, fun e=>(h.2 b e).elim hb.2 (fun h2=>absurd hb.1 gZ)⟩),
   fun g hg=>(k.2 g hg).elim (h.2 g) (fun h2=>.inr (aU h.1.size h2))⟩
theorem jv.below {v:Value}(h:jv w v w1 v1) (k:iB w1 w2): jv w v w2 v1 :=
 ⟨h.1.trans ((ib.ic k).mono fun _ hb=>ak hb.1 h.1.size),h.2⟩
theorem jv.old {v:Value}(h:jv w v w' v') (hB:B <= w.heap.size) (hv:∀g,v.ownBlock=some g -> B <= g): Below B w w' :=
 (h.1.mono fun b (hb:b<B)=>⟨ak hb hB,fun e=>absurd (hv b e) gZ⟩).below
theorem jv.own {v:Value}(h:jv w v w' v') (hB:B <= w.heap.size) (hv:∀g,v.ownBlock=some g -> B <= g): ∀g,v'.ownBlock=some g -> B <= g :=
 fun g hg=>(h.2 g hg).elim (hv g) (fun h2=>aU hB h2)
theorem Bu.nil (w:World): Bu w (.slice none 0 0) []:=oa.nil _ _ _ _
theorem Bu.lt {v:Value}{l:List Int}(h:Bu w v l): ∀g,v.ownBlock=some g -> g<w.heap.size:=fun g hg=>(oa.own h g hg).2
theorem Bu.ij {K:Nat -> Prop}{v:Value}{l:List Int}(h:Bu w v l) (hk:ib K w w') (hK:∀g,v.ownBlock=some g -> K g): Bu w' v l :=
 oa.ij h hk fun g _ _ hg=>hK g hg
theorem Bu.below {v:Value}{l:List Int}(h:Bu w v l) (hk:iB w w'): Bu w' v l:=oa.below h hk (af _)
theorem Bu.sl {v:Value}{l:List Int}(h:Bu w v l): Sl .u8 w v l:=oa.sl h
theorem Bu.new (w:World) (l:List Int) (hm:l.length <= maxLen): Bu (w.alloc (.cells (l.map (Value.int .u8)).toArray 5)) (.slice (some ⟨w.heap.size,0,none⟩) l.length l.length) l:=by
 have:=oa.mk (k:=.u8) (e:=5) (w:=w) (base:=0) l [] (aw _) (by simpa using hm)
 simpa[Bu] using this
theorem Sl.DC {v:Value}{l:List Int}(h:Sl .u8 w v l): n_ w (fun _=>True) 1 v l.length (l.map (Value.int .u8)):=by
 obtain⟨sp,cap,rfl,h1,h2,h3,h4⟩:=h;refine⟨iz,kj.int _ _,sp,cap,rfl,h1,h2,h4,fun h0=>?_⟩;obtain⟨b,o,e,hb,hr⟩:=h3 h0;refine⟨b,o,e,hb,trivial,fun j hj=>?_⟩;rw[av] at hj;rw[hr j hj];simp[nth,hj]
theorem agk: lK prog 158 5 1 1:=lK.mk' (z:=.int .u8 0) underlying158 (by kernel_rfl) rfl gZ
theorem Ew (w:World) (e:TypeId) (s:ByteArray): iB w (Lib.bytesWorld w e s) :=
 ⟨rfl,rfl,rfl,by rw[Lib.bytesWorld_size];omega,fun k hk=>Lib.bytesWorld_at_old w e s k hk⟩
theorem Bu.form {v:Value}{l:List Int}(h:Bu w v l): ∃sp c,v=.slice sp l.length c /\ l.length <= c /\ c <= 9223372036854775807:=by
 obtain⟨sp,c,h1,h2,h3,-⟩:=Bu.sl h;exact⟨sp,c,h1,h2,h3⟩
theorem Bu.at {w:World}{v:Value}{l:List Int}(h:Bu w v l) {j:Nat}(hj:j<l.length):∃g c,v=.slice (some ⟨g,0,none⟩) l.length c /\ v.ownBlock=some g /\ w.cell? ⟨g,j,none⟩=some (.int .u8 (nth l j)) /\ w.frozen? ⟨g,j,none⟩=false /\
  ∀x,Bu (w.setCell ⟨g,j,none⟩ (.int .u8 x)) v (l.set j x) /\ jv w v (w.setCell ⟨g,j,none⟩ (.int .u8 x)) v:=by
 have ho:iK 5 1 w (fun g=>v.ownBlock=some g) v l.length (l.map (Value.int .u8)):=⟨h,kj.int _ _,fun g hg=>hg⟩;rcases oa.block h with⟨-,rfl⟩|⟨g,c,rest,rfl,-⟩
 ·simp at hj
 ·have j6:=ho.at j (by simpa using hj)
  have amM:(l.map (Value.int .u8)).getD j undef=.int .u8 (nth l j):=by simp[nth,hj]
  rw[amM] at j6;refine⟨g,c,rfl,rfl,j6,ho.free j,fun x=>⟨?_,?_,fun g2 lN=>.inl lN⟩⟩
  ·have:=(ho.stored j (u:=.int .u8 x) rfl).1
   rw[<- List.map_set] at this
   show World.ownsRow _ _ _ _ _ _ _
   rw[aC];exact this
  ·exact(ib.refl _ w).setCell (fun hk=>hk.2 rfl) _
structure jl (w:World) (g:Nat) (w':World) (T:TypeId) (cs:List Value):Prop where
 eq:g=w.heap.size
 blk:h_ T w' g cs
 below:iB w w'
 size:w'.heap.size=w.heap.size+1
theorem jl.mk' (w:World) (T:TypeId) (cs:List Value): jl w w.heap.size (w.alloc (.cells cs.toArray T)) T cs :=
 ⟨rfl,h_.mk w cs T,(Below.refl _ w).alloc (af _) _,by show(w.heap.push _).size=_;simp⟩
theorem h_.rangeAt {cs:List Value}(h:h_ T w b cs): w.rangeAt b 0 cs:=by
 intro j v hj;have iS:j<cs.length:=by
  rcases aO j cs.length with h|h
  ·exact h
  ·rw[aG h] at hj;cases hj
 have:=h.cell j iS;rw[a_];rw[this];simp[ag,hj]
end K
end Go.Proofs.YtlenklobbngopaaGreat
