import Derived.Test.YtlenklobbngopaaGreatRows
import Derived.WalkSpells
import Derived.WalkLawsBesides
import Derived.BigQuiet
import Derived.Lib.Hide
import Derived.Laws.CopyOwn
import Derived.Laws.AppendOwnNone
import Derived.Deep.Onto
import Derived.ProofKit
import Derived.OpenShut
import Derived.ShutString
import Derived.Deep.Slices
import Derived.Lib.Bytes
import Derived.Deep.AppendLies
import Derived.Deep.RegionLawGrows
import Derived.Deep.RegionHeld3
import Derived.Deep.CutBlock
import Derived.Deep.DeepCutAuto
import Derived.RangeFuncNested
import Derived.Sort.LoopGhostIn
import Derived.Lib.ConvBytes
import Derived.Great.BuildSlice
import Derived.DeepKeys5
import Derived.StillTailTactics
import Derived.Shelf.SlMaps.Clone
import Derived.OrdersIn
import Derived.Lib.Mul64
set_option maxHeartbeats 64000000
set_option maxRecDepth 100000
set_option linter.all false
namespace Go.Proofs.YtlenklobbngopaaGreat
open _root_.Go.Proofs.Tryz
def aa:=@if_neg
def af:=@List.length_append
def ag:=@if_pos
def ah:=@List.getD_eq_getElem?_getD
def ai:=@List.getElem?_eq_getElem
def aj:=@Nat.le_refl
def ak:=@List.length_cons
def al:=@List.getD_cons_zero
def an:=@List.flatMap_append
def ao:=@Nat.lt_of_lt_of_le
def aq:=@List.flatMap_cons
def ar:=@decide_eq_false
def au:=@List.mem_append
def av:=@List.append_assoc
def aw:=@decide_eq_true
def ax:=@List.mem_cons
def ay:=@Nat.zero_le
def az:=@Option.some.inj
def aA:=@List.getD_cons_succ
def aB:=@List.length_map
def aC:=@List.length_take
def aD:=@List.mem_cons_of_mem
def aE:=@List.getElem?_append_right
def aF:=@Bool.and_eq_true
def aG:=@List.mem_flatMap
def aH:=@List.getElem_mem
def aI:=@List.length_set
def aJ:=@Go.ByteArray.toList_eq
def aK:=@List.take_add_one
def aL:=@List.length_nil
def aM:=@List.getElem?_eq_none
def aN:=@List.take_length
def aO:=@List.take_append_drop
def aP:=@List.append_nil
def aQ:=@List.length_drop
def aR:=@of_decide_eq_true
def aS:=@Go.IntKind.wrap_u64
def aT:=@List.nil_append
def aU:=@Nat.le_trans
def aV:=@List.map_append
def aW:=@Nat.lt_or_ge
def aX:=@decide_eq_true_eq
def aY:=@List.map_cons
def aZ:=@List.getElem?_append_left
def a_:=@List.not_mem_nil
def bg:=@List.take_of_length_le
def bm:=@List.mem_append_left
def bn:=@List.mem_singleton
def bp:=@List.mem_append_right
def bA:=@Nat.zero_add
def bB:=@List.nodup_cons
def bC:=@List.cons_append
def bD:=@List.mem_map
def bF:=@List.eq_nil_of_length_eq_zero
def bG:=@Go.Result.andThen_ok
def bH:=@List.getElem_of_mem
def bI:=@List.drop_eq_getElem_cons
def bJ:=@Go.Proofs.Tryz.underlying3
def bK:=@Go.Sem.run_bind
def bL:=@Go.IntKind.wrap_u8
def bM:=@Go.World.cell?_of_block
def bN:=@Go.IntWalk.i64_in
def bO:=@UInt8.lt_iff_toNat_lt
def bP:=@List.mem_of_mem_take
def bQ:=@Nat.le_succ
def bR:=@Go.run_underlying
def bS:=@List.nodup_append
def bT:=@List.pairwise_cons
def bU:=@Array.length_toList
def bV:=@Go.wpList_store_row
def bW:=@Nat.eq_of_beq_eq_true
def bX:=@List.mem_range
def bY:=@List.all_eq_true
def bZ:=@List.take_append_of_le_length
def b_:=@beq_eq_false_iff_ne
def cg:=@List.mem_filter
def cj:=@List.take_zero
def cm:=@List.filter_append
def cn:=@Nat.lt_succ_iff_lt_or_eq
def cq:=@Array.getD_eq_getD_getElem?
def cz:=@Go.heap_alloc_new
def cA:=@List.getElem?_cons_succ
def cB:=@List.length_eq_zero_iff
def cC:=@Go.World.block_lt_of_cell?
def cD:=@List.drop_eq_nil_of_le
def cE:=@List.take_succ_cons
def cF:=@Go.Proofs.Tryz.underlying9
def cG:=@Bool.not_eq_true'
def cH:=@List.size_toArray
def cI:=@Go.setRow_heap
def cJ:=@Nat.mul_one
def cK:=@Nat.mul_le_mul_right
def cL:=@List.mem_cons_self
def cM:=@List.filter_cons
def cN:=@decide_eq_decide
def cO:=@List.map_toArray
def cP:=@List.getElem?_eq_some_iff
def cQ:=@List.perm_iff_count
def cS:=@List.getElem?_take_of_lt
def cT:=@List.mem_iff_getElem
def cU:=@List.findIdx?_eq_some_iff_getElem
def cV:=@Option.some.injEq
def cW:=@List.count_append
def cX:=@List.getElem?_map
def cY:=@Option.map_eq_some_iff
def cZ:=@List.filter_eq_nil_iff
def c_:=@Go.bodyPost_ret
def da:=@List.Perm.nodup_iff
def de:=@List.drop_succ_cons
def df:=@UInt8.toNat.inj
def dg:=@Nat.not_lt_zero
def dh:=@List.mem_or_eq_of_mem_set
def dj:=@List.set_append_right
def dm:=@Option.toList_some
def dp:=@List.map_take
def dt:=@Go.Proofs.Tryz.underlying158
def du:=@Nat.pow_le_pow_right
def dw:=@List.count_cons
def dx:=@Nat.pow_succ
def dy:=@List.map_nil
def dz:=@Go.lt_of_block
def dC:=@List.map_drop
def dD:=@List.flatMap_nil
def dE:=@Go.results_cell_row
def dG:=@Go.IntKind.wrap_i64
def dH:=@Bool.false_ne_true
def dI:=@of_decide_eq_false
def dJ:=@List.getElem?_drop
def dK:=@Go.Proofs.run_eql_map_nil_sl
def dL:=@List.find?_eq_none
def dM:=@Option.toList_none
def dN:=@List.length_filter_le
def dO:=@Go.Proofs.run_typeAssert_map_sl
def dP:=@List.set_eq_take_append_cons_drop
def dQ:=@List.mem_of_find?_eq_some
def dT:=@Ne.symm
def dU:=@Go.World.ownsRow.cellAt
def dV:=@List.mem_of_mem_drop
def dW:=@List.mem_of_getElem?
def dX:=@Go.Proofs.Tryz.underlying31
def dY:=@List.flatten_cons
def dZ:=@Int.toNat_natCast
def d_:=@Go.Proofs.Tryz.underlying142
def ef:=@List.length_filterMap_le
def eh:=@Go.run_callFunc_extern
def ep:=@funext
def ew:=@List.ext_getElem
def ey:=@List.drop_length
def eA:=@List.drop_append
def eB:=@Nat.add_sub_cancel_left
def eC:=@List.drop_append_of_le_length
def eD:=@UInt8.not_lt
def eE:=@List.append_eq_nil_iff
def eG:=@Go.Proofs.Tryz.underlying22
def eH:=@Go.Proofs.Tryz.underlying98
def eI:=@List.set_cons_zero
def eJ:=@or_false
def eL:=@List.range_succ
def eM:=@Option.map_some
def eO:=@Prod.ext
def eP:=@Go.trodAll_cons_mk
def eQ:=@List.length_singleton
def eS:=@List.Perm.append_left
def eU:=@Nat.lt_trichotomy
def eV:=@Int.lt_trichotomy
def eW:=@Go.Proofs.run_maps_clone_sl
def eX:=@Option.ne_none_iff_exists'
def eY:=@if_false
def eZ:=@List.pairwise_append
def e_:=@Array.getElem?_append_left
def fb:=@Go.Region.noSelect_spec
def ff:=@List.drop_zero
def fg:=@List.drop_drop
def fh:=@Int.tdiv_eq_ediv_of_nonneg
def fi:=@Array.getElem?_eq_some_iff
def fj:=@Go.Proofs.Tryz.underlying23
def fm:=@Array.toList_map
def fo:=@Option.getD_some
def fp:=@Decidable.byContradiction
def fq:=@List.length_reverse
def fu:=@List.filter_eq_self
def fw:=@Go.Proofs.Tryz.underlying127
def fx:=@Array.setIfInBounds_comm
def fy:=@List.Pairwise.imp_of_mem
def fz:=@Bool.or_eq_true
def fA:=@Go.run_loadVar_mid
def fB:=@Go.Lib.hid
def fC:=@Go.Proofs.Tryz.func106
def fD:=@Go.cell_of_row
def fE:=@decide_eq_false_iff_not
def fF:=@List.getElem?_cons_zero
def fG:=@Option.bind_eq_some_iff
def fH:=@Go.World.putObj_heap_other
def fI:=@if_true
def fJ:=@Go.Sem.run_pure
def fK:=@Go.wpList_plain
def fL:=@Go.wpListIn_plain
def fM:=@Nat.ne_of_beq_eq_false
def fN:=@Go.Proofs.Tryz.underlying81
def fO:=@Nat.add_zero
def fP:=@List.find?_append
def fQ:=@Go.Deep.choose_lt
def fR:=@List.ext_getElem?
def fS:=@Go.returnsInHanded_of_change_sized
def fT:=@List.cons_prefix_cons
def fU:=@Nat.le_of_ble_eq_true
def fV:=@List.filterMap_append
def fW:=@List.mem_reverse
def fX:=@Go.Region.free_spec
def fY:=@List.take_append
def fZ:=@beq_self_eq_true
def f_:=@Nat.and_two_pow_sub_one_eq_mod
def gg:=@Go.Proofs.Tryz.func79
def gh:=@Go.Proofs.Tryz.underlying128
def gj:=@Go.Proofs.Tryz.underlying129
def gk:=@Go.Proofs.Tryz.underlying130
def gm:=@Nat.add_assoc
def gp:=@Go.deep_law_laid
def gq:=@Go.Proofs.Tryz.func137
def gu:=@Go.wp_region_still_tail
def gv:=@List.getElem?_set_ne
def gw:=@List.mem_of_getLast?
def gy:=@Bool.eq_iff_iff
def gz:=@Go.wpList_load_row
def gA:=@List.find?_cons
def gB:=@List.mem_map_of_mem
def gC:=@List.filterMap_cons
def gD:=@List.map_map
def gE:=@Nat.sub_self
def gF:=@Go.Proofs.Tryz.underlying25
def gG:=@Go.Proofs.Tryz.underlying55
def gH:=@Go.Proofs.Tryz.underlying76
def gI:=@Go.Proofs.Tryz.underlying85
def gJ:=@Nat.succ_mul
def gK:=@Go.Maps.Keyed.of_law
def gL:=@Nat.pos_of_ne_zero
def gM:=@beq_iff_eq
def gN:=@Nat.eq_zero_or_pos
def gO:=@Int.natCast_nonneg
def gP:=@Go.ready_mono
def gQ:=@Bool.false_eq_true
def gR:=@decide_eq_true_iff
def gT:=@List.set_cons_succ
def gU:=@List.mem_filterMap
def gV:=@Array.getElem?_eq_getElem
def gW:=@Go.Lib.run_append_own_string
def gX:=@Classical.byContradiction
def gY:=@List.findIdx?_eq_none_iff
def gZ:=@List.pairwise_iff_getElem
def g_:=@List.getLast?_eq_getElem?
def h_:=@UInt8.le_antisymm
def ia:=@List.reverse_cons
def ib:=@List.getElem_drop
def ic:=@Prod.mk.inj
def ig:=@List.getElem?_set
def ij:=@List.pairwise_map
def ik:=@Go.Proofs.Tryz.ntmps88
def il:=@Go.Proofs.Tryz.func121
def im:=@List.length_range
def iq:=@Go.run_sliceAt_slice
def ir:=@List.take_sublist
def iu:=@Go.Proofs.Tryz.func115
def iv:=@Bool.and_self
def iw:=@Bool.true_and
def ix:=@Bool.or_false
def iy:=@Option.isSome_iff_exists
def iz:=@Int.eq_ofNat_of_zero_le
def iA:=@Go.Maps.has_false_of_atKey
def iB:=@Go.bits_and_u64_nat
def iC:=@List.pairwise_filterMap
def iD:=@List.pairwise_singleton
def iE:=@Go.OpenClaim.holds_of_wide
def iF:=@Nat.sub_zero
def iG:=@Array.getElem?_eq_none
def iH:=@Go.Maps.has_true_of_atKey
def iI:=@Go.Proofs.Tryz.func88
def iJ:=@Go.Proofs.Tryz.func158
def iK:=@List.drop_of_length_le
def iL:=@UInt8.toNat_add
def iM:=@Nat.min_eq_left
def iN:=@Go.run_equalIn_int
def iO:=@List.find?_some
def iP:=@List.singleton_append
def iQ:=@Bool.and_eq_false_iff
def iR:=@Nat.add_mul
def iS:=@Bool.or_eq_false_iff
def iU:=@List.Pairwise.filter
def iW:=@Go.strOfNums_data
def iX:=@not_or
def iY:=@Go.run_buildSlice
def iZ:=@Go.Proofs.Tryz.func91
def i_:=@List.mapM_cons
def ja:=@Go.run_eql_struct
def jb:=@Nat.pow_lt_pow_right
def jc:=@Go.mem_ready
def jd:=@List.length_pos_iff
def je:=@List.flatten_append
def jf:=@Nat.mul_le_mul_left
def jg:=@Nat.mul_assoc
def jh:=@Bool.false_or
def ji:=@ByteArray.ext
def jk:=@Bool.not_true
def jl:=@List.mapM_nil
def jm:=@List.all_cons
def jo:=@Go.info_parts
def jq:=@List.map_set
def jr:=@Int.mul_zero
def js:=@Go.callsIn_wide
def jt:=@Nat.zero_mul
def ju:=@Nat.pow_add
def jv:=@Nat.mul_add
variable {α ι:Type}{p F:Prop}{a:Act}{b o B g cap base bytes f m j d n' u D t2 n2 id d2 Sa kn:Nat}{c y:Code}{w w' w1 w2:World}{l l1:List Int}{T:TypeId}{ops:Array Oper}{rest:List Oper}{Q:Exit->Act->World->Prop}{x i:Operand}{cs l2 vs:List Value}{g':Nat->List Int}{st:Bool}{ts:Array TypeId}{nx:Option Nat}{O O2:Nat->Prop}{z:Int}{xv v1 v2 v':Value}{args:Array Value}{R:Ending->World->Prop}{op:BinOp}{W:ι->World->Prop}{md:Option (Option Nat)}{ps:List (Nat×Value)}
theorem I (h:p:=by omega): p:=h
theorem jM (h:p:=by simp): p:=h
theorem lZ (h:p:=by decide): p:=h
theorem jG {a b:α}(h:a=b:=by kernel_rfl): a=b:=h
theorem nN {P:α->Prop}(x:α)(h:P x): P x:=h
theorem Db {β:Type}{P:α->β->Prop}(x:α)(y:β)(h:P x y): P x y:=h
theorem _root_.Go.RowKit.Below.kj {a b c:World}(h:RowKit.Below a.heap.size a b)(k:RowKit.Below b.heap.size b c): RowKit.Below a.heap.size a c:=h.trans (k.mono h.size)
abbrev jV (b:Nat):Value:=.pointer (some ⟨b,0,none⟩)
abbrev Iq (x:Int):Value:=.int .i64 x
abbrev jP (a b:World):Prop:=RowKit.Below a.heap.size a b
abbrev Aq (b o:Nat):Addr:=⟨b,o,none⟩
abbrev nj (b o n c:Nat):Value:=.slice (some ⟨b,o,none⟩) n c
abbrev lD:=ByteArray
abbrev kL:=List Value
abbrev oK:=List Int
abbrev kP:Value:=.slice none 0 0
def mw (a b:Nat):List Nat:=List.range' a (b+1 - a)
theorem lX {v:Value}(hb:b<w.heap.size)(hc:w.cell? ⟨b,o,none⟩=some v)(x:World)(hx:RowKit.Below w.heap.size w x): x.cell? ⟨b,o,none⟩=some v:=(hx.cell (p:=⟨b,o,none⟩) hb).trans hc
open Go.RowKit
def Ro (w w':World):Prop:=∃n,w'=w.drewN n
theorem Ro.mk (w:World)(n:Nat): Ro w (w.drewN n):=⟨n,rfl⟩
def nth (l:List Int)(j:Nat):Int:=l.getD j 0
def Row (k:IntKind)(w:World)(b o:Nat)(l:List Int):Prop :=
 ∀j,j<l.length->w.cell? ⟨b,o+j,none⟩=some (.int k (nth l j))
theorem Row.at {k:IntKind}(h:Row k w b o l)(j:Nat)(hj:j<l.length):
  w.cell? ⟨b,o+j,none⟩=some (.int k (nth l j)):=h j hj
theorem Row.BA {k:IntKind}(h:Row k w b o l)(j i:Nat)(hj:j<l.length)(hi:i=o+j):
  w.cell? ⟨b,i,none⟩=some (.int k (nth l j)):=by subst hi;exact h j hj
theorem tj (l:List Int)(i:Nat)(x:Int)(h:i<l.length): nth (l.set i x) i=x:=by
 simp[nth,h]
theorem rJ (l:List Int)(i j:Nat)(x:Int)(h:j≠i): nth (l.set i x) j=nth l j:=by
 simp[nth,dT h]
theorem Row.j_ {k:IntKind}(h:Row k w b o l)(hb:w'.heap[b]? = w.heap[b]?): Row k w' b o l:=by
 intro j hj;rw[<-h j hj];exact bM (w:=w) hb
theorem Row.below {k:IntKind}(h:Row k w b o l)(hb:Below B w w')(hB:b<B): Row k w' b o l :=
 h.j_ (hb.block b hB)
def lq (k:IntKind)(T:TypeId)(w:World)(b:Nat)(l:List Int):Prop :=
 w.heap[b]? = some (.cells (l.map (Value.int k)).toArray T (0,0))
def U (T:TypeId)(w:World)(b:Nat)(l:List Value):Prop:=w.heap[b]? = some (.cells l.toArray T (0,0))
theorem U.lt {l:List Value}(h:U T w b l): b<w.heap.size:=dz h
theorem U.cell {l:List Value}(h:U T w b l)(j:Nat)(hj:j<l.length):
  w.cell? ⟨b,j,none⟩=some (l.getD j undef):=by
 have h':w.heap[b]? = some (.cells l.toArray T (0,0)):=h;rw[fD w b j _ _ _ h'];simp[hj]
theorem U.free {l:List Value}(h:U T w b l)(j:Nat): w.frozen? ⟨b,j,none⟩=false:=by
 have h':w.heap[b]? = some (.cells l.toArray T (0,0)):=h;simp[World.frozen?,h']
theorem U.set {l:List Value}(h:U T w b l)(j:Nat)(v:Value):
  U T (w.setCell ⟨b,j,none⟩ v) b (l.set j v):=by
 have j6:=h.lt;have h':w.heap[b]? = some (.cells l.toArray T (0,0)):=h;have h'':w.heap[b]=.cells l.toArray T (0,0):=by simpa[gV j6] using h'
 show(w.heap.modify b _)[b]? = _
 rw[gV (by simpa using j6),Array.getElem_modify_self,h''];simp
theorem U.j_ {l:List Value}(h:U T w b l)(hb:w'.heap[b]? = w.heap[b]?): U T w' b l:=hb.trans h
theorem U.other {l:List Value}(h:U T w b l)(a:Addr)(v:Value)(hb:b≠a.block): U T (w.setCell a v) b l :=
 h.j_ (Below.heap_setCell w a v b hb)
theorem U.alloc {l:List Value}(h:U T w b l)(ob:Obj): U T (w.alloc ob) b l :=
 h.j_ (Below.heap_alloc w ob b h.lt)
theorem U.drewN {l:List Value}(h:U T w b l)(n:Nat): U T (w.drewN n) b l:=h
theorem U.mk (w:World)(l:List Value)(T:TypeId): U T (w.alloc (.cells l.toArray T)) w.heap.size l:=by
 show(w.heap.push _)[w.heap.size]? = _
 simp
theorem lq.v {k:IntKind}(h:lq k T w b l): U T w b (l.map (Value.int k)):=h
theorem lq.lt {k:IntKind}(h:lq k T w b l): b<w.heap.size:=h.v.lt
theorem lq.cell {k:IntKind}(h:lq k T w b l)(j:Nat)(hj:j<l.length):
  w.cell? ⟨b,j,none⟩=some (.int k (nth l j)):=by
 rw[h.v.cell j (by simpa using hj)];simp[nth,hj]
theorem lq.Il {k:IntKind}(h:lq k T w b l)(i j:Nat)(hj:j<l.length)(hi:i=j):
  w.cell? ⟨b,i,none⟩=some (.int k (nth l j)):=by subst hi;exact h.cell i hj
theorem lq.row {k:IntKind}(h:lq k T w b l): Row k w b 0 l :=
 fun j hj=>by rw[bA];exact h.cell j hj
theorem lq.free {k:IntKind}(h:lq k T w b l)(j:Nat): w.frozen? ⟨b,j,none⟩=false:=h.v.free j
theorem lq.set {k:IntKind}(h:lq k T w b l)(j:Nat)(x:Int):
  lq k T (w.setCell ⟨b,j,none⟩ (.int k x)) b (l.set j x):=by
 have:=h.v.set j (.int k x);unfold lq;rw[jq];exact this
theorem lq.j_ {k:IntKind}(h:lq k T w b l)(hb:w'.heap[b]? = w.heap[b]?): lq k T w' b l:=hb.trans h
theorem lq.other {k:IntKind}(h:lq k T w b l)(a:Addr)(v:Value)(hb:b≠a.block): lq k T (w.setCell a v) b l :=
 h.j_ (Below.heap_setCell w a v b hb)
theorem lq.alloc {k:IntKind}(h:lq k T w b l)(ob:Obj): lq k T (w.alloc ob) b l :=
 h.j_ (Below.heap_alloc w ob b h.lt)
theorem lq.drewN {k:IntKind}(h:lq k T w b l)(n:Nat): lq k T (w.drewN n) b l:=h
structure Z (K:Nat->Prop) (w w':World):Prop where
 os:w'.os=w.os
 tape:w'.tape=w.tape
 output:w'.output=w.output
 size:w.heap.size<=w'.heap.size
 block:∀k,K k->w'.heap[k]? = w.heap[k]?
theorem Z.refl (K:Nat->Prop)(w:World): Z K w w:=⟨rfl,rfl,rfl,aj _,fun _ _=>rfl⟩
theorem Z.trans {K:Nat->Prop}{a b c:World}(h:Z K a b)(k:Z K b c): Z K a c :=
 ⟨k.os.trans h.os,k.tape.trans h.tape,k.output.trans h.output,aU h.size k.size,fun i hi=>(k.block i hi).trans (h.block i hi)⟩
theorem Z.mono {K K':Nat->Prop}(h:Z K w w')(hK:∀k,K' k->K k): Z K' w w':=⟨h.os,h.tape,h.output,h.size,fun k hk=>h.block k (hK k hk)⟩
theorem Z.drewN {K:Nat->Prop}{a:World}(h:Z K a w)(n:Nat): Z K a (w.drewN n):=⟨h.os,h.tape,h.output,h.size,h.block⟩
theorem Z.alloc {K:Nat->Prop}{a:World}(h:Z K a w)(hK:∀k,K k->k<w.heap.size)(o:Obj): Z K a (w.alloc o) :=
 h.trans ⟨rfl,rfl,rfl,jM,fun k hk=>Below.heap_alloc _ _ _ (hK k hk)⟩
theorem Z.setCell {K:Nat->Prop}{a:World}(h:Z K a w){p:Addr}(hp:¬K p.block)(u:Value): Z K a (w.setCell p u) :=
 h.trans ⟨rfl,rfl,rfl,by simp[World.setCell],fun k hk=>Below.heap_setCell _ _ _ _ (fun e=>hp (e ▸ hk))⟩
theorem Z.jw (h:Below B w w'): Z (fun k=>k<B) w w':=⟨h.os,h.tape,h.output,h.size,h.block⟩
theorem Z.below (h:Z (fun k=>k<B) w w'): Below B w w':=⟨h.os,h.tape,h.output,h.size,h.block⟩
theorem Z.cell {K:Nat->Prop}(h:Z K w w'){p:Addr}(hp:K p.block): w'.cell? p=w.cell? p:=bM (w:=w) (h.block p.block hp)
theorem Row.jA {K:Nat->Prop}{k:IntKind}(h:Row k w b o l)(hb:Z K w w')(hB:K b): Row k w' b o l:=h.j_ (hb.block b hB)
theorem lq.jA {K:Nat->Prop}{k:IntKind}(h:lq k T w b l)(hb:Z K w w')(hB:K b): lq k T w' b l:=h.j_ (hb.block b hB)
theorem U.jA {K:Nat->Prop}{l:List Value}(h:U T w b l)(hb:Z K w w')(hB:K b): U T w' b l:=h.j_ (hb.block b hB)
theorem lq.below {k:IntKind}(h:lq k T w b l)(hb:Below B w w')(hB:b<B): lq k T w' b l:=h.j_ (hb.block b hB)
theorem U.below {l:List Value}(h:U T w b l)(hb:Below B w w')(hB:b<B): U T w' b l:=h.j_ (hb.block b hB)
section
variable {P:Program}{f:FuncId}{args:Array Value}{w:World}{a n:Nat}{v:Value}
theorem Jn (h:Calls P f args (w.drewN n) fun e w'=>e=.returned v/\w.drewN n=w'): Calls P f args (w.drewN n) fun e W3=>e=.returned v/\∃m,W3=w.drewN m :=
 h.mono fun _ _ ⟨he,hm⟩=>⟨he,n,hm.symm⟩
theorem ue (h:Calls P f args (w.drewN (a+n)) fun e w'=>e=.returned v/\w.drewN (a+n)=w'): Calls P f args (w.drewN (a+n)) fun e W3=>e=.returned v/\∃m,W3=w.drewN (a+m) :=
 h.mono fun _ _ ⟨he,hm⟩=>⟨he,n,hm.symm⟩
end
theorem rB {P:Program}{o:Oper}(hg:o.guard=none)(t:TypeId)(parts:Array (Nat×Operand))(ho:o.op=.build t parts)(cells:Array Value)(hf:P.built t (parts.map fun(i,x)=>(i,a.eval x)).toList=some cells)(h:wpList P ops Q rest (a.put o.dst (.agg cells)) w): wpList P ops Q (o::rest) a w :=
 wpList_build hg t parts ho (by rw[hf];rfl) (by rw[hf];exact h)
theorem below_setRow {a:World}(h:Below B a w)(hg:B<=g)(cs:Array Value): Below B a (w.setRow g cs) :=
 h.trans ⟨rfl,rfl,rfl,jM,fun k hk=>setRow_other w g k cs I⟩
theorem U.setRow {l:List Value}(h:U T w b l)(cs:List Value): U T (w.setRow b cs.toArray) b cs :=
 cI w b _ _ _ _ h
theorem U.setRow_other {l:List Value}(h:U T w b l)(cs:Array Value)(hb:b≠g): U T (w.setRow g cs) b l :=
 h.j_ (Go.setRow_other w g b cs hb)
def jU (p:Prop):Prop:=∀q:Prop,(p->q)->q
theorem jU.mk (h:p): jU p:=fun _ f=>f h
theorem jU.out (h:jU p): p:=h p id
def Sl (k:IntKind)(w:World)(v:Value)(l:List Int):Prop :=
 ∃sp cap,v=.slice sp l.length cap/\l.length<=cap/\cap<=9223372036854775807/\(0<l.length->∃b o,sp=some ⟨b,o,none⟩/\b<w.heap.size/\Row k w b o l)/\(sp=none->cap=0)
theorem Sl.jw {k:IntKind}{v:Value}(h:Sl k w v l)(hb:Below w.heap.size w w'): Sl k w' v l:=by
 obtain⟨sp,cap,rfl,h1,h2,h3,h4⟩:=h;exact⟨sp,cap,rfl,h1,h2,fun h0=>let ⟨b,o,e,hl,hr⟩:=h3 h0;⟨b,o,e,ao hl hb.size,hr.below hb hl⟩,h4⟩
theorem Sl.jA {K:Nat->Prop}{k:IntKind}{v:Value}(h:Sl k w v l)(hb:Z K w w')(hK:∀b o n c,v=.slice (some ⟨b,o,none⟩) n c->b<w.heap.size->K b): Sl k w' v l:=by
 obtain⟨sp,cap,rfl,h1,h2,h3,h4⟩:=h;exact⟨sp,cap,rfl,h1,h2,fun h0=>let ⟨b,o,e,hl,hr⟩:=h3 h0;⟨b,o,e,ao hl hb.size,hr.jA hb (hK b o _ _ (by rw[e]) hl)⟩,h4⟩
theorem Sl.nil (k:IntKind)(w:World): Sl k w (.slice none 0 0) []:=⟨none,0,rfl,jM,I,fun h=>by simp at h,fun _=>rfl⟩
theorem Sl.mk {k:IntKind}(hl:l.length<=cap)(hc:cap<=9223372036854775807)(hb:b<w.heap.size)(h:Row k w b o l):
  Sl k w (.slice (some ⟨b,o,none⟩) l.length cap) l:=⟨_,_,rfl,hl,hc,fun _=>⟨b,o,rfl,hb,h⟩,fun h=>by cases h⟩
def lenOf:Value->Nat|.slice _ n _=>n|_=>0
theorem Ep {k:IntKind}(h:Row k w b o l)(n:Nat): Row k w b (o+n) (l.drop n):=by
 intro j hj;simp only[aQ]at hj;have:=h (n+j) I;rw[show o+n+j=o+(n+j) by omega,this];simp[nth]
theorem L0 {A B:Obj}(hb:Below ((w.alloc A).alloc B).heap.size ((w.alloc A).alloc B) w1):
  w1.heap[w.heap.size]? = some A/\w1.heap[w.heap.size+1]? = some B/\Below w.heap.size w w1/\w.heap.size+2<=w1.heap.size:=by
 have hs:((w.alloc A).alloc B).heap.size=w.heap.size+2:=jM;refine⟨?_,?_,?_,?_⟩
 ·rw[hb.block _ (by rw[hs];omega),heap_alloc2_old]
 ·rw[hb.block _ (by rw[hs];omega),heap_alloc2_new]
 ·exact(((Below.refl _ _).alloc (aj _) _).alloc jM _).trans (hb.mono (by rw[hs];omega))
 ·rw[<-hs];exact hb.size
theorem Dt {P:Program}(w:World) (t e:TypeId) (n:Nat) (d:TypeDesc) (i:TypeInfo) (hu:P.underlying t=some (.array n e)) (hi:P.info? e=some i) (hs:i.size=1)
  (he:P.underlying e=some d) (hd:(match d with|.struct _|.array _ _=>false|_=>true)=true) (cs:Array Value) (k:IntKind) (j:Nat) (h1:j<n) (v:Value) (hv:cs[j]? = some v) :
  (Instr.index t (.agg cs) (.int k j)).run P w=.ok v w:=by
 have SN:(isAgg e).run P w=.ok false w:=by
  unfold isAgg;rw[bK,bR he w];cases d<;>simp_all
 have h0:(0:Int)<=j/\(j:Int)<n:=I;simp[Instr.index,bR hu,asIntOf,h0,sizeOf,typeInfo,hi,hs,part,SN,hv,bK]
 omega
theorem R_ (aEX X:List α)(_h:X.length<=aEX.length): splice aEX 0 X=X++aEX.drop X.length:=by simp[splice]
theorem Bc (b o i:Nat): (⟨b,o,none⟩:Addr).add i=⟨b,o+i,none⟩:=by
 unfold Addr.add
 by_cases h:i=0
 ·subst h;rfl
 ·rw[aa h]
def qt (k:IntKind)(e:TypeId)(w:World)(base:Nat)(v:Value)(l:List Int):Prop:=w.ownsRow base e 1 v l.length (l.map (Value.int k))
theorem qt.nil (k:IntKind)(e:TypeId)(w:World)(base:Nat): qt k e w base (.slice none 0 0) []:=World.ownsRow_nil _ _ _ _
theorem qt.block {k:IntKind}{e:TypeId}{v:Value}(h:qt k e w base v l):
  (v=.slice none 0 0/\l=[])\/∃g cap rest,v=.slice (some ⟨g,0,none⟩) l.length cap/\base<=g/\l.length<=cap/\cap<=maxLen/\U e w g (l.map (Value.int k)++rest)/\(l.map (Value.int k)++rest).length=cap:=by
 obtain⟨h1,h2⟩:=h;rcases h2 with⟨h2,h3⟩|⟨g,cap,cur,hv,hg,hh,r1,r2,r3,r4⟩
 ·exact .inl ⟨h2,bF h3⟩
 ·refine .inr ⟨g,cap,cur.toList.drop l.length,hv,hg,r1,r2,?_,?_⟩
  ·rw[cJ]at r4
   rw[<-r4,aO]
   simpa[U] using hh
  ·rw[cJ]at r3
   simp;omega
theorem qt.row {k:IntKind}{e:TypeId}(h:qt k e w base (.slice (some ⟨g,0,none⟩) l.length cap) l): Row k w g 0 l:=by
 intro j hj;have:=dU h j (by simpa using hj);rw[bA,this];simp[nth,hj]
theorem qt.sl {k:IntKind}{e:TypeId}{v:Value}(h:qt k e w base v l): Sl k w v l:=by
 rcases h.block with⟨rfl,rfl⟩|⟨g,cap,rest,rfl,hg,h1,h2,hb,-⟩
 ·exact Sl.nil k w
 ·exact Sl.mk h1 (by unfold maxLen at h2;exact h2) hb.lt h.row
theorem qt.alloc {k:IntKind}{e:TypeId}{v:Value}(h:qt k e w base v l)(o:Obj): qt k e (w.alloc o) base v l:=World.ownsRow.alloc h o
theorem qt.jA {K:Nat->Prop}{k:IntKind}{e:TypeId}{v:Value}(h:qt k e w base v l)(hk:Z K w w')(hK:∀g,base<=g->g<w.heap.size->v.ownBlock=some g->K g): qt k e w' base v l:=by
 refine⟨h.1,?_⟩;rcases h.2 with hn|⟨g,cap,cur,rfl,hb,hgg,rest⟩
 ·exact .inl hn
 ·refine .inr ⟨g,cap,cur,rfl,hb,?_,rest⟩
  rw[hk.block g (hK g hb (dz hgg) rfl)];exact hgg
theorem qt.below {k:IntKind}{e:TypeId}{v:Value}(h:qt k e w base v l)(hk:Below B w w')(hB:w.heap.size<=B): qt k e w' base v l :=
 h.jA (Z.jw hk) (fun _ _ hg _=>ao hg hB)
theorem qt.own {k:IntKind}{e:TypeId}{v:Value}(h:qt k e w base v l): ∀g,v.ownBlock=some g->base<=g/\g<w.heap.size:=fun g hg=>World.ownsRow.lt h g hg
theorem qt.mk {k:IntKind}{e:TypeId}(l rest:List Int)(hb:base<=w.heap.size)(hm:l.length+rest.length<=maxLen):
  qt k e (w.alloc (.cells ((l++rest).map (Value.int k)).toArray e)) base (.slice (some ⟨w.heap.size,0,none⟩) l.length (l.length+rest.length)) l:=by
 refine⟨jM,.inr ⟨w.heap.size,l.length+rest.length,_,rfl,hb,cz _ _,I,hm,jM,?_⟩⟩;simp
theorem qt.empty {k:IntKind}{e:TypeId}(hb:base<=w.heap.size): qt k e (w.alloc (.cells #[] e)) base (.slice (some ⟨w.heap.size,0,none⟩) 0 0) []:=qt.mk [] [] hb (by unfold maxLen;simp)
theorem Sl.one (k:IntKind)(w:World)(x:Int)(T:TypeId): Sl k (w.alloc (.cells #[.int k x] T)) (.slice (some ⟨w.heap.size,0,none⟩) 1 1) [x] :=
 Sl.mk (l:=[x]) (aj _) lZ jM (lq.row (T:=T) (U.mk w [.int k x] T))
structure Vc (P:Program) (t e:TypeId) (bytes:Nat):Prop where
 ht:P.underlying t=some (.slice e)
 ex:∃i z,P.info? e=some i/\i.zero=some z/\i.size=1/\i.bytes=bytes/\z.cells.size=1
theorem Vc.mk' {P:Program}{t e:TypeId}{k:IntKind}{x:Int}(ht:P.underlying t=some (.slice e))(hi:(P.info? e).map (fun i=>(i.zero,i.size,i.bytes))=some (some (.int k x),1,bytes)): Vc P t e bytes :=
 ⟨ht,let ⟨i,h1,h2,h3,h4⟩:=jo hi;⟨i,_,h1,h2,h3,h4,rfl⟩⟩
theorem DC {v:Value}(hg:w.grownBy w' v.ownBlock)(ho:∀g,v.ownBlock=some g->base<=g)(hb:base<=w.heap.size): Z (fun b=>b<base) w w' :=
 ⟨hg.os,hg.tape,hg.output,hg.size,fun k hk=>hg.block k (ao hk hb) (fun e=>absurd (ho k e.symm) (Nat.not_le.2 hk))⟩
theorem zX {P:Program}{o:Oper}(tp:o.guard=none)(s x:Operand)(t:TypeId)(ho:o.op=.call { callee:=.builtin .append,args:=#[s,x],argTypes:=#[t,t]}){e:TypeId}{k:IntKind}(E:Vc P t e bytes)(base:Nat)(v:Value)(l:List Int)(hs:a.eval s=v)(jW:qt k e w base v l)(xv:Value)(l2:List Int)(hx:a.eval x=xv)(nG:Sl k w xv l2)(n:Nat)(hn:l.length+l2.length=n)(oc:n<=maxLen)(kK:n*bytes<=140737488355328)(adt:base<=w.heap.size)(h:∀sp c w',qt k e w' base (.slice sp n c) (l++l2)->Z (fun b=>b<base) w w'->wpList P ops Q rest (a.put o.dst (.slice sp n c)) w'): wpList P ops Q (o::rest) a w:=by
 subst hn;obtain⟨i,z,hi,hz,CN,yD,SH⟩:=E.ex;obtain⟨sp,cap,rfl,vN,rE,kF,akJ⟩:=nG;have go:∀v' w',w'.ownsRow base e 1 v' (l.length+l2.length) (l.map (Value.int k)++l2.map (Value.int k))->w.grownBy w' v.ownBlock->wpList P ops Q rest (a.put o.dst v') w':=by
  intro v' w' h1 h2;have CE:qt k e w' base v' (l++l2):=by
   unfold qt;rw[aV,af];exact h1
  have hk:=DC h2 (fun g hg=>(jW.own g hg).1) adt;rcases CE.block with⟨e1,e2⟩|⟨g,c,r,e1,-⟩
  ·subst e1
   have e3:l.length+l2.length=0:=by rw[<-af,e2];rfl
   rw[e3]at h;exact h none 0 w' CE hk
  ·subst e1
   rw[af]at CE ⊢;exact h _ c w' CE hk
 by_cases h0:sp=none
 ·subst h0
  have yK:=akJ rfl;subst yK;have sL:l2=[]:=bF I;subst sL;refine wpList_append_own_none tp s x t ho base e i 1 E.ht hi v l.length _ hs jW hx (go v w ?_ (World.grownBy.refl _ _));unfold qt at jW;simpa using jW
 ·obtain⟨ad,had⟩:=eX.1 h0
  refine wpList_append_own w tp s x t ho base e i z 1 bytes E.ht hi hz CN yD SH lZ v l.length _ hs jW ad l2.length cap (l2.map (Value.int k)) (by rw[hx,had]) jM ?_ ?_ oc kK adt (fun v' w' h1 h2 _=>go v' w' h1 h2)
  ·intro j u hu
   have hj:j<l2.length:=by
    rcases aW j l2.length with h|h
    ·exact h
    ·simp[h]at hu
   obtain⟨b,o,e1,j6,hr⟩:=kF I;rw[e1]at had;cases had
   rw[Bc,hr j hj]
   simpa[nth,hj] using hu
  ·intro u hu
   obtain⟨_,_,rfl⟩:=bD.1 hu
   rfl
theorem Q0 (w:World)(A B C:Obj):
  (((w.alloc A).alloc B).alloc C).heap[w.heap.size]? = some A/\(((w.alloc A).alloc B).alloc C).heap[w.heap.size+1]? = some B/\(((w.alloc A).alloc B).alloc C).heap[w.heap.size+1+1]? = some C/\
   Below w.heap.size w (((w.alloc A).alloc B).alloc C)/\(((w.alloc A).alloc B).alloc C).heap.size=w.heap.size+3:=by
 have hs:((w.alloc A).alloc B).heap.size=w.heap.size+1+1:=jM;have sF:(w.alloc A).heap.size=w.heap.size+1:=jM;refine⟨?_,?_,?_,?_,?_⟩
 ·rw[Below.heap_alloc _ _ _ (by rw[hs];omega),heap_alloc2_old]
 ·rw[Below.heap_alloc _ _ _ (by rw[hs];omega),heap_alloc2_new]
 ·rw[<-hs,cz]
 ·exact(((Below.refl _ w).alloc (aj _) A).alloc (by rw[sF];omega) B).alloc (by rw[hs];omega) C
 ·simp
open Go.ChangeShapes Go.WideShapes Go.ChangeAt
theorem Tryz.ownKnob:ownKnob prog.godebug=none:=jG
theorem Tryz.laid: laidOutB prog=true:=jG
theorem YN {x:Addr}{v:Value}(h:w.cell? x=some v): x.spot=none:=by
 unfold World.cell? at h
 split at h
 ·cases hs:x.spot with
  | none=>rfl
  | some _=>simp[hs]at h
 ·cases h
inductive V where
 | mk (k n s:Int) (t:ByteArray) (names:List ByteArray) (kids:List V)
namespace V
def k:V->Int|.mk k _ _ _ _ _=>k
def n:V->Int|.mk _ n _ _ _ _=>n
def s:V->Int|.mk _ _ s _ _ _=>s
def t:V->ByteArray|.mk _ _ _ t _ _=>t
def names:V->List ByteArray|.mk _ _ _ _ l _=>l
def kids:V->List V|.mk _ _ _ _ _ l=>l
end V
def mM:V:=.mk 0 0 0 ByteArray.empty [] []
def kZ:ByteArray:=ByteArray.empty
def AI (w:World)(v:Value)(l:List ByteArray):Prop :=
 ∃sp cap,v=.slice sp l.length cap/\l.length<=cap/\cap<=9223372036854775807/\(∀j,j<l.length->(l.getD j kZ).size<=140737488355328)/\
  (0<l.length->∃b o,sp=some ⟨b,o,none⟩/\b<w.heap.size/\∀j,j<l.length->w.cell? ⟨b,o+j,none⟩=some (.string (l.getD j kZ)))
theorem AI.below {v:Value}{l:List ByteArray}(h:AI w v l)(hb:Below w.heap.size w w'): AI w' v l:=by
 obtain⟨sp,cap,h1,h2,h3,h4,h5⟩:=h;refine⟨sp,cap,h1,h2,h3,h4,fun h0=>?_⟩;obtain⟨b,o,e,j6,hr⟩:=h5 h0;exact⟨b,o,e,ao j6 hb.size,fun j hj=>by rw[hb.cell (p:=⟨b,o+j,none⟩) j6];exact hr j hj⟩
def On (P:V->List Value->Prop)(w:World)(v:Value)(l:List V):Prop :=
 ∃sp cap,v=.slice sp l.length cap/\l.length<=cap/\cap<=9223372036854775807/\
  (0<l.length->∃b o,sp=some ⟨b,o,none⟩/\b<w.heap.size/\∀j,j<l.length->∃cs,cs.length=6/\P (l.getD j mM) cs/\w.rangeAt b (o+j*6) cs)
def mj:Nat->World->V->List Value->Prop
 | 0,_,_,_=>False
 | f+1,w,v,cs=>∃sn sk,cs=[.int .i64 v.k,.int .i64 v.n,.int .i64 v.s,.string v.t,sn,sk]/\
   (Lit.int .i64 v.k).wf=true/\(Lit.int .i64 v.n).wf=true/\(Lit.int .i64 v.s).wf=true/\v.t.size<=140737488355328/\AI w sn v.names/\On (mj f w) w sk v.kids
def LW (f:Nat)(w:World)(v:Value)(l:List V):Prop:=On (mj f w) w v l
theorem On.below {P P':V->List Value->Prop}{v:Value}{l:List V}(h:On P w v l)(hb:Below w.heap.size w w')(hP:∀x cs,P x cs->P' x cs): On P' w' v l:=by
 obtain⟨sp,cap,h1,h2,h3,h4⟩:=h;refine⟨sp,cap,h1,h2,h3,fun h0=>?_⟩;obtain⟨b,o,e,j6,hr⟩:=h4 h0;refine⟨b,o,e,ao j6 hb.size,fun j hj=>?_⟩;obtain⟨cs,hc,hp,ly⟩:=hr j hj;exact⟨cs,hc,hP _ _ hp,fun i u hu=>by rw[hb.cell (p:=⟨b,o+j*6+i,none⟩) j6];exact ly i u hu⟩
theorem mj.below (hb:Below w.heap.size w w'): ∀ {f:Nat}{v:V}{cs:List Value},mj f w v cs->mj f w' v cs
 | 0,_,_,h=>h
 | _+1,_,_,⟨sn,sk,h1,h2,h3,h4,h5,h6,h7⟩=>⟨sn,sk,h1,h2,h3,h4,h5,h6.below hb,h7.below hb fun _ _ hp=>mj.below hb hp⟩
theorem mj.len {v:V}(h:mj f w v cs): cs.length=6:=by
 cases f with
 | zero=>exact h.elim
 | succ f=>obtain⟨_,_,rfl,_⟩:=h;rfl
def qk (s:ByteArray):Bool:=decide (1<=s.size) && decide (s.size<=40)
def risesB:List ByteArray->Bool
 | []=>true
 | [_]=>true
 | a::b::l=>Op.bytesLess a.toList b.toList && risesB (b::l)
def n_ (v:V):Bool:=v.names.all qk && risesB v.names && decide (v.names.length=v.kids.length)
def rW (v:V):Bool:=decide (v.n=0) && decide (v.s=0)
def m7 (v:V):Bool:=decide (v.names.length=0) && decide (v.kids.length=0)
def mN (v:V):Bool:=decide (v.t.size=0)
def pS (v:V):Bool :=
 if v.k=1 then rW v && m7 v && mN v
 else if v.k=2 then decide (0<=v.n) && decide (v.n<=1) && decide (v.s=0) && m7 v && mN v
 else if v.k=3 then decide (v.s=0) && m7 v && mN v
 else if v.k=4 then decide (1<=v.s) && decide (v.s<=18) && decide (¬v.n.tmod 10=0) && m7 v && mN v
 else if v.k=5 then decide (0<=v.n) && decide (v.n<=9007199254740992) && decide (v.s=0) && m7 v && mN v
 else if v.k=6\/v.k=7 then rW v && m7 v
 else if v.k=8 then rW v && decide (v.names.length=0) && mN v
 else if v.k=9 then rW v && mN v
 else false
def sP (v:V):Int :=
 if pS v=false then 3
 else if 16384<v.t.size\/200<v.kids.length then 5
 else if v.k=9/\n_ v=false then 3
 else 0
def firstBad:List Int->Int
 | []=>0
 | e::l=>if e=0 then firstBad l else e
def chk:Nat->V->Int
 | 0,_=>9
 | m+1,v=>if sP v=0 then firstBad (v.kids.map (chk m)) else sP v
theorem qi: firstBad l=0 ↔ ∀e∈l,e=0:=by
 induction l with
 | nil=>simp[firstBad]
 | cons a l ih=>
  unfold firstBad
  by_cases h:a=0
  ·rw[ag h,ih];simp[h]
  ·rw[aa h];simp[h]
theorem rC {i:Nat}(hi:i<l.length)(h:∀j,j<i->l.getD j 0=0)(hn:¬l.getD i 0=0): firstBad l=l.getD i 0:=by
 induction l generalizing i with
 | nil=>simp at hi
 | cons a l ih=>
  cases i with
  | zero=>unfold firstBad;rw[aa (by simpa using hn)];simp
  | succ i=>
   have h0:=h 0 I;simp only[al]at h0;unfold firstBad;rw[ag h0];simp only[aA]at hn ⊢;exact ih (by simpa using hi) (fun j hj=>by simpa using h (j+1) I) hn
theorem uc (h:∀j,j<l.length->l.getD j 0=0): firstBad l=0:=by
 rw[qi];intro e he;obtain⟨j,hj,rfl⟩:=bH he
 simpa[hj] using h j hj
theorem qB {v:V}(h:chk (m+1) v=0)(hj:j<v.kids.length): chk m (v.kids.getD j mM)=0:=by
 unfold chk at h
 by_cases hs:sP v=0
 ·rw[ag hs,qi]at h
  exact h _ (bD.2 ⟨v.kids[j],aH hj,by simp[hj]⟩)
 ·rw[aa hs]at h;exact(hs h).elim
theorem qe {v:V}(h:chk (m+1) v=0): sP v=0:=by
 unfold chk at h
 by_cases hs:sP v=0
 ·exact hs
 ·rw[aa hs]at h;exact h
theorem r_ (m:Nat)(l:List V)(j:Nat)(hj:j<l.length): (l.map (chk m)).getD j 0=chk m (l.getD j mM):=by simp[hj]
theorem NX:∀ {l:List ByteArray},risesB l=true ↔ ∀i,i+1<l.length->Op.bytesLess (l.getD i kZ).toList (l.getD (i+1) kZ).toList=true
 | []=>by simp[risesB]
 | [a]=>by simp[risesB]
 | a::b::l=>by
  unfold risesB;rw[aF,NX (l:=b::l)]
  constructor
  ·rintro⟨h1,h2⟩ i hi
   cases i with
   | zero=>simpa using h1
   | succ i=>simpa using h2 i (by simp at hi ⊢;omega)
  ·intro h
   exact⟨by simpa using h 0 jM,fun i hi=>by simpa using h (i+1) (by simp at hi ⊢;omega)⟩
namespace K
def digsF:Nat->Nat->List Nat
 | 0,_=>[]
 | f+1,u=>if u=0 then[] else u % 10::digsF f (u / 10)
def mV (u:Nat):List Nat:=digsF 20 u
def nzs:List Nat->List Nat
 | []=>[]
 | a::r=>if a=0 then nzs r else a::r
theorem aca (A:List Nat)(d:Nat): nzs (A++[d])=if nzs A=[] then(if d=0 then[] else[d]) else nzs A++[d]:=by
 induction A with
 | nil=>simp[nzs]
 | cons a A ih=>
  rw[bC,nzs,nzs]
  by_cases h:a=0
  ·rw[ag h,ag h,ih]
  ·rw[aa h,aa h,aa jM];simp
theorem uu:∀(f u:Nat),(digsF f u).length<=f
 | 0,_=>by simp[digsF]
 | f+1,u=>by
  unfold digsF
  split
  ·simp
  ·simp[uu f (u / 10)]
theorem yp:∀(f u:Nat),∀d∈digsF f u,d<10
 | 0,_,d,h=>by simp[digsF]at h
 | f+1,u,d,h=>by
  unfold digsF at h
  split at h
  ·simp at h
  ·rcases ax.1 h with rfl|h
   ·omega
   ·exact yp f (u / 10) d h
theorem MM (l:List Nat): ∀d∈nzs l,d∈l:=by
 induction l with
 | nil=>intro d h;exact h
 | cons a l ih=>
  intro d h;unfold nzs at h
  split at h
  ·exact aD _ (ih d h)
  ·exact h
theorem Bi (l:List Nat): (nzs l).length<=l.length:=by
 induction l with
 | nil=>simp[nzs]
 | cons a l ih=>unfold nzs;split<;>simp<;>omega
def JG (ds:List Nat):List Int:=(nzs ds).reverse.map fun d:Nat=>(d:Int)+1
def zM (ds:List Nat)(s:Int):List Int:=((ds.length:Int) - s+192) % 256::JG ds++[0]
def rN (l:List Int):List Int:=l.map fun c=>255 - c
def zK (n s:Int):List Int:=if n=0 then[128] else if n<0 then rN (zM (mV n.natAbs) s) else zM (mV n.natAbs) s
theorem Qy (u:Nat)(s:Int): (zM (mV u) s).length<=22:=by
 have h1:=Bi (mV u);have h2:(mV u).length<=20:=uu 20 u;simp[zM,JG]
 omega
theorem QB (n s:Int): (zK n s).length<=22:=by
 unfold zK;have:=Qy n.natAbs s
 split
 ·simp
 ·split
  ·simpa[rN] using this
  ·exact this
theorem Vb (u:Nat): ∀c∈JG (mV u),1<=c/\c<=10:=by
 intro c hc;unfold JG at hc;obtain⟨d,hd,rfl⟩:=bD.1 hc;have:=yp 20 u d (MM _ d (fW.1 hd));omega
theorem DB (u:Nat)(s:Int): ∀c∈zM (mV u) s,0<=c/\c<=255:=by
 intro c hc;unfold zM at hc;simp only[au,ax,List.mem_nil_iff,eJ]at hc;rcases hc with(rfl|hc)|rfl
 ·omega
 ·have:=Vb u c hc;omega
 ·omega
theorem mF (g:Nat->List Int)(i:Nat): (List.range (i+1)).flatMap g=(List.range i).flatMap g++g i:=by
 rw[eL,an];simp
theorem wX (g:Nat->List Int){i n:Nat}(h:i<=n): ((List.range i).flatMap g).length<=((List.range n).flatMap g).length:=by
 induction n with
 | zero=>
  obtain rfl:i=0:=I;exact aj _
 | succ n ih=>
  rcases aW n i with h'|h'
  ·obtain rfl:i=n+1:=I
   exact aj _
  ·rw[mF,af];have:=ih h';omega
theorem rz {v:V}(h:sP v=0): (1<=v.k/\v.k<=9)/\(v.k=2->0<=v.n/\v.n<=1)/\(v.k=3->v.s=0)/\(v.k=4->1<=v.s/\v.s<=18/\¬v.n.tmod 10=0)/\(v.k=5->0<=v.n/\v.n<=9007199254740992)/\
  v.kids.length<=200/\v.t.size<=16384/\(v.k=9->v.names.length=v.kids.length/\∀s∈v.names,s.size<=40):=by
 unfold sP at h
 by_cases h1:pS v=false
 ·rw[ag h1]at h;cases h
 rw[aa h1]at h
 by_cases h2:16384<v.t.size\/200<v.kids.length
 ·rw[ag h2]at h;cases h
 rw[aa h2]at h
 by_cases h3:v.k=9/\n_ v=false
 ·rw[ag h3]at h;cases h
 have hf:pS v=true:=by simpa using h1
 clear h h1;refine⟨?_,?_,?_,?_,?_,I,I,?_⟩
 ·unfold pS at hf
  by_cases a1:v.k=1
  ·omega
  by_cases a2:v.k=2
  ·omega
  by_cases a3:v.k=3
  ·omega
  by_cases a4:v.k=4
  ·omega
  by_cases a5:v.k=5
  ·omega
  by_cases a6:v.k=6\/v.k=7
  ·omega
  by_cases a8:v.k=8
  ·omega
  by_cases a9:v.k=9
  ·omega
  rw[aa a1,aa a2,aa a3,aa a4,aa a5,aa a6,aa a8,aa a9]at hf;cases hf
 ·intro e;unfold pS at hf;simp[e]at hf;omega
 ·intro e;unfold pS at hf;simp[e]at hf;omega
 ·intro e;unfold pS at hf;simp[e]at hf;exact⟨hf.1.1.1.1,hf.1.1.1.2,hf.1.1.2⟩
 ·intro e;unfold pS at hf;simp[e]at hf;omega
 ·intro e
  have h4:n_ v=true:=by
   cases hb:n_ v with
   | true=>rfl
   | false=>exact(h3 ⟨e,hb⟩).elim
  unfold n_ at h4;simp only[aF,bY,aX]at h4;refine⟨h4.2,fun s hs=>?_⟩;have:=h4.1.1 s hs;unfold qk at this;simp at this
  omega
def oy (k:Int):Int:=if k<=2 then 16*k else if k<=4 then 48 else 16*(k - 1)
def Ce (v:Int):List Int:=[v / 16777216 % 256,v / 65536 % 256,v / 256 % 256,v % 256]
def GX (v:Int):List Int:=Ce (v / 4294967296)++Ce (v % 4294967296)
def textP:List UInt8->List Int
 | []=>[]
 | c::r=>if c=0 then 0::255::textP r else(c.toNat:Int)::textP r
def rp (s:List UInt8):List Int:=textP s++[0,0]
theorem UY (l:List UInt8)(c:UInt8): textP (l++[c])=textP l++if c=0 then[0,255] else[(c.toNat:Int)]:=by
 induction l with
 | nil=>rw[aT,textP];split<;>simp_all [textP]
 | cons a l ih=>rw[bC,textP,ih,textP];by_cases h:a=0<;>simp[h]
theorem A5 (l:List UInt8): (textP l).length<=2*l.length:=by
 induction l with
 | nil=>simp[textP]
 | cons a l ih=>rw[textP];split<;>simp<;>omega
def oT (ky:V->List Int)(st:Bool)(names:List ByteArray)(kids:List V)(j:Nat):List Int :=
 (if st then 1::rp (names.getD j kZ).toList else[])++ky (kids.getD j mM)
def keyV:Nat->V->List Int
  | 0, _=>[]
  | m+1, v=>oy v.k::
    (if v.k=2 then[v.n] else if v.k=3\/v.k=4 then zK v.n v.s else if v.k=5 then GX v.n else if v.k=6\/v.k=7 then rp v.t.toList
     else if v.k=8\/v.k=9 then(List.range v.kids.length).flatMap (oT (keyV m) (decide (v.k=9)) v.names v.kids)++[0] else[])
def nC (m:Nat)(l:List V):List Int:=l.flatMap (keyV m)
open Op (bytesLess)
def oI (x y:Int):Int:=if x<y then -1 else if y<x then 1 else 0
def cmpL:List Int->List Int->Int
 | [],[]=>0
 | [],_::_=>-1
 | _::_,[]=>1
 | a::r,b::s=>if a<b then -1 else if b<a then 1 else cmpL r s
theorem Gj:∀ {k l:List Int},cmpL k l=0->k=l
 | [],[],_=>rfl
 | [],_::_,h=>by simp[cmpL]at h
 | _::_,[],h=>by simp[cmpL]at h
 | a::r,b::s,h=>by
  unfold cmpL at h
  by_cases h1:a<b
  ·rw[ag h1]at h;cases h
  ·rw[aa h1]at h
   by_cases h2:b<a
   ·rw[ag h2]at h;cases h
   ·rw[aa h2]at h
    rw[show a=b by omega,Gj h]
theorem BQ:∀(k:List Int),cmpL k k=0
 | []=>rfl
 | a::r=>by unfold cmpL;rw[aa I,aa I,BQ r]
def SC (k l:List Int)(c:Int):Prop:=∀r s,cmpL (k++r) (l++s)=if c=0 then cmpL r s else c
theorem SC.nil: SC [] [] 0:=fun r s=>jM
theorem SC.refl (k:List Int): SC k k 0:=fun r s=>by
 rw[ag rfl]
 induction k with
 | nil=>rfl
 | cons a k ih=>rw[bC,bC,cmpL,aa I,aa I,ih]
theorem SC.byte (x y:Int): SC [x] [y] (oI x y):=fun r s=>by
 unfold oI;rw[iP,iP,cmpL]
 by_cases h1:x<y
 ·rw[ag h1,ag h1];rfl
 ·rw[aa h1,aa h1]
  by_cases h2:y<x
  ·rw[ag h2,ag h2];rfl
  ·rw[aa h2,aa h2,ag rfl]
theorem SC.app {k m n:List Int}{c d:Int}(h:SC k l c)(h':SC m n d): SC (k++m) (l++n) (if c=0 then d else c):=fun r s=>by
 rw[av,av,h]
 by_cases hc:c=0
 ·rw[ag hc,ag hc,h']
 ·rw[aa hc,aa hc,aa hc]
theorem SC.cons {m n:List Int}{d:Int}(x:Int)(h:SC m n d): SC (x::m) (x::n) d:=by
 have:=(SC.refl [x]).app h
 simpa using this
theorem SC.lt {x y:Int}(h:x<y)(m n:List Int): SC (x::m) (y::n) (-1):=fun r s=>by
 rw[bC,bC,cmpL,ag h];rfl
theorem SC.gt {x y:Int}(h:y<x)(m n:List Int): SC (x::m) (y::n) 1:=fun r s=>by
 rw[bC,bC,cmpL,aa I,ag h];rfl
theorem SC.eq0 {k:List Int}(h:SC k l 0): k=l:=by
 have:=h [] [];rw[ag rfl,aP,aP]at this;exact Gj (this.trans rfl)
def cmpB:List UInt8->List UInt8->Int
 | [],[]=>0
 | [],_::_=>-1
 | _::_,[]=>1
 | a::r,b::s=>if a<b then -1 else if b<a then 1 else cmpB r s
theorem JL:∀(s t:List UInt8),cmpB s t = -1\/cmpB s t=0\/cmpB s t=1
 | [],[]=>by simp[cmpB]
 | [],_::_=>by simp[cmpB]
 | _::_,[]=>by simp[cmpB]
 | a::r,b::s=>by
  unfold cmpB
  by_cases h1:a<b
  ·simp[h1]
  ·by_cases h2:b<a
   ·simp[h1,h2]
   ·simp only[h1,h2,eY];exact JL r s
theorem FY:∀(s t:List UInt8),bytesLess s t=decide (cmpB s t = -1)
 | [],[]=>by simp[cmpB,bytesLess]
 | [],_::_=>by simp[cmpB,bytesLess]
 | _::_,[]=>by simp[cmpB,bytesLess]
 | a::r,b::s=>by
  unfold cmpB bytesLess
  by_cases h1:a<b
  ·simp[h1]
  ·by_cases h2:b<a
   ·have h3:¬a=b:=fun e=>by subst e;exact h1 h2
    simp[h1,h2,h3]
   ·have h3:a=b:=h_ (eD.1 h2) (eD.1 h1)
    subst h3;simp[h1,FY r s]
theorem Ga:∀(s t:List UInt8),cmpB t s = - cmpB s t
 | [],[]=>rfl
 | [],_::_=>rfl
 | _::_,[]=>rfl
 | a::r,b::s=>by
  unfold cmpB
  by_cases h1:a<b
  ·have h2:¬b<a:=fun e=>UInt8.lt_irrefl _ (UInt8.lt_trans h1 e)
   simp[h1,h2]
  ·by_cases h2:b<a
   ·simp[h1,h2]
   ·simp only[h1,h2,eY];exact Ga r s
theorem SC.text: ∀(s t:List UInt8),SC (rp s) (rp t) (cmpB s t)
 | [],[]=>SC.refl _
 | [],b::s=>by
  unfold rp textP cmpB
  by_cases h:b=0
  ·rw[ag h]
   show SC (0::0::[]) (0::255::_) (-1)
   exact SC.cons 0 (SC.lt lZ _ _)
  ·rw[aa h]
   show SC (0::_) ((b.toNat:Int)::_) (-1)
   have:b.toNat≠0:=fun e=>h (df e);exact SC.lt I _ _
 | a::r,[]=>by
  unfold rp textP cmpB
  by_cases h:a=0
  ·rw[ag h]
   show SC (0::255::_) (0::0::[]) 1
   exact SC.cons 0 (SC.gt lZ _ _)
  ·rw[aa h]
   show SC ((a.toNat:Int)::_) (0::_) 1
   have:a.toNat≠0:=fun e=>h (df e);exact SC.gt I _ _
 | a::r,b::s=>by
  have ih:=SC.text r s;have e:∀(c:UInt8) (q:List UInt8),rp (c::q)=if c=0 then 0::255::rp q else(c.toNat:Int)::rp q:=fun c q=>by
   unfold rp;rw[textP]
   split<;>rfl
  rw[e,e];unfold cmpB
  by_cases h1:a<b
  ·rw[ag h1]
   have hb:¬b=0:=fun e=>by subst e;exact absurd h1 (eD.2 (UInt8.zero_le))
   have uP:a.toNat<b.toNat:=bO.1 h1;rw[aa hb]
   by_cases ha:a=0
   ·rw[ag ha];exact SC.lt I _ _
   ·rw[aa ha];exact SC.lt I _ _
  ·rw[aa h1]
   by_cases h2:b<a
   ·rw[ag h2]
    have ha:¬a=0:=fun e=>by subst e;exact absurd h2 (eD.2 (UInt8.zero_le))
    have uP:b.toNat<a.toNat:=bO.1 h2;rw[aa ha]
    by_cases hb:b=0
    ·rw[ag hb];exact SC.gt I _ _
    ·rw[aa hb];exact SC.gt I _ _
   ·rw[aa h2]
    have h3:a=b:=h_ (eD.1 h2) (eD.1 h1);subst h3
    by_cases ha:a=0
    ·rw[ag ha,ag ha];exact SC.cons 0 (SC.cons 255 ih)
    ·rw[aa ha,aa ha];exact SC.cons _ ih
theorem Md (l:List Int)(x:Int): firstBad (l++[x])=if firstBad l=0 then x else firstBad l:=by
 induction l with
 | nil=>
  rw[aT];unfold firstBad
  by_cases h:x=0
  ·rw[ag h];simp[firstBad];exact h.symm
  ·rw[aa h];simp
 | cons a l ih=>
  rw[bC];unfold firstBad
  by_cases h:a=0
  ·rw[ag h,ag h,ih]
  ·rw[aa h,aa h,aa h]
theorem SC.flat {g:Nat->List Int}{c:Nat->Int}: ∀(m:Nat),(∀j,j<m->SC (g j) (g' j) (c j))->SC ((List.range m).flatMap g) ((List.range m).flatMap g') (firstBad ((List.range m).map c))
 | 0,_=>SC.nil
 | m+1,h=>by
  have h1:=SC.flat m fun j hj=>h j I;have h2:=h1.app (h m I);rw[mF,mF,eL,aV,List.map_singleton,Md];exact h2
theorem Jp (g:Nat->List Int)(n m:Nat)(hm:m<=n)(hx:∀j,j<n->∃x r,g j=x::r/\0<x): ∃q,(List.range n).flatMap g=(List.range m).flatMap g++q/\(m=n->q=[])/\(m<n->∃x r,q=x::r/\0<x):=by
 induction n with
 | zero=>
  obtain rfl:m=0:=I;exact⟨[],jM,fun _=>rfl,fun h=>absurd h I⟩
 | succ n ih=>
  rcases aW n m with j6|hge
  ·obtain rfl:m=n+1:=I
   exact⟨[],jM,fun _=>rfl,fun h=>absurd h I⟩
  ·obtain⟨q,hq,E0,OY⟩:=ih hge fun j hj=>hx j I
   rw[mF,hq];refine⟨q++g n,by rw[av],fun h=>absurd h I,fun _=>?_⟩;rcases aW m n with h3|h3
   ·obtain⟨x,r,rfl,OG⟩:=OY h3
    exact⟨x,r++g n,rfl,OG⟩
   ·obtain rfl:m=n:=I
    rw[E0 rfl];exact hx m I
theorem SC.rows {g:Nat->List Int}{c:Nat->Int}{n:Nat}(h:∀j,j<n->j<n'->SC (g j) (g' j) (c j))(h1:∀j,j<n->∃x r,g j=x::r/\0<x)(h2:∀j,j<n'->∃x r,g' j=x::r/\0<x):
  SC ((List.range n).flatMap g++[0]) ((List.range n').flatMap g'++[0]) (let d:=firstBad ((List.range (min n n')).map c);if d=0 then oI n n' else d):=by
 obtain⟨q,hq,E0,OY⟩:=Jp g n (min n n') (Nat.min_le_left _ _) h1;obtain⟨q',hq',ala,atE⟩:=Jp g' n' (min n n') (Nat.min_le_right _ _) h2;rw[hq,hq',av,av];refine(SC.flat (min n n') fun j hj=>h j I I).app ?_;unfold oI;rcases eU n n' with h3|h3|h3
 ·have e:min n n'=n:=I
  obtain⟨x,r,rfl,OG⟩:=atE I;rw[E0 e,ag I];exact SC.lt OG _ _
 ·subst h3
  rw[E0 I,ala I,aa I,aa I];exact SC.refl _
 ·have e:min n n'=n':=I
  obtain⟨x,r,rfl,OG⟩:=OY I;rw[ala e,aa I,ag I];exact SC.gt OG _ _
theorem SC.short {a b:Int}(ha:0<=a/\a<4294967296)(hb:0<=b/\b<4294967296): SC (Ce a) (Ce b) (oI a b):=by
 have h:=(SC.byte (a / 16777216 % 256) (b / 16777216 % 256)).app ((SC.byte (a / 65536 % 256) (b / 65536 % 256)).app ((SC.byte (a / 256 % 256) (b / 256 % 256)).app (SC.byte (a % 256) (b % 256))));have e:(if oI (a / 16777216 % 256) (b / 16777216 % 256)=0 then if oI (a / 65536 % 256) (b / 65536 % 256)=0 then if oI (a / 256 % 256) (b / 256 % 256)=0 then oI (a % 256) (b % 256) else oI (a / 256 % 256) (b / 256 % 256) else oI (a / 65536 % 256) (b / 65536 % 256) else oI (a / 16777216 % 256) (b / 16777216 % 256))=oI a b:=by
  have z:∀x y:Int,oI x y=0 ↔ x=y:=fun x y=>by unfold oI;split<;>(try split)<;>constructor<;>intro h<;>omega
  simp only[z];unfold oI
  by_cases h1:a / 16777216 % 256=b / 16777216 % 256
  ·rw[ag h1]
   by_cases h2:a / 65536 % 256=b / 65536 % 256
   ·rw[ag h2]
    by_cases h3:a / 256 % 256=b / 256 % 256
    ·rw[ag h3]
     by_cases h4:a<b
     ·rw[ag h4,ag I]
     ·rw[aa h4]
      by_cases h5:b<a
      ·rw[ag h5,aa I,ag I]
      ·rw[aa h5,aa I,aa I]
    ·rw[aa h3]
     by_cases h4:a<b
     ·rw[ag h4,ag I]
     ·rw[aa h4,ag (I:b<a),aa I,ag I]
   ·rw[aa h2]
    by_cases h4:a<b
    ·rw[ag h4,ag I]
    ·rw[aa h4,ag (I:b<a),aa I,ag I]
  ·rw[aa h1]
   by_cases h4:a<b
   ·rw[ag h4,ag I]
   ·rw[aa h4,ag (I:b<a),aa I,ag I]
 rw[e]at h;exact h
theorem SC.big {a b:Int}(ha:0<=a/\a<18446744073709551616)(hb:0<=b/\b<18446744073709551616): SC (GX a) (GX b) (oI a b):=by
 have h:=(SC.short (a:=a / 4294967296) (b:=b / 4294967296) I I).app (SC.short (a:=a % 4294967296) (b:=b % 4294967296) I I);have e:(if oI (a / 4294967296) (b / 4294967296)=0 then oI (a % 4294967296) (b % 4294967296) else oI (a / 4294967296) (b / 4294967296))=oI a b:=by
  have z:∀x y:Int,oI x y=0 ↔ x=y:=fun x y=>by unfold oI;split<;>(try split)<;>constructor<;>intro h<;>omega
  simp only[z];unfold oI
  by_cases h1:a / 4294967296=b / 4294967296
  ·rw[ag h1]
   by_cases h4:a<b
   ·rw[ag h4,ag I]
   ·rw[aa h4]
    by_cases h5:b<a
    ·rw[ag h5,aa I,ag I]
    ·rw[aa h5,aa I,aa I]
  ·rw[aa h1]
   by_cases h4:a<b
   ·rw[ag h4,ag I]
   ·rw[aa h4,ag (I:b<a),aa I,ag I]
 rw[e]at h;exact h
end K
namespace K
theorem wL {x y:Int}: oI x y=0 ↔ x=y:=by unfold oI;split<;>(try split)<;>constructor<;>intro h<;>omega
theorem wV {x y:Int}(h:x<y): oI x y = -1:=ag h
theorem wW {x y:Int}(h:y<x): oI x y=1:=by unfold oI;rw[aa I,ag h]
theorem SC.zero {k:List Int}{c:Int}(h:SC k l c): cmpL k l=c:=by
 have:=h [] [];rw[aP,aP]at this;rw[this]
 split
 ·next e=>rw[e];rfl
 ·rfl
theorem SC.tail {x:Int}{k:List Int}{c:Int}(h:SC (x::k) (x::l) c): SC k l c:=fun r s=>by
 have:=h r s;rw[bC,bC,cmpL,aa I,aa I]at this;exact this
theorem SC.flip: ∀ {k l:List Int}{c:Int},SC k l c->SC (rN k) (rN l) (-c)
 | [],[],c,h=>by
  have:=h.zero;obtain rfl:c=0:=this.symm;exact SC.nil
 | [],b::l,c,h=>by
  have e1:cmpL [b - 1] (b::(l++[])) = -1:=by rw[cmpL,ag (I:b - 1<b)]
  have e2:cmpL [b+1] (b::(l++[]))=1:=by rw[cmpL,aa (I:¬b+1<b),ag (I:b<b+1)]
  have h1:-1=if c=0 then 1 else c:=e1.symm.trans (h [b - 1] [])
  have h2:1=if c=0 then 1 else c:=e2.symm.trans (h [b+1] [])
  rw[<-h1]at h2;cases h2
 | a::k,[],c,h=>by
  have e1:cmpL (a::(k++[])) [a - 1]=1:=by rw[cmpL,aa (I:¬a<a - 1),ag (I:a - 1<a)]
  have e2:cmpL (a::(k++[])) [a+1] = -1:=by rw[cmpL,ag (I:a<a+1)]
  have h1:1=if c=0 then -1 else c:=e1.symm.trans (h [] [a - 1])
  have h2:-1=if c=0 then -1 else c:=e2.symm.trans (h [] [a+1])
  rw[<-h1]at h2;cases h2
 | a::k,b::l,c,h=>by
  have hz:=h.zero
  show SC ((255 - a)::rN k) ((255 - b)::rN l) (-c)
  unfold cmpL at hz
  by_cases h1:a<b
  ·rw[ag h1]at hz;subst hz;exact SC.gt I _ _
  ·rw[aa h1]at hz
   by_cases h2:b<a
   ·rw[ag h2]at hz;subst hz;exact SC.lt I _ _
   ·obtain rfl:a=b:=I
    exact SC.cons _ h.tail.flip
def fv:Nat->List Nat->Nat
 | _,[]=>0
 | 0,_::_=>0
 | W+1,d::D=>d*10 ^ W+fv W D
def nt:List Nat->Prop
 | []=>True
 | d::D=>(D=[]->d≠0)/\nt D
theorem Q6:∀ {W:Nat}{D:List Nat},(∀d∈D,d<10)->fv W D<10 ^ W
 | W,[],_=>by unfold fv;exact gL jM
 | 0,_::_,_=>by simp[fv]
 | W+1,d::D,h=>by
  have h1:=Q6 (W:=W) (D:=D) fun x hx=>h x (aD _ hx);have h2:=h d jM;rw[fv,dx];have:d*10 ^ W<=9*10 ^ W:=cK _ I;omega
theorem Rx:∀ {W:Nat}{D:List Nat},nt D->D.length<=W->D≠[]->0<fv W D
 | W,[],_,_,h=>absurd rfl h
 | 0,_::_,_,h,_=>by simp at h
 | W+1,d::D,h,hl,_=>by
  rw[fv]
  by_cases e:D=[]
  ·have:=h.1 e
   have:0<10 ^ W:=gL jM;have:0<d*10 ^ W:=Nat.mul_pos I this;omega
  ·have:=Rx (W:=W) h.2 (by simpa using hl) e
   omega
theorem GL:∀ {W:Nat}(m:Nat) {D:List Nat},D.length<=W->fv (W+m) D=fv W D*10 ^ m
 | W,m,[],_=>by simp[fv]
 | 0,_,_::_,h=>by simp at h
 | W+1,m,d::D,h=>by
  have:=GL (W:=W) m (D:=D) (by simpa using h);rw[show W+1+m=(W+m)+1 by omega,fv,fv,this,ju,iR,jg]
theorem SC.digits: ∀(W:Nat) (D E:List Nat),nt D->nt E->(∀d∈D,d<10)->(∀d∈E,d<10)->D.length<=W->E.length<=W->
  SC (D.map (fun d:Nat=>(d:Int)+1)++[0]) (E.map (fun d:Nat=>(d:Int)+1)++[0]) (oI (fv W D) (fv W E))
 | _,[],[],_,_,_,_,_,_=>by
  rw[wL.2 (by simp[fv])];exact SC.refl _
 | W,[],e::E,_,h2,_,_,_,h3=>by
  have:=Rx h2 h3 jM;rw[wV (by simp[fv];omega)];exact SC.lt (show(0:Int)<(e:Int)+1 by omega) _ _
 | W,d::D,[],h1,_,_,_,h3,_=>by
  have:=Rx h1 h3 jM;rw[wW (by simp[fv];omega)];exact SC.gt (show(0:Int)<(d:Int)+1 by omega) _ _
 | 0,_::_,_::_,_,_,_,_,h,_=>by simp at h
 | W+1,d::D,e::E,h1,h2,h3,h4,h5,h6=>by
  have l1:=Q6 (W:=W) (D:=D) fun x hx=>h3 x (aD _ hx);have l2:=Q6 (W:=W) (D:=E) fun x hx=>h4 x (aD _ hx);rw[aY,aY,bC,bC,fv,fv];rcases eU d e with h|h|h
  ·have:(d+1)*10 ^ W<=e*10 ^ W:=cK _ h
   rw[iR]at this;rw[wV I];exact SC.lt (show(d:Int)+1<(e:Int)+1 by omega) _ _
  ·subst h
   have ih:=SC.digits W D E h1.2 h2.2 (fun x hx=>h3 x (aD _ hx)) (fun x hx=>h4 x (aD _ hx)) (by simpa using h5) (by simpa using h6);have:oI (d*10 ^ W+fv W D:Nat) (d*10 ^ W+fv W E:Nat)=oI (fv W D) (fv W E):=by
    unfold oI
    by_cases h7:fv W D<fv W E
    ·rw[ag (show((d*10 ^ W+fv W D:Nat):Int)<(d*10 ^ W+fv W E:Nat) by omega),ag (show((fv W D:Nat):Int)<(fv W E:Nat) by omega)]
    ·rw[aa (show ¬((d*10 ^ W+fv W D:Nat):Int)<(d*10 ^ W+fv W E:Nat) by omega),aa (show ¬((fv W D:Nat):Int)<(fv W E:Nat) by omega)]
     by_cases h8:fv W E<fv W D
     ·rw[ag (show((d*10 ^ W+fv W E:Nat):Int)<(d*10 ^ W+fv W D:Nat) by omega),ag (show((fv W E:Nat):Int)<(fv W D:Nat) by omega)]
     ·rw[aa (show ¬((d*10 ^ W+fv W E:Nat):Int)<(d*10 ^ W+fv W D:Nat) by omega),aa (show ¬((fv W E:Nat):Int)<(fv W D:Nat) by omega)]
   rw[this];exact SC.cons _ ih
  ·have:(e+1)*10 ^ W<=d*10 ^ W:=cK _ h
   rw[iR]at this;rw[wW I];exact SC.gt (show(e:Int)+1<(d:Int)+1 by omega) _ _
def lv:List Nat->Nat
 | []=>0
 | a::r=>a+10*lv r
theorem Vs:∀(X:List Nat) (a:Nat),fv (X.length+1) (X++[a])=10*fv X.length X+a
 | [],a=>by simp[fv]
 | d::D,a=>by
  rw[ak,bC,fv,Vs D a,fv,dx,jv];have:d*(10 ^ D.length*10)=10*(d*10 ^ D.length):=by rw[<-jg,Nat.mul_comm]
  omega
theorem Q7:∀(A:List Nat),fv A.length A.reverse=lv A
 | []=>rfl
 | a::r=>by
  have:=Vs r.reverse a;rw[fq]at this;rw[ia,ak,this,Q7 r,lv];omega
theorem Sf:∀(A:List Nat),fv A.length (nzs A).reverse=lv A
 | []=>rfl
 | a::r=>by
  by_cases h:a=0
  ·have h1:=GL (W:=r.length) 1 (D:=(nzs r).reverse) (by rw[fq];exact Bi r)
   unfold nzs;rw[ag h,ak,h1,Sf r,lv];omega
  ·unfold nzs
   rw[aa h];exact Q7 _
theorem U1:∀(X:List Nat) {a:Nat},a≠0->nt (X++[a])
 | [],a,h=>⟨fun _=>h,trivial⟩
 | x::X,a,h=>⟨fun e=>by simp at e,U1 X h⟩
theorem Rn:∀(A:List Nat),nt (nzs A).reverse
 | []=>trivial
 | a::r=>by
  unfold nzs
  by_cases h:a=0
  ·rw[ag h];exact Rn r
  ·rw[aa h,ia];exact U1 _ h
theorem Mu:∀(f u:Nat),u<10 ^ f->lv (digsF f u)=u
 | 0,u,h=>by simp at h;simp[digsF,lv,h]
 | f+1,u,h=>by
  unfold digsF
  by_cases e:u=0
  ·rw[ag e];simp[lv,e]
  ·rw[aa e,lv,Mu f (u / 10) (by rw[dx]at h;omega)];omega
theorem F8:∀(f u:Nat),u≠0->u<10 ^ f->1<=(digsF f u).length/\10 ^ (digsF f u).length<=10*u
 | 0,u,h,h2=>by simp at h2;omega
 | f+1,u,h,h2=>by
  unfold digsF;rw[aa h,ak,dx]
  by_cases e:u / 10=0
  ·have:(digsF f (u / 10)).length=0:=by rw[e];cases f<;>simp[digsF]
   rw[this];simp;omega
  ·have:=F8 f (u / 10) e (by rw[dx]at h2;omega)
   omega
theorem IW (h:u<10 ^ 20): lv (mV u)=u:=Mu 20 u h
theorem MZ (h:u<10 ^ 20): u<10 ^ (mV u).length:=by
 have h1:=Q6 (W:=(mV u).length) (D:=(mV u).reverse) fun d hd=>yp 20 u d (fW.1 hd);rw[Q7,IW h]at h1;exact h1
theorem SC.pos {u' s s':Nat}(hu0:u≠0)(hu1:u'≠0)(hu:u<10 ^ 20)(J7:u'<10 ^ 20)(hs:s<=18)(RE:s'<=18):
  SC (zM (mV u) s) (zM (mV u') s') (oI (u*10 ^ s':Nat) (u'*10 ^ s:Nat)):=by
 have hL:(mV u).length<=20:=uu 20 u;have hL':(mV u').length<=20:=uu 20 u';have lo:=F8 20 u hu0 hu;have lo':=F8 20 u' hu1 J7;have hi:=MZ hu;have Fc:=MZ J7;have v:=Sf (mV u);have v':=Sf (mV u');rw[IW hu]at v;rw[IW J7]at v';have nl:((nzs (mV u)).reverse).length<=(mV u).length:=by rw[fq];exact Bi _
 have nl':((nzs (mV u')).reverse).length<=(mV u').length:=by rw[fq];exact Bi _
 have r:∀d∈(nzs (mV u)).reverse,d<10:=fun d hd=>yp 20 u d (MM _ d (fW.1 hd));have r':∀d∈(nzs (mV u')).reverse,d<10:=fun d hd=>yp 20 u' d (MM _ d (fW.1 hd));unfold zM JG;change 1<=(mV u).length/\_ at lo;change 1<=(mV u').length/\_ at lo';replace lo:1<=(mV u).length/\10 ^ (mV u).length<=10*u:=lo;replace lo':1<=(mV u').length/\10 ^ (mV u').length<=10*u':=lo';generalize (mV u).length=L at *;generalize (mV u').length=L' at *;have apart:∀ {x y L L' s s':Nat},L+s'<L'+s->x<10 ^ L->10 ^ L'<=10*y->x*10 ^ s'<y*10 ^ s:=by
  intro x y L L' s s' h h1 h2;have h3:(x+1)*10 ^ s'<=10 ^ L*10 ^ s':=cK _ h1;have h4:10 ^ L'*10 ^ s<=10*y*10 ^ s:=cK _ h2;rw[<-ju,iR]at h3;rw[<-ju,jg]at h4;have h5:10 ^ (L+s'+1)<=10 ^ (L'+s):=du lZ h;rw[dx]at h5;have h6:0<10 ^ s':=gL jM;omega
 rcases eU (L+s') (L'+s) with h|h|h
 ·have:=apart h hi lo'.2
  rw[wV I];exact SC.lt I _ _
 ·have e:((L:Int) - s+192) % 256=((L':Int) - s'+192) % 256:=I
  have e2:u*10 ^ s'=fv (L+s') (nzs (mV u)).reverse:=by rw[GL s' nl,v]
  have e3:u'*10 ^ s=fv (L'+s) (nzs (mV u')).reverse:=by rw[GL s nl',v']
  rw[e,e2,e3,h];exact SC.cons _ (SC.digits (L'+s) _ _ (Rn _) (Rn _) r r' I I)
 ·have:=apart h Fc lo.2
  rw[wW I];exact SC.gt I _ _
def LH (n s n' s':Int):Int :=
 if oI n 0=oI n' 0 then oI (n.natAbs*10 ^ s'.toNat:Nat) (n'.natAbs*10 ^ s.toNat:Nat)*oI n 0 else oI (oI n 0) (oI n' 0)
theorem tc (u:Nat)(s:Int): zM (mV u) s=(((mV u).length:Int) - s+192) % 256::(JG (mV u)++[0]):=rfl
theorem zT (x:Int)(l:List Int): rN (x::l)=(255 - x)::rN l:=rfl
theorem SC.number {n s n' s':Int}(hn:n.natAbs<10 ^ 20)(OJ:n'.natAbs<10 ^ 20)(hs:0<=s/\s<=18)(RE:0<=s'/\s'<=18): SC (zK n s) (zK n' s') (LH n s n' s'):=by
 obtain⟨a,rfl⟩:=iz hs.1;obtain⟨a',rfl⟩:=iz RE.1;have hL:(mV n.natAbs).length<=20:=uu 20 _;have hL':(mV n'.natAbs).length<=20:=uu 20 _;unfold LH zK;rcases eV n 0 with h|h|h
 ·rw[aa (I:¬n=0),ag h,wV h]
  rcases eV n' 0 with h'|h'|h'
  ·rw[aa (I:¬n'=0),ag h',wV h',ag rfl,Int.mul_neg,Int.mul_one]
   exact(SC.pos I I hn OJ I I).flip
  ·rw[ag h',wL.2 h',aa lZ,tc,zT]
   exact SC.lt I _ _
  ·rw[aa (I:¬n'=0),aa (I:¬n'<0),wW h',aa lZ,tc,tc,zT]
   exact SC.lt I _ _
 ·rw[ag h,wL.2 h]
  rcases eV n' 0 with h'|h'|h'
  ·rw[aa (I:¬n'=0),ag h',wV h',aa lZ,tc,zT]
   exact SC.gt I _ _
  ·rw[ag h',wL.2 h',ag rfl,jr]
   exact SC.refl _
  ·rw[aa (I:¬n'=0),aa (I:¬n'<0),wW h',aa lZ,tc]
   exact SC.lt I _ _
 ·rw[aa (I:¬n=0),aa (I:¬n<0),wW h]
  rcases eV n' 0 with h'|h'|h'
  ·rw[aa (I:¬n'=0),ag h',wV h',aa lZ,tc,tc,zT]
   exact SC.gt I _ _
  ·rw[ag h',wL.2 h',aa lZ,tc]
   exact SC.gt I _ _
  ·rw[aa (I:¬n'=0),aa (I:¬n'<0),wW h',ag rfl,Int.mul_one]
   exact SC.pos I I hn OJ I I
open Op (bytesLess)
def sU (k:Int):Int:=if k=4 then 3 else k
def NW (o:V->V->Int)(st:Bool)(a b:V)(j:Nat):Int :=
 if(if st then cmpB (a.names.getD j kZ).toList (b.names.getD j kZ).toList else 0)=0 then o (a.kids.getD j mM) (b.kids.getD j mM) else if st then cmpB (a.names.getD j kZ).toList (b.names.getD j kZ).toList else 0
def Lx (c:Nat->Int)(n n':Nat):Int:=if firstBad ((List.range (min n n')).map c)=0 then oI n n' else firstBad ((List.range (min n n')).map c)
def ordV:Nat->V->V->Int
 | 0,_,_=>0
 | m+1,a,b=>
  if sU a.k=sU b.k then
   if a.k=2\/a.k=5 then oI a.n b.n else if a.k=3\/a.k=4 then LH a.n a.s b.n b.s else if a.k=6\/a.k=7 then cmpB a.t.toList b.t.toList
   else Lx (NW (ordV m) (decide (a.k=9)) a b) a.kids.length b.kids.length
  else oI (sU a.k) (sU b.k)
def Ran:Nat->V->Prop
 | 0,_=>False
 | f+1,v=>v.n.natAbs<10 ^ 20/\∀x∈v.kids,Ran f x
theorem yq {l:List V}(h:j<l.length): l.getD j mM∈l:=by
 rw[ah,ai h];exact aH h
theorem BG {v:V}(h:chk m v=0): ∃x r,keyV m v=x::r/\0<x:=by
 cases m with
 | zero=>cases h
 | succ m=>
  refine⟨_,_,rfl,?_⟩;have:=(rz (qe h)).1;unfold oy;split
  ·omega
  ·split<;>omega
theorem Jw {names:List ByteArray}{kids:List V}(h:chk m (kids.getD j mM)=0): ∃x r,oT (keyV m) st names kids j=x::r/\0<x:=by
 cases st with
 | true=>exact⟨1,_,rfl,by decide⟩
 | false=>exact BG h
theorem SC.piece {a b:V}(h:SC (keyV m (a.kids.getD j mM)) (keyV m (b.kids.getD j mM)) (ordV m (a.kids.getD j mM) (b.kids.getD j mM))):
  SC (oT (keyV m) st a.names a.kids j) (oT (keyV m) st b.names b.kids j) (NW (ordV m) st a b j):=by
 cases st with
 | true=>exact(SC.cons 1 (SC.text _ _)).app h
 | false=>exact h
theorem SC.key: ∀(m:Nat) {f f':Nat}{a b:V},chk m a=0->chk m b=0->Ran f a->Ran f' b->SC (keyV m a) (keyV m b) (ordV m a b)
 | 0,_,_,_,_,h,_,_,_=>by cases h
 | _+1,0,_,_,_,_,_,h,_=>h.elim
 | _+1,_+1,0,_,_,_,_,_,h=>h.elim
 | m+1,f+1,f'+1,a,b,ha,hb,ra,rb=>by
  obtain⟨a1,a2,a3,a4,a5,a6,a7,a8⟩:=rz (qe ha);obtain⟨b1,b2,b3,b4,b5,b6,b7,b8⟩:=rz (qe hb);have xL:∀j,j<a.kids.length->chk m (a.kids.getD j mM)=0:=fun j hj=>qB ha hj;have qp:∀j,j<b.kids.length->chk m (b.kids.getD j mM)=0:=fun j hj=>qB hb hj;have hp:∀st,SC ((List.range a.kids.length).flatMap (oT (keyV m) st a.names a.kids)++[0]) ((List.range b.kids.length).flatMap (oT (keyV m) st b.names b.kids)++[0]) (Lx (NW (ordV m) st a b) a.kids.length b.kids.length):=fun st=>
   SC.rows (fun j h1 h2=>SC.piece (SC.key m (xL j h1) (qp j h2) (ra.2 _ (yq h1)) (rb.2 _ (yq h2)))) (fun j hj=>Jw (xL j hj)) (fun j hj=>Jw (qp j hj))
  unfold keyV ordV
  by_cases hc:sU a.k=sU b.k
  ·rw[ag hc]
   have nL:oy a.k=oy b.k:=by
    unfold sU at hc;unfold oy
    by_cases h1:a.k=4
    ·rw[ag h1]at hc
     by_cases h2:b.k=4
     ·rw[h1,h2]
     ·rw[aa h2]at hc;rw[h1,<-hc];rfl
    ·rw[aa h1]at hc
     by_cases h2:b.k=4
     ·rw[ag h2]at hc;rw[h2,hc];rfl
     ·rw[aa h2]at hc;rw[hc]
   have hk:a.k=b.k\/((a.k=3\/a.k=4)/\(b.k=3\/b.k=4)):=by
    unfold sU at hc
    split at hc<;>split at hc<;>omega
   rw[nL];apply SC.cons _
   by_cases k2:a.k=2
   ·rw[ag k2,ag (I:b.k=2),ag (Or.inl k2)]
    exact SC.byte _ _
   rw[aa k2,aa (I:¬b.k=2)]
   by_cases k3:a.k=3\/a.k=4
   ·rw[ag k3,ag (I:b.k=3\/b.k=4),aa (show ¬(a.k=2\/a.k=5) by omega),ag k3]
    exact SC.number ra.1 rb.1 I I
   rw[aa k3,aa (show ¬(b.k=3\/b.k=4) by omega)]
   by_cases k5:a.k=5
   ·rw[ag k5,ag (I:b.k=5),ag (Or.inr k5)]
    exact SC.big I I
   rw[aa k5,aa (I:¬b.k=5),aa (show ¬(a.k=2\/a.k=5) by omega),aa k3]
   by_cases k6:a.k=6\/a.k=7
   ·rw[ag k6,ag (I:b.k=6\/b.k=7),ag k6]
    exact SC.text _ _
   rw[aa k6,aa (show ¬(b.k=6\/b.k=7) by omega),aa k6]
   by_cases k8:a.k=8\/a.k=9
   ·rw[ag k8,ag (I:b.k=8\/b.k=9),show b.k=a.k by omega]
    exact hp _
   ·rw[aa k8,aa (show ¬(b.k=8\/b.k=9) by omega)]
    have l1:=shp_one (qe ha) I;have l2:=shp_one (qe hb) I;unfold Lx;rw[l1,l2];exact SC.nil
  ·rw[aa hc]
   have j6:∀x y:Int,1<=x/\x<=9->1<=y/\y<=9->sU x<sU y->oy x<oy y:=by
    intro x y hx hy h;unfold sU at h;unfold oy
    split at h<;>split at h<;>split<;>(try split)<;>(try split)<;>omega
   rcases eV (sU a.k) (sU b.k) with h|h|h
   ·rw[wV h];exact SC.lt (j6 _ _ a1 b1 h) _ _
   ·exact absurd h hc
   ·rw[wW h];exact SC.gt (j6 _ _ b1 a1 h) _ _
where
 shp_one {v:V}(h:sP v=0) (e:v.k=1):v.kids.length=0:=by
  unfold sP at h
  by_cases h1:pS v=false
  ·rw[ag h1]at h;cases h
  ·have hf:pS v=true:=by simpa using h1
   unfold pS at hf;rw[ag e]at hf;simp only[m7,aF,aX]at hf;exact hf.1.2.2
theorem Cs:∀(s:List UInt8),∀c∈textP s,0<=c/\c<=255
 | [],c,h=>by simp[textP]at h
 | a::s,c,h=>by
  rw[textP]at h;have:=a.toNat_lt
  split at h
  ·rcases ax.1 h with rfl|h
   ·omega
   ·rcases ax.1 h with rfl|h
    ·omega
    ·exact Cs s c h
  ·rcases ax.1 h with rfl|h
   ·omega
   ·exact Cs s c h
theorem GB (s:List UInt8): ∀c∈rp s,0<=c/\c<=255:=by
 intro c h;unfold rp at h;rcases au.1 h with h|h
 ·exact Cs s c h
 ·simp at h;omega
theorem T3 (n s:Int): ∀c∈zK n s,0<=c/\c<=255:=by
 intro c h;unfold zK at h
 split at h
 ·simp at h;omega
 ·split at h
  ·unfold rN at h
   obtain⟨x,hx,rfl⟩:=bD.1 h;have:=DB _ _ x hx;omega
  ·exact DB _ _ c h
theorem TQ (n:Int): ∀c∈GX n,0<=c/\c<=255:=by
 intro c h;simp[GX,Ce]at h
 omega
theorem JQ:∀(m:Nat) {v:V},chk m v=0->∀c∈keyV m v,0<=c/\c<=255
 | 0,_,h,_,_=>by cases h
 | m+1,v,h,c,hc=>by
  obtain⟨a1,a2,a3,a4,a5,a6,a7,a8⟩:=rz (qe h);unfold keyV at hc;rcases ax.1 hc with rfl|hc
  ·unfold oy;split
   ·omega
   ·split<;>omega
  ·split at hc
   ·simp at hc;omega
   ·split at hc
    ·exact T3 _ _ c hc
    ·split at hc
     ·exact TQ _ c hc
     ·split at hc
      ·exact GB _ c hc
      ·split at hc
       ·rcases au.1 hc with hc|hc
        ·obtain⟨j,hj,hc⟩:=aG.1 hc
         have hj':=bX.1 hj;unfold oT at hc;rcases au.1 hc with hc|hc
         ·split at hc
          ·rcases ax.1 hc with rfl|hc
           ·omega
           ·exact GB _ c hc
          ·simp at hc
         ·exact JQ m (qB h hj') c hc
        ·simp at hc;omega
       ·simp at hc
theorem pQ {l:List V}(h:firstBad (l.map (chk 16))=0): ∀c∈nC 16 l,0<=c/\c<=255:=by
 intro c hc;obtain⟨x,hx,hc⟩:=aG.1 hc;exact JQ 16 (qi.1 h _ (bD.2 ⟨x,hx,rfl⟩)) c hc
theorem B_:∀ {k l:List Int},(∀c∈k,0<=c/\c<=255)->(∀c∈l,0<=c/\c<=255)->cmpB (k.map fun n=>UInt8.ofNat n.toNat) (l.map fun n=>UInt8.ofNat n.toNat)=cmpL k l
 | [],[],_,_=>rfl
 | [],_::_,_,_=>rfl
 | _::_,[],_,_=>rfl
 | a::k,b::l,h,h'=>by
  have ha:=h a jM;have hb:=h' b jM;have ih:=B_ (k:=k) (l:=l) (fun c hc=>h c (aD _ hc)) (fun c hc=>h' c (aD _ hc));have lt:∀x y:Int,0<=x/\x<=255->0<=y/\y<=255->(UInt8.ofNat x.toNat<UInt8.ofNat y.toNat ↔ x<y):=by
   intro x y hx hy;rw[bO,UInt8.toNat_ofNat',UInt8.toNat_ofNat'];omega
  rw[aY,aY,cmpB,cmpL,ih];simp only[lt a b ha hb,lt b a hb ha]
end K
namespace Ord
open Go.Op
def strip:List UInt8->List UInt8
 | []=>[]
 | a::r=>match strip r with
  | []=>if a=255 then[] else[a]
  | b::q=>a::b::q
def Aa:List UInt8->List UInt8
 | []=>[]
 | [a]=>[a+1]
 | a::b::r=>a::Aa (b::r)
theorem rL (a:UInt8)(r:List UInt8):strip (a::r)=match strip r with | []=>if a=255 then[] else[a]|b::q=>a::b::q:=rfl
theorem FT:∀ {s:List UInt8},strip s=[]->∀x∈s,x=255
 | [],_,x,hx=>(a_ hx).elim
 | a::r,h,x,hx=>by
  rw[rL]at h;cases hr:strip r with
  | nil=>
   rw[hr]at h;simp only at h;have ha:a=255:=by
    by_cases ha:a=255
    ·exact ha
    ·rw[aa ha]at h;cases h
   rcases ax.1 hx with e|e
   ·rw[e];exact ha
   ·exact FT hr x e
  | cons b q=>rw[hr]at h;cases h
theorem N2 {a:UInt8}(ha:¬a=255): a<a+1:=by
 have h1:a.toNat<256:=a.toNat_lt;have h2:¬a.toNat=255:=fun e=>ha (df e);rw[bO,iL];simp
 omega
theorem BT:∀ {s:List UInt8}(m:List UInt8),strip s≠[]->bytesLess (s++m) (Aa (strip s))=true
 | [],m,h=>(h rfl).elim
 | a::r,m,h=>by
  rw[rL]at h ⊢;cases hr:strip r with
  | nil=>
   rw[hr]at h;simp only at h ⊢
   by_cases ha:a=255
   ·rw[ag ha]at h;exact(h rfl).elim
   ·rw[aa ha]
    show(decide (a<a+1) || _)=true
    rw[aw (N2 ha)];rfl
  | cons b q=>
   have ih:=BT (s:=r) m (by rw[hr];intro h;cases h);rw[hr]at ih
   show(decide (a<a) || (a == a && bytesLess (r++m) (Aa (b::q))))=true
   rw[ih];simp
theorem T_:∀ {s:List UInt8}(o:List UInt8),strip s=[]->bytesLess o s=true\/s <+: o
 | [],o,_=>.inr (List.nil_prefix)
 | a::r,o,h=>by
  have ha:=FT h a cL;have hr:strip r=[]:=by
   rw[rL]at h;cases hr:strip r with
   | nil=>rfl
   | cons b q=>rw[hr]at h;cases h
  cases o with
  | nil=>exact .inl rfl
  | cons c o=>
   by_cases hc:c=a
   ·subst hc
    rcases T_ o hr with h1|h1
    ·left
     show(decide (c<c) || (c == c && bytesLess o r))=true
     rw[h1];simp
    ·exact .inr (fT.2 ⟨rfl,h1⟩)
   ·left
    have j6:c<a:=by
     have h1:c.toNat<256:=c.toNat_lt;have h2:¬c.toNat=a.toNat:=fun e=>hc (df e);rw[bO];rw[ha]at h2 ⊢;simp at h2 ⊢
     omega
    show(decide (c<a) || _)=true
    rw[aw j6];rfl
theorem VR:∀ {s:List UInt8}(o:List UInt8),strip s≠[]->bytesLess o (Aa (strip s))=true->bytesLess o s=true\/s <+: o
 | [],o,h,_=>(h rfl).elim
 | a::r,o,h,hl=>by
  cases o with
  | nil=>exact .inl rfl
  | cons c o=>
   rw[rL]at h hl;cases hr:strip r with
   | nil=>
    rw[hr]at h hl;simp only at h hl
    by_cases ha:a=255
    ·rw[ag ha]at h;exact(h rfl).elim
    ·rw[aa ha]at hl
     have DS:(decide (c<a+1) || (c == a+1 && bytesLess o []))=true:=hl;have e0:bytesLess o []=false:=by cases o<;>rfl
     rw[e0]at DS;simp at DS
     by_cases hc:c=a
     ·subst hc
      rcases T_ o hr with h1|h1
      ·left
       show(decide (c<c) || (c == c && bytesLess o r))=true
       rw[h1];simp
      ·exact .inr (fT.2 ⟨rfl,h1⟩)
     ·left
      have j6:c<a:=by
       have h1:a.toNat<256:=a.toNat_lt;have h2:¬c.toNat=a.toNat:=fun e=>hc (df e);have h3:¬a.toNat=255:=fun e=>ha (df e);rw[bO]at DS ⊢;rw[iL]at DS;simp at DS
       omega
      show(decide (c<a) || _)=true
      rw[aw j6];rfl
   | cons b q=>
    rw[hr]at hl;have DS:(decide (c<a) || (c == a && bytesLess o (Aa (b::q))))=true:=hl
    by_cases j6:c<a
    ·left
     show(decide (c<a) || _)=true
     rw[aw j6];rfl
    ·rw[ar j6]at DS
     simp only[jh,aF,gM]at DS;obtain⟨hc,sL⟩:=DS;subst hc;rcases VR (s:=r) o (by rw[hr];intro h;cases h) (by rw[hr];exact sL) with h1|h1
     ·left
      show(decide (c<c) || (c == c && bytesLess o r))=true
      rw[h1];simp
     ·exact .inr (fT.2 ⟨rfl,h1⟩)
theorem Nz:∀(l:List UInt8),strip (l++[255])=strip l
 | []=>rfl
 | a::r=>by
  show strip (a::(r++[255]))=_
  rw[rL,rL,Nz r]
theorem Lc:∀(l:List UInt8) {c:UInt8},¬c=255->strip (l++[c])=l++[c]
 | [],c,h=>by show strip [c]=[c];rw[rL];show(if c=255 then[] else[c])=[c];rw[aa h]
 | a::r,c,h=>by
  show strip (a::(r++[c]))=_
  rw[rL,Lc r h];cases r<;>rfl
theorem Pj:∀(l:List UInt8) (c:UInt8),Aa (l++[c])=l++[c+1]
 | [],c=>rfl
 | [a],c=>rfl
 | a::b::r,c=>by
  show a::Aa ((b::r)++[c])=_
  rw[Pj (b::r) c]
  rfl
theorem U6 {t:ByteArray}{k:Nat}(hk:t.size=k+1): t.toList=(t.extract 0 k).toList++[t[k]'I]:=by
 rw[aJ,aJ];have h1:(t.extract 0 k).data=t.data.extract 0 k:=by simp[ByteArray.data_extract]
 rw[h1];have hs:t.data.toList.length=k+1:=by rw[bU];exact hk
 have h2:(t.data.extract 0 k).toList=t.data.toList.take k:=jM;rw[h2];have h3:t[k]'I=t.data.toList[k]'I:=by rfl
 rw[h3,List.take_append_getElem];exact(bg I).symm
theorem JW {t:ByteArray}(h:t.size=0): t.toList=[]:=by
 rw[aJ];exact bF (by rw[bU];exact h)
end Ord
namespace Tre
open Go.Op
abbrev Ky:=ByteArray
theorem KL:∀x:List UInt8,bytesLess x x=false
 | []=>rfl
 | a::r=>by
  unfold bytesLess;have:¬a<a:=by rw[bO];omega
  simp[this,KL r]
theorem IL:∀ {x y z:List UInt8},bytesLess x y=true->bytesLess y z=true->bytesLess x z=true
 | x,[],_,h,_=>by
  have e:bytesLess x []=false:=by cases x<;>rfl
  rw[e]at h;cases h
 | _,_::_,[],_,h=>by cases h
 | [],_::_,_::_,_,_=>rfl
 | a::x,b::y,c::z,h1,h2=>by
  unfold bytesLess at h1 h2 ⊢;simp only[fz,aF,aX,gM,bO]at h1 h2 ⊢;rcases h1 with h1|⟨rfl,h1⟩
  ·rcases h2 with h2|⟨rfl,h2⟩
   ·left;omega
   ·left;exact h1
  ·rcases h2 with h2|⟨rfl,h2⟩
   ·left;exact h2
   ·right;exact⟨rfl,IL h1 h2⟩
theorem Ru:∀ {x y:List UInt8},bytesLess x y=false->bytesLess y x=false->x=y
 | [],[],_,_=>rfl
 | [],_::_,h,_=>by cases h
 | _::_,[],_,h=>by cases h
 | a::x,b::y,h1,h2=>by
  unfold bytesLess at h1 h2;simp only[iS,iQ,fE,b_,bO]at h1 h2;have e:a=b:=UInt8.toNat_inj.1 I;subst e;have h3:bytesLess x y=false:=by rcases h1.2 with h|h;exact absurd rfl h;exact h
  have h4:bytesLess y x=false:=by rcases h2.2 with h|h;exact absurd rfl h;exact h
  rw[Ru h3 h4]
def kl (a b:Ky):Bool:=bytesLess a.toList b.toList
theorem LF {a b:Ky}(h:a.toList=b.toList): a=b:=by
 rw[aJ,aJ]at h;exact ji (Array.toList_inj.1 h)
theorem zY (a:Ky): kl a a=false:=KL _
theorem wE {a b c:Ky}(h1:kl a b=true)(h2:kl b c=true): kl a c=true:=IL h1 h2
theorem Ef {a b:Ky}(h1:kl a b=false)(h2:kl b a=false): a=b:=LF (Ru h1 h2)
theorem wN {a b:Ky}(h:kl a b=true): kl b a=false:=by
 cases h2:kl b a with
 | false=>rfl
 | true=>have:=wE h h2;rw[zY]at this;cases this
theorem Ck {a b:Ky}(h:kl a b=true): a≠b:=fun e=>by subst e;rw[zY]at h;cases h
theorem Ek {a b c:Ky}(h1:kl a b=true)(h2:kl c b=false): kl a c=true:=by
 cases h3:kl b c with
 | true=>exact wE h1 h3
 | false=>rw[<-Ef h3 h2];exact h1
theorem abk {a b c:Ky}(h1:kl b a=false)(h2:kl c b=false): kl c a=false:=by
 cases h3:kl c a with
 | false=>rfl
 | true=>rw[Ek h3 h1]at h2;cases h2
def zG (a b:Ky):Ky:=if kl b a then b else a
abbrev KV:=Ky×Int
def tL (l:List KV):Prop:=l.Pairwise fun a b=>kl a.1 b.1=true
def Lo (l:List KV)(k:Ky):Prop:=∀e∈l,kl e.1 k=true
def Hi (l:List KV)(k:Ky):Prop:=∀e∈l,kl k e.1=true
theorem Lo.app {a b:List KV}{k:Ky}: Lo (a++b) k ↔ Lo a k/\Lo b k:=by
 unfold Lo;simp only[au];exact⟨fun h=>⟨fun e he=>h e (.inl he),fun e he=>h e (.inr he)⟩,fun h e he=>he.elim (h.1 e) (h.2 e)⟩
theorem Hi.app {a b:List KV}{k:Ky}: Hi (a++b) k ↔ Hi a k/\Hi b k:=by
 unfold Hi;simp only[au];exact⟨fun h=>⟨fun e he=>h e (.inl he),fun e he=>h e (.inr he)⟩,fun h e he=>he.elim (h.1 e) (h.2 e)⟩
theorem Lo.nil {k:Ky}: Lo [] k:=fun _ h=>by cases h
theorem Hi.nil {k:Ky}: Hi [] k:=fun _ h=>by cases h
def getL (k:Ky):List KV->Option Int
 | []=>none
 | (a,m)::r=>if a=k then some m else getL k r
def mU (k:Ky)(n:Int):List KV->List KV
 | []=>[(k,n)]
 | (a,m)::r=>if kl a k then(a,m)::mU k n r else if a=k then(k,n)::r else(k,n)::(a,m)::r
def nP (k:Ky)(l:List KV):List KV:=l.filter fun p=>decide (p.1≠k)
theorem Nm {k:Ky}:∀ {a b:List KV},Lo a k->getL k (a++b)=getL k b
 | [],_,_=>rfl
 | (x,m)::a,b,h=>by
  have hx:=h (x,m) jM;simp only[bC,getL];rw[aa (Ck hx)];exact Nm fun e he=>h e (by simp[he])
theorem Ec {k:Ky}:∀ {a b:List KV},Hi b k->getL k (a++b)=getL k a
 | [],[],_=>rfl
 | [],(x,m)::b,h=>by
  have hx:=h (x,m) jM;simp only[aT,getL];rw[aa (fun e=>Ck hx e.symm)];have:=Ec (a:=[]) (b:=b) fun e he=>h e (by simp[he])
  simpa[getL] using this
 | (x,m)::a,b,h=>by
  simp only[bC,getL];rw[Ec h]
theorem Tu {k:Ky}{n:Int}:∀ {a b:List KV},Lo a k->mU k n (a++b)=a++mU k n b
 | [],_,_=>rfl
 | (x,m)::a,b,h=>by
  have hx:=h (x,m) jM;simp only[bC,mU];rw[ag hx,Tu fun e he=>h e (by simp[he])]
theorem Wk {k:Ky}{n:Int}:∀ {a b:List KV},Hi b k->mU k n (a++b)=mU k n a++b
 | [],[],_=>rfl
 | [],(x,m)::b,h=>by
  have hx:=h (x,m) jM;simp only[aT,mU];rw[aa (by rw[wN hx];exact dH),aa (fun e=>Ck hx e.symm)]
  rfl
 | (x,m)::a,b,h=>by
  simp only[bC,mU]
  split
  ·rw[Wk h];rfl
  ·split<;>rfl
theorem PH {k:Ky}{a b:List KV}: nP k (a++b)=nP k a++nP k b:=by unfold nP;rw[cm]
theorem afQ {k:Ky}{a:List KV}(h:Lo a k): nP k a=a:=by
 unfold nP;rw[fu];intro e he;exact aw (Ck (h e he))
theorem LZ {k:Ky}{a:List KV}(h:Hi a k): nP k a=a:=by
 unfold nP;rw[fu];intro e he;exact aw (fun e2=>Ck (h e he) e2.symm)
theorem PB {k:Ky}{n:Int}:∀ {l:List KV}{e:KV},e∈mU k n l->e=(k,n)\/e∈l
 | [],e,h=>by simp[mU]at h;exact .inl h
 | (a,m)::r,e,h=>by
  unfold mU at h
  split at h
  ·rcases ax.1 h with h|h
   ·exact .inr (by simp[h])
   ·rcases PB h with h|h
    ·exact .inl h
    ·exact .inr (by simp[h])
  ·split at h
   ·rcases ax.1 h with h|h
    ·exact .inl h
    ·exact .inr (by simp[h])
   ·rcases ax.1 h with h|h
    ·exact .inl h
    ·exact .inr h
theorem IU {k:Ky}{n:Int}:∀ {l:List KV},tL l->tL (mU k n l)
 | [],_=>by simp[mU,tL]
 | (a,m)::r,h=>by
  obtain⟨h1,h2⟩:=bT.1 h;unfold mU
  split
  ·rename_i hk
   refine bT.2 ⟨fun e he=>?_,IU h2⟩;rcases PB he with rfl|he
   ·exact hk
   ·exact h1 e he
  ·rename_i hk
   split
   ·rename_i he
    subst he;exact bT.2 ⟨h1,h2⟩
   ·rename_i mE
    have xL:kl k a=true:=by
     cases hq:kl k a with
     | true=>rfl
     | false=>exact absurd (Ef (by simpa using hk) hq) mE
    refine bT.2 ⟨fun e he=>?_,h⟩;rcases ax.1 he with rfl|he
    ·exact xL
    ·exact wE xL (h1 e he)
theorem Po {k:Ky}{l:List KV}(h:tL l): tL (nP k l):=iU _ h
theorem sg {a b:List KV}: tL (a++b) ↔ tL a/\tL b/\∀x∈a,∀y∈b,kl x.1 y.1=true:=eZ
theorem Oh {k:Ky}:∀ {l:List KV},getL k l=none->∀e∈l,e.1≠k
 | [],_,_,h=>by cases h
 | (a,m)::r,h,e,he=>by
  unfold getL at h
  split at h
  ·cases h
  ·rename_i mE
   rcases ax.1 he with rfl|he
   ·exact mE
   ·exact Oh h e he
theorem X4 {k:Ky}{l:List KV}(h:getL k l=none): nP k l=l:=by
 unfold nP;rw[fu];intro e he;exact aw (Oh h e he)
def plc (k:Ky):List Ky->Nat
 | []=>0
 | a::r=>if kl a k then plc k r+1 else 0
theorem GF (k:Ky):∀l,plc k l<=l.length
 | []=>aj _
 | a::r=>by unfold plc;split<;>simp[GF k r]
theorem Rz {k:Ky}:∀ {l:List Ky}{i:Nat},i<=l.length->(∀j,j<i->kl (l.getD j ByteArray.empty) k=true)->(i<l.length->kl (l.getD i ByteArray.empty) k=false)->plc k l=i
 | [],i,h,_,_=>by simp at h;subst h;rfl
 | a::r,0,_,_,h2=>by
  have:=h2 jM;simp only[al]at this;unfold plc;rw[this];rfl
 | a::r,i+1,h,h1,h2=>by
  have h0:=h1 0 I;simp only[al]at h0;unfold plc;rw[ag h0,Rz (i:=i) (by simpa using h) (fun j hj=>by have:=h1 (j+1) I;simpa using this) (fun hi=>by have:=h2 (by simpa using hi);simpa using this)]
theorem Rk {k:Ky}{n:Int}:∀ {l:List KV},tL l->
  mU k n l=l.take (plc k (l.map Prod.fst))++(k,n)::l.drop (if(l.map Prod.fst)[plc k (l.map Prod.fst)]? = some k then plc k (l.map Prod.fst)+1 else plc k (l.map Prod.fst))
 | [],_=>by simp[mU,plc]
 | (a,m)::r,h=>by
  obtain⟨h1,h2⟩:=bT.1 h;simp only[aY];unfold mU plc
  split
  ·rw[Rk h2]
   simp only[cE,cA,bC]
   congr 2
   split<;>simp
  ·simp only[cj,aT,fF,cV]
   split<;>simp
theorem Dh {k:Ky}:∀ {l:List KV},tL l->getL k l=if(l.map Prod.fst)[plc k (l.map Prod.fst)]? = some k then(l[plc k (l.map Prod.fst)]?).map Prod.snd else none
 | [],_=>by simp[getL,plc]
 | (a,m)::r,h=>by
  obtain⟨h1,h2⟩:=bT.1 h;simp only[aY];unfold getL plc
  by_cases hk:kl a k=true
  ·rw[aa (Ck hk),ag hk,Dh h2]
   simp only[cA]
  ·rw[aa hk]
   simp only[fF,cV]
   by_cases e:a=k
   ·rw[ag e,ag e];rfl
   ·rw[aa e,aa e]
    have xL:kl k a=true:=by
     cases hq:kl k a with
     | true=>rfl
     | false=>exact absurd (Ef (by simpa using hk) hq) e
    have hh:Hi r k:=fun e he=>wE xL (h1 e he);have:=Ec (a:=[]) hh
    simpa[getL] using this
theorem RB {k:Ky}:∀ {l:List KV},tL l->nP k l=if(l.map Prod.fst)[plc k (l.map Prod.fst)]? = some k then l.take (plc k (l.map Prod.fst))++l.drop (plc k (l.map Prod.fst)+1) else l
 | [],_=>by simp[nP]
 | (a,m)::r,h=>by
  obtain⟨h1,h2⟩:=bT.1 h;simp only[aY];unfold plc
  by_cases hk:kl a k=true
  ·have hd:nP k ((a,m)::r)=(a,m)::nP k r:=by
    unfold nP;rw[cM,ag (aw (Ck hk))]
   rw[ag hk,hd,RB h2];simp only[cA]
   split<;>simp
  ·rw[aa hk]
   simp only[fF,cV,cj,aT]
   by_cases e:a=k
   ·subst e
    have hd:nP a ((a,m)::r)=nP a r:=by unfold nP;rw[List.filter_cons_of_neg jM]
    rw[ag rfl,hd,LZ (fun e he=>h1 e he)];simp
   ·rw[aa e]
    have xL:kl k a=true:=by
     cases hq:kl k a with
     | true=>rfl
     | false=>exact absurd (Ef (by simpa using hk) hq) e
    exact LZ (fun x hx=>by
     rcases ax.1 hx with rfl|hx
     ·exact xL
     ·exact wE xL (h1 x hx))
end Tre
namespace Ix
open K Tre
open Op (bytesLess)
def iV (n:Int):V:=.mk 3 n 0 kZ [] []
def tE (v:V)(n:Int):ByteArray:=strOfNums (nC 16 [v,iV n])
def sO (v:V):ByteArray:=strOfNums (nC 16 [v])
def Rg (v:V):Prop:=∃f,Ran f v
abbrev R6 (n:Int):Prop:=-9223372036854775808<=n/\n<=9223372036854775807
theorem vu (n:Int): chk 16 (iV n)=0:=by
 show(if sP (iV n)=0 then firstBad [] else sP (iV n))=0
 have:sP (iV n)=0:=rfl;rw[ag this]
 rfl
theorem afY {n:Int}(h:R6 n): Rg (iV n):=⟨1,by show n.natAbs<10 ^ 20;omega,fun _ h=>by cases h⟩
theorem aiv (n m:Int): ordV 16 (iV n) (iV m)=oI n m:=by
 show LH n 0 m 0=oI n m
 unfold LH;simp only[Int.toNat_zero,Nat.pow_zero,cJ];unfold oI
 by_cases a1:n<0<;>by_cases a2:0<n<;>by_cases b1:m<0<;>by_cases b2:0<m<;>simp only[a1,a2,b1,b2,fI,eY]<;>(repeat' split)<;>omega
theorem IZ (v u:V): nC 16 [v,u]=keyV 16 v++(keyV 16 u++[]):=rfl
theorem Gf (v:V): nC 16 [v]=keyV 16 v++[]:=rfl
section
variable {v u x y:V}{n m:Int}
theorem Jd (hv:chk 16 v=0)(hu:chk 16 u=0): firstBad ([v,u].map (chk 16))=0:=by
 show firstBad [chk 16 v,chk 16 u]=0
 rw[hv,hu]
 rfl
theorem WV (hv:chk 16 v=0): firstBad ([v].map (chk 16))=0:=by
 show firstBad [chk 16 v]=0
 rw[hv]
 rfl
theorem sc (hv:chk 16 v=0)(hu:chk 16 u=0)(rv:Rg v)(ru:Rg u): SC (keyV 16 v) (keyV 16 u) (ordV 16 v u):=by
 obtain⟨f,rv⟩:=rv;obtain⟨f',ru⟩:=ru;exact SC.key 16 hv hu rv ru
theorem abG (hv:chk 16 v=0)(rv:Rg v): ordV 16 v v=0:=by
 have h:=sc hv hv rv rv [] []
 by_cases h0:ordV 16 v v=0
 ·exact h0
 ·rw[aa h0,BQ]at h
  exact h.symm
theorem Pn {a b:List Int}(ha:∀c∈a,0<=c/\c<=255)(hb:∀c∈b,0<=c/\c<=255): bytesLess (strOfNums a).toList (strOfNums b).toList=decide (cmpL a b = -1):=by
 rw[FY,Lib.strOfNums_toList,Lib.strOfNums_toList];exact cN.2 (by rw[<-B_ ha hb];exact Iff.rfl)
theorem PJ:∀(a b:List Int),cmpL a b = -1\/cmpL a b=0\/cmpL a b=1
 | [],[]=>.inr (.inl rfl)
 | [],_::_=>.inl rfl
 | _::_,[]=>.inr (.inr rfl)
 | a::r,b::s=>by
  unfold cmpL
  split
  ·exact .inl rfl
  ·split
   ·exact .inr (.inr rfl)
   ·exact PJ r s
theorem Tc (hv:chk 16 v=0)(hu:chk 16 u=0)(rv:Rg v)(ru:Rg u): ordV 16 v u = -1\/ordV 16 v u=0\/ordV 16 v u=1:=by
 have h:=sc hv hu rv ru [] []
 by_cases h0:ordV 16 v u=0
 ·exact .inr (.inl h0)
 ·rw[aa h0]at h
  rw[<-h];exact PJ _ _
theorem aam (hv:chk 16 v=0)(hu:chk 16 u=0)(rv:Rg v)(ru:Rg u)(hn:R6 n)(hm:R6 m): cmpL (nC 16 [v,iV n]) (nC 16 [u,iV m])=if ordV 16 v u=0 then oI n m else ordV 16 v u:=by
 rw[IZ,IZ,sc hv hu rv ru]
 by_cases h0:ordV 16 v u=0
 ·rw[ag h0,ag h0,sc (vu n) (vu m) (afY hn) (afY hm),aiv]
  split
  ·rename_i h;rw[h];rfl
  ·rfl
 ·rw[aa h0,aa h0]
theorem afU {a b:Int}: oI a b = -1 ↔ a<b:=by unfold oI;split<;>(try split)<;>omega
theorem WI (hv:chk 16 v=0)(hu:chk 16 u=0)(rv:Rg v)(ru:Rg u)(hn:R6 n)(hm:R6 m): kl (tE v n) (tE u m)=decide (ordV 16 v u<0\/(ordV 16 v u=0/\n<m)):=by
 show bytesLess (tE v n).toList (tE u m).toList=_
 unfold tE;rw[Pn (pQ (Jd hv (vu n))) (pQ (Jd hu (vu m))),aam hv hu rv ru hn hm];apply cN.2;have hr:=Tc hv hu rv ru
 by_cases h0:ordV 16 v u=0
 ·rw[ag h0,afU];omega
 ·rw[aa h0];omega
theorem ab7: ∀ {a b:List Int},(∀c∈a,0<=c/\c<=255)->(∀c∈b,0<=c/\c<=255)->strOfNums a=strOfNums b->cmpL a b=0:=fun {a b} ha hb h=>by
 rw[<-B_ ha hb];have e:=congrArg (fun s:ByteArray=>s.data.toList) h;simp only[iW]at e;rw[e];have:=Ga (b.map fun x=>UInt8.ofNat x.toNat) (b.map fun x=>UInt8.ofNat x.toNat);omega
theorem aax (hv:chk 16 v=0)(hu:chk 16 u=0)(rv:Rg v)(ru:Rg u)(hn:R6 n)(hm:R6 m)(h:tE v n=tE u m): ordV 16 v u=0/\n=m:=by
 have:=ab7 (pQ (Jd hv (vu n))) (pQ (Jd hu (vu m))) h;rw[aam hv hu rv ru hn hm]at this
 by_cases h0:ordV 16 v u=0
 ·rw[ag h0]at this
  exact⟨h0,wL.1 this⟩
 ·rw[aa h0]at this
  exact(h0 this).elim
theorem ajE (hv:chk 16 v=0)(hx:chk 16 x=0)(rv:Rg v)(rx:Rg x): cmpL (nC 16 [v,iV n]) (nC 16 [x])=if ordV 16 v x=0 then 1 else ordV 16 v x:=by
 rw[IZ,Gf,sc hv hx rv rx]
 by_cases h0:ordV 16 v x=0
 ·rw[ag h0,ag h0]
  obtain⟨c,r,h,-⟩:=BG (vu n);rw[h]
  rfl
 ·rw[aa h0,aa h0]
theorem I6 (hv:chk 16 v=0)(hx:chk 16 x=0)(rv:Rg v)(rx:Rg x): kl (tE v n) (sO x)=decide (ordV 16 v x<0):=by
 show bytesLess (tE v n).toList (sO x).toList=_
 unfold tE sO;rw[Pn (pQ (Jd hv (vu n))) (pQ (WV hx)),ajE hv hx rv rx];apply cN.2;have hr:=Tc hv hx rv rx
 by_cases h0:ordV 16 v x=0
 ·rw[ag h0];omega
 ·rw[aa h0];omega
theorem K9 (hv:chk 16 v=0)(hu:chk 16 u=0)(rv:Rg v)(ru:Rg u)(h:ordV 16 v u=0): keyV 16 v=keyV 16 u:=(h ▸ sc hv hu rv ru:SC _ _ 0).eq0
theorem wA (a:List Int): (strOfNums a).toList=a.map fun n=>UInt8.ofNat n.toNat:=by rw[aJ,iW]
theorem abA {a b:List Int}(ha:∀c∈a,0<=c/\c<=255)(hb:∀c∈b,0<=c/\c<=255)(h:a.map (fun n:Int=>UInt8.ofNat n.toNat)=b.map fun n:Int=>UInt8.ofNat n.toNat): a=b:=by
 apply Gj;rw[<-B_ ha hb,h];have:=Ga (b.map fun x=>UInt8.ofNat x.toNat) (b.map fun x=>UInt8.ofNat x.toNat);omega
theorem aae (hv:chk 16 v=0)(hx:chk 16 x=0)(rv:Rg v)(rx:Rg x): ((sO x).toList <+: (tE v n).toList) ↔ ordV 16 v x=0:=by
 unfold sO tE;rw[wA,wA]
 constructor
 ·intro h
  have hg:=pQ (Jd hv (vu n));have aia:nC 16 [x] <+: nC 16 [v,iV n]:=by
   obtain⟨t,ht⟩:=h;have h1:nC 16 [x]=(nC 16 [v,iV n]).take (nC 16 [x]).length:=by
    apply abA (pQ (WV hx)) (fun c hc=>hg c (bP hc));rw[dp,<-ht,bZ jM,bg jM]
   rw[h1];exact List.take_prefix _ _
  obtain⟨t,ht⟩:=aia;have h2:=sc hv hx rv rx (keyV 16 (iV n)++[]) t;rw[<-IZ,<-ht,Gf,aP,BQ]at h2
  by_cases h0:ordV 16 v x=0
  ·exact h0
  ·rw[aa h0]at h2
   exact(h0 h2.symm).elim
 ·intro h0
  rw[IZ,Gf,K9 hv hx rv rx h0,aP];rw[aV];exact List.prefix_append _ _
end
end Ix
namespace Tre
def Tr:Nat->Type
 | 0=>Nat×List KV
 | d+1=>Nat×List (Tr d)
def tr (b:Nat)(es:List KV):Tr 0:=(b,es)
def lW {d:Nat}(b:Nat)(l:List (Tr d)):Tr (d+1):=(b,l)
def blk:(d:Nat)->Tr d->Nat
 | 0,t=>t.1
 | _+1,t=>t.1
def kN:(d:Nat)->Tr d->List KV
 | 0,t=>t.2
 | d+1,t=>List.flatMap (kN d) t.2
def mC:(d:Nat)->Tr d->List (Nat×List KV)
 | 0,t=>[(t.1,t.2)]
 | d+1,t=>List.flatMap (mC d) t.2
def kB:(d:Nat)->Tr d->List Nat
 | 0,t=>[t.1]
 | d+1,t=>t.1::List.flatMap (kB d) t.2
def j9:(d:Nat)->Tr d->Nat
 | 0,t=>List.length t.2
 | _+1,t=>List.length t.2
def Da:List KV->Ky
 | []=>ByteArray.empty
 | e::_=>e.1
def fk (d:Nat)(t:Tr d):Ky:=Da (kN d t)
structure En where
 key:Ky
 num:Int
 pw:Option Nat
def me (es:List KV):List En:=es.map fun e=>⟨e.1,e.2,none⟩
def kI (d:Nat)(s:Tr d):En:=⟨fk d s,0,some (blk d s)⟩
def jH:(d:Nat)->Tr d->List En
 | 0,t=>me t.2
 | d+1,t=>List.map (kI d) t.2
structure Nd where
 leaf:Bool
 es:List En
 next:Option Nat
abbrev St:=Nat->Option Nd
def ml (st:St)(b:Nat)(nd:Nd):St:=fun x=>if x=b then some nd else st x
theorem ny (st:St)(b:Nat)(nd:Nd): ml st b nd b=some nd:=by simp[ml]
theorem kD {st:St}{x:Nat}{nd:Nd}(h:x≠b): ml st b nd x=st x:=by simp[ml,h]
theorem Wu (st:St)(b:Nat)(x y:Nd): ml (ml st b x) b y=ml st b y:=by funext z;unfold ml;split<;>rfl
def sh:(d:Nat)->St->Tr d->Prop
 | 0,_,_=>True
 | d+1,st,t=>st t.1=some ⟨false,jH (d+1) t,none⟩/\∀s,List.Mem s t.2->sh d st s
def hd (l:List (Nat×List KV))(nx:Option Nat):Option Nat :=
 match l with
 | []=>nx
 | x::_=>some x.1
def Lnk (st:St):List (Nat×List KV)->Option Nat->Prop
 | [],_=>True
 | x::r,nx=>st x.1=some ⟨true,me x.2,hd r nx⟩/\Lnk st r nx
theorem qo (a b:List (Nat×List KV))(nx:Option Nat): hd (a++b) nx=hd a (hd b nx):=by cases a<;>rfl
theorem Lnk.app {st:St}: ∀ {a b:List (Nat×List KV)}{nx:Option Nat},Lnk st (a++b) nx ↔ Lnk st a (hd b nx)/\Lnk st b nx
 | [],b,nx=>by simp[Lnk]
 | x::a,b,nx=>by
  rw[bC];simp only[Lnk];rw[Lnk.app,qo,and_assoc]
theorem Lnk.congr {st st':St}: ∀ {a:List (Nat×List KV)}{nx:Option Nat},Lnk st a nx->(∀x∈a,st' x.1=st x.1)->Lnk st' a nx
 | [],_,_,_=>trivial
 | x::a,nx,h,hc=>⟨by rw[hc x jM];exact h.1,h.2.congr fun y hy=>hc y (by simp[hy])⟩
theorem r7: ∀(d:Nat) (t:Tr d),blk d t∈kB d t
 | 0,t=>by simp[blk,kB]
 | d+1,t=>by simp[blk,kB]
theorem rZ:∀(d:Nat) (t:Tr d) (x:Nat×List KV),x∈mC d t->x.1∈kB d t
 | 0,t,x,h=>by simp[mC]at h;subst h;simp[kB]
 | d+1,t,x,h=>by
  obtain⟨s,hs,hx⟩:=aG.1 h;exact aD _ (aG.2 ⟨s,hs,rZ d s x hx⟩)
theorem sh.congr: ∀ {d:Nat}{st st':St}{t:Tr d},sh d st t->(∀b∈kB d t,st' b=st b)->sh d st' t
 | 0,_,_,_,_,_=>trivial
 | d+1,st,st',t,h,hc=>⟨by rw[hc t.1 (by simp[kB])];exact h.1,fun s hs=>(h.2 s hs).congr fun b hb=>hc b (aD _ (aG.2 ⟨s,hs,hb⟩))⟩
theorem Tt:∀(d:Nat) (t:Tr d),kN d t=(mC d t).flatMap Prod.snd
 | 0,t=>by simp[kN,mC]
 | d+1,t=>by
  show List.flatMap (kN d) t.2=List.flatMap Prod.snd (List.flatMap (mC d) t.2)
  rw[List.flatMap_assoc];exact congrArg (fun f=>List.flatMap f t.2) (ep (Tt d))
def Mn:(d:Nat)->Tr d->Prop
 | 0,t=>List.length t.2<=8
 | d+1,t=>List.length t.2<=8/\∀s,List.Mem s t.2->4<=j9 d s/\Mn d s
theorem Mn.le: ∀ {d:Nat}{t:Tr d},Mn d t->j9 d t<=8
 | 0,_,h=>h
 | _+1,_,h=>h.1
theorem vm:∀ {d:Nat}{t:Tr d},Mn d t->1<=j9 d t->kN d t≠[]
 | 0,t,_,h=>by intro e;simp only[kN]at e;simp only[j9]at h;rw[e]at h;simp at h
 | d+1,t,hm,h=>by
  obtain⟨b,l⟩:=t;cases l with
  | nil=>simp[j9]at h
  | cons s l=>
   intro e;have h1:=hm.2 s (List.Mem.head _);have h2:=vm h1.2 I;simp only[kN,aq,eE]at e;exact h2 e.1
theorem yn: ∀(d:Nat) (t:Tr d),(jH d t).length=j9 d t
 | 0,t=>by simp[jH,j9,me]
 | d+1,t=>by simp[jH,j9]
theorem Wo:∀ {d:Nat}{t:Tr d},Mn d t->4<=j9 d t->3*(kB d t).length+1<=(kN d t).length
 | 0,t,_,h=>by simp only[j9]at h;simp only[kB,kN,eQ];omega
 | d+1,t,hm,h=>by
  obtain⟨b,l⟩:=t;have key:∀l:List (Tr d),(∀s,List.Mem s l->4<=j9 d s/\Mn d s)->3*(l.flatMap (kB d)).length+l.length<=(l.flatMap (kN d)).length:=by
   intro l
   induction l with
   | nil=>intro _;simp
   | cons s l ih=>
    intro hl;have h1:=ih fun x hx=>hl x (List.Mem.tail _ hx);have h2:=hl s (List.Mem.head _);have h3:=Wo h2.2 h2.1;simp only[aq,af,ak];omega
  have h2:=key l hm.2;simp only[j9]at h;simp only[kB,kN,ak];omega
def AU (k:Ky)(l:List Ky):Nat->Nat
 | 0=>0
 | i+1=>if kl k (l.getD (i+1) ByteArray.empty) then AU k l i else i+1
theorem Nu (k:Ky)(l:List Ky):∀n,AU k l n<=n/\(∀j,AU k l n<j->j<=n->kl k (l.getD j ByteArray.empty)=true)/\(AU k l n=0\/kl k (l.getD (AU k l n) ByteArray.empty)=false)
 | 0=>⟨aj _,fun j h1 h2=>by simp[AU]at h1;omega,.inl rfl⟩
 | i+1=>by
  obtain⟨h1,h2,h3⟩:=Nu k l i;unfold AU
  split
  ·rename_i hk
   refine⟨I,fun j hj ub=>?_,h3⟩;rcases aW i j with h|h
   ·obtain rfl:j=i+1:=I
    exact hk
   ·exact h2 j hj h
  ·rename_i hk
   exact⟨aj _,fun j hj ub=>by omega,.inr (by simpa using hk)⟩
theorem aey {l:List KV}(h:tL l): ∀e∈l,kl e.1 (Da l)=false:=by
 cases l with
 | nil=>intro e he;cases he
 | cons a r=>
  intro e he;rcases ax.1 he with rfl|he
  ·exact zY _
  ·exact wN ((bT.1 h).1 e he)
theorem II {l:List KV}(h:l≠[]): ∃e∈l,e.1=Da l:=by
 cases l with
 | nil=>exact absurd rfl h
 | cons a r=>exact⟨a,jM,rfl⟩
theorem GZ {k:Ky}{ts:List (Tr d)}(mE:∀s∈ts,kN d s≠[])(hs:tL (ts.flatMap (kN d)))(h0:ts≠[]):
  ∃l s r,ts=l++s::r/\l.length=AU k (ts.map (fk d)) (ts.length - 1)/\Lo (l.flatMap (kN d)) k/\Hi (r.flatMap (kN d)) k/\(l≠[]->kl k (fk d s)=false):=by
 obtain⟨h1,h2,h3⟩:=Nu k (ts.map (fk d)) (ts.length - 1);have hlen:=jd.2 h0;generalize AU k (ts.map (fk d)) (ts.length - 1)=i at h1 h2 h3;have hi:i<ts.length:=I;have EZ:ts=ts.take i++ts[i]::ts.drop (i+1):=by rw[<-bI hi,aO]
 have tH:∀j (hj:j<ts.length),(ts.map (fk d)).getD j ByteArray.empty=fk d ts[j]:=fun j hj=>by simp[hj]
 refine⟨ts.take i,ts[i],ts.drop (i+1),EZ,by rw[aC];omega,?_,?_,?_⟩
 ·rw[EZ]at hs
  simp only[an,aq]at hs;intro e he;rcases h3 with rfl|h3
  ·simp at he
  ·obtain⟨q,hq,hqk⟩:=II (mE ts[i] (aH hi))
   have:=(sg.1 hs).2.2 e he q (bm _ hq);rw[hqk]at this;rw[tH i hi]at h3;exact Ek this h3
 ·intro e he
  obtain⟨s,nE,he⟩:=aG.1 he;obtain⟨j,hj,rfl⟩:=bH nE;rw[aQ]at hj;have hk:=h2 (i+1+j) I I;rw[tH _ I]at hk;rw[ib]at he;have hss:tL (kN d ts[i+1+j]):=by
   have:=EZ ▸ hs;have h5:∀(l:List (Tr d)),tL (l.flatMap (kN d))->∀s∈l,tL (kN d s):=by
    intro l
    induction l with
    | nil=>intro _ s h;cases h
    | cons a l ih=>
     intro hl s nE;rw[aq]at hl;rcases ax.1 nE with rfl|nE
     ·exact(sg.1 hl).1
     ·exact ih (sg.1 hl).2.1 s nE
   exact h5 ts hs _ (aH _)
  have hle:=aey hss e he;exact Ek hk hle
 ·intro hl
  rcases h3 with rfl|h3
  ·simp at hl
  ·rw[tH i hi]at h3;exact h3
inductive Ctx:Nat->Nat->Type
 | top {d:Nat}:Ctx d d
 | down {D d:Nat}(c:Ctx D (d+1)) (b:Nat) (l r:List (Tr d)):Ctx D d
def plug:{D d:Nat}->Ctx D d->Tr d->Tr D
 | _,_,.top,t=>t
 | _,_,.down c b l r,t=>plug c (lW b (l++t::r))
def cl:{D d:Nat}->Ctx D d->List KV
 | _,_,.top=>[]
 | _,d,.down c _ l _=>cl c++l.flatMap (kN d)
def cr:{D d:Nat}->Ctx D d->List KV
 | _,_,.top=>[]
 | _,d,.down c _ _ r=>r.flatMap (kN d)++cr c
def ll:{D d:Nat}->Ctx D d->List (Nat×List KV)
 | _,_,.top=>[]
 | _,d,.down c _ l _=>ll c++l.flatMap (mC d)
def lr:{D d:Nat}->Ctx D d->List (Nat×List KV)
 | _,_,.top=>[]
 | _,d,.down c _ _ r=>r.flatMap (mC d)++lr c
def cb:{D d:Nat}->Ctx D d->List Nat
 | _,_,.top=>[]
 | _,d,.down c b l r=>cb c++b::(l.flatMap (kB d)++r.flatMap (kB d))
theorem qj (b:Nat)(l:List (Tr d)): kN (d+1) (lW b l)=l.flatMap (kN d):=rfl
theorem oX (b:Nat)(l:List (Tr d)): mC (d+1) (lW b l)=l.flatMap (mC d):=rfl
theorem mD (b:Nat)(l:List (Tr d)): kB (d+1) (lW b l)=b::l.flatMap (kB d):=rfl
theorem rj (b:Nat)(l:List (Tr d)): j9 (d+1) (lW b l)=l.length:=rfl
theorem ym:∀ {D d:Nat}(c:Ctx D d) (t:Tr d),kN D (plug c t)=cl c++kN d t++cr c
 | _,_,.top,t=>by simp[plug,cl,cr]
 | _,_,.down c b l r,t=>by
  unfold plug cl cr;rw[ym c,qj,an,aq];simp only[av]
theorem wK:∀ {D d:Nat}(c:Ctx D d) (t:Tr d),mC D (plug c t)=ll c++mC d t++lr c
 | _,_,.top,t=>by simp[plug,ll,lr]
 | _,_,.down c b l r,t=>by
  unfold plug ll lr;rw[wK c,oX,an,aq];simp only[av]
theorem qy:∀ {D d:Nat}(c:Ctx D d) (t:Tr d),(kB D (plug c t)).Perm (cb c++kB d t)
 | _,_,.top,t=>by simp[plug,cb]
 | _,_,.down c b l r,t=>by
  unfold plug cb;refine(qy c _).trans ?_;rw[mD,an,aq,av,bC,av];refine eS _ (List.Perm.cons _ (eS _ ?_));exact List.perm_append_comm
def xe (st:St)(k:Ky):{D d:Nat}->Ctx D d->Tr d->Prop
 | _,_,.top,_=>True
 | _,d,.down c b l r,t=>st b=some ⟨false,l.map (kI d)++⟨zG (fk d t) k,0,some (blk d t)⟩::r.map (kI d),none⟩/\(∀s∈l,sh d st s)/\(∀s∈r,sh d st s)/\xe st k c (lW b (l++t::r))
theorem Eu {st:St}{k:Ky}{t:Tr d}: xe st k .top t:=by unfold xe;trivial
theorem uq {st:St}{k:Ky}{c:Ctx D (d+1)}{l r:List (Tr d)}{t:Tr d}: xe st k (.down c b l r) t ↔
  st b=some ⟨false,l.map (kI d)++⟨zG (fk d t) k,0,some (blk d t)⟩::r.map (kI d),none⟩/\(∀s∈l,sh d st s)/\(∀s∈r,sh d st s)/\xe st k c (lW b (l++t::r)):=by rw[xe]
theorem pJ {t:Tr d}: plug .top t=t:=by rw[plug]
theorem qc {c:Ctx D (d+1)}{l r:List (Tr d)}{t:Tr d}: plug (.down c b l r) t=plug c (lW b (l++t::r)):=by rw[plug]
theorem xe.congr {st st':St}{k:Ky}: ∀ {D d:Nat}{c:Ctx D d}{t:Tr d},xe st k c t->(∀x∈cb c,st' x=st x)->xe st' k c t
 | _,_,.top,_,_,_=>Eu
 | _,_,.down c b l r,t,h,hc=>by
  obtain⟨h1,h2,h3,h4⟩:=uq.1 h;refine uq.2 ⟨by rw[hc b (by simp[cb])];exact h1,fun s hs=>(h2 s hs).congr fun x hx=>hc x ?_,fun s hs=>(h3 s hs).congr fun x hx=>hc x ?_,h4.congr fun x hx=>hc x (by simp only[cb,au];exact .inl hx)⟩
  ·simp only[cb,au,ax];exact .inr (.inr (.inl (aG.2 ⟨s,hs,hx⟩)))
  ·simp only[cb,au,ax];exact .inr (.inr (.inr (aG.2 ⟨s,hs,hx⟩)))
theorem xe.of {st:St}{k:Ky}: ∀ {D d:Nat}{c:Ctx D d}{t t':Tr d},xe st k c t->kN d t'=kN d t->blk d t'=blk d t->xe st k c t'
 | _,_,.top,_,_,_,_,_=>Eu
 | _,_,.down c b l r,t,t',h,he,hb=>by
  obtain⟨h1,h2,h3,h4⟩:=uq.1 h;refine uq.2 ⟨by unfold fk at h1 ⊢;rw[he,hb];exact h1,h2,h3,h4.of ?_ rfl⟩;rw[qj,qj,an,an,aq,aq,he]
def lowC:{D d:Nat}->Ctx D d->Nat->Prop
 | _,_,.top,_=>True
 | _,_,.down _ _ _ _,n=>4<=n
def MnC:{D d:Nat}->Ctx D d->Prop
 | _,_,.top=>True
 | _,d,.down c _ l r=>l.length+r.length+1<=8/\(∀s∈l,4<=j9 d s/\Mn d s)/\(∀s∈r,4<=j9 d s/\Mn d s)/\lowC c (l.length+r.length+1)/\MnC c
theorem zQ {l:List (Tr d)}: Mn (d+1) (lW b l) ↔ l.length<=8/\∀s∈l,4<=j9 d s/\Mn d s:=Iff.rfl
theorem nZ {st:St}{l:List (Tr d)}: sh (d+1) st (lW b l) ↔ st b=some ⟨false,l.map (kI d),none⟩/\∀s∈l,sh d st s:=Iff.rfl
theorem yO:∀ {D d:Nat}{c:Ctx D d}{t:Tr d},Mn D (plug c t) ↔ MnC c/\lowC c (j9 d t)/\Mn d t
 | _,_,.top,t=>by simp[plug,MnC,lowC]
 | _,_,.down c b l r,t=>by
  unfold plug MnC lowC;rw[yO (c:=c),zQ,rj];have e:(l++t::r).length=l.length+r.length+1:=by simp only[af,ak];omega
  rw[e]
  constructor
  ·rintro⟨h1,h2,h3,h4⟩
   have ht:=h4 t jM;exact⟨⟨h3,fun s hs=>h4 s (by simp[hs]),fun s hs=>h4 s (by simp[hs]),h2,h1⟩,ht.1,ht.2⟩
  ·rintro⟨⟨h3,h4,h5,h2,h1⟩,h6,h7⟩
   refine⟨h1,h2,h3,fun s hs=>?_⟩;rcases au.1 hs with hs|hs
   ·exact h4 s hs
   ·rcases ax.1 hs with rfl|hs
    ·exact⟨h6,h7⟩
    ·exact h5 s hs
theorem ED:∀ {D d:Nat}(c:Ctx D d) {t t':Tr d},j9 d t<=j9 d t'->j9 D (plug c t)<=j9 D (plug c t')
 | _,_,.top,_,_,h=>by rw[pJ,pJ];exact h
 | _,_,.down c b l r,t,t',_=>by
  rw[qc,qc];apply ED c;rw[rj,rj];simp
theorem u9 {a b:List KV}(h:a≠[]): Da (a++b)=Da a:=by cases a with|nil=>exact absurd rfl h|cons x a=>rfl
theorem ah4 {l:List (Tr d)}(h:l≠[])(hl:∀s∈l,4<=j9 d s/\Mn d s): l.flatMap (kN d)≠[]:=by
 cases l with
 | nil=>exact absurd rfl h
 | cons s l=>
  intro e;have h1:=hl s jM;rw[aq,eE]at e;exact vm h1.2 I e.1
theorem xe.done {st st':St}{k:Ky}: ∀ {D d:Nat}{c:Ctx D d}{t t':Tr d},xe st k c t->blk d t'=blk d t->kN d t≠[]->kN d t'≠[]->fk d t'=zG (fk d t) k->Lo (cl c) k->MnC c->(∀x∈cb c,st' x=st x)->sh d st' t'->sh D st' (plug c t')
 | _,_,.top,_,_,_,_,_,_,_,_,_,_,h=>by rw[pJ];exact h
 | _,d,.down c b l r,t,t',h0,hb,he,he',hf,sT,hm,hc,hr=>by
  obtain⟨h1,h2,h3,h4⟩:=uq.1 h0;rw[qc];unfold MnC at hm;unfold cl at sT;obtain⟨HA,yd,hm3,hm4,Gu⟩:=hm;obtain⟨lo1,lo2⟩:=Lo.app.1 sT;have e1:kN (d+1) (lW b (l++t::r))=l.flatMap (kN d)++(kN d t++r.flatMap (kN d)):=by rw[qj,an,aq]
  have e2:kN (d+1) (lW b (l++t'::r))=l.flatMap (kN d)++(kN d t'++r.flatMap (kN d)):=by rw[qj,an,aq]
  refine xe.done h4 rfl ?_ ?_ ?_ lo1 Gu (fun x hx=>hc x (by simp only[cb,au];exact .inl hx)) (nZ.2 ⟨?_,?_⟩)
  ·rw[e1];intro e;simp only[eE]at e;exact he e.2.1
  ·rw[e2];intro e;simp only[eE]at e;exact he' e.2.1
  ·show Da _=zG (Da _) k
   rw[e1,e2]
   by_cases hl:l=[]
   ·subst hl
    simp only[dD,aT];rw[u9 he,u9 he'];exact hf
   ·have mE:=ah4 hl yd
    rw[u9 mE,u9 mE];obtain⟨q,hq,hqk⟩:=II mE;have:=lo2 q hq;rw[hqk]at this;unfold zG;rw[aa (by rw[wN this];exact dH)]
  ·rw[hc b (by simp[cb]),h1,aV,aY]
   unfold kI;rw[hf,hb]
  ·intro s hs
   rcases au.1 hs with hs|hs
   ·exact(h2 s hs).congr fun x hx=>hc x (by simp only[cb,au,ax];exact .inr (.inr (.inl (aG.2 ⟨s,hs,hx⟩))))
   ·rcases ax.1 hs with rfl|hs
    ·exact hr
    ·exact(h3 s hs).congr fun x hx=>hc x (by simp only[cb,au,ax];exact .inr (.inr (.inr (aG.2 ⟨s,hs,hx⟩))))
def mB:(d:Nat)->Tr d->Nat->Tr d×Tr d
 | 0,t,g=>(tr t.1 (List.take 4 t.2),tr g (List.drop 4 t.2))
 | _+1,t,g=>(lW t.1 (List.take 4 t.2),lW g (List.drop 4 t.2))
theorem Lj: ∀(d:Nat) (t:Tr d) (g:Nat),kN d (mB d t g).1++kN d (mB d t g).2=kN d t
 | 0,t,g=>aO 4 t.2
 | d+1,t,g=>by
  show List.flatMap (kN d) (List.take 4 t.2)++List.flatMap (kN d) (List.drop 4 t.2)=List.flatMap (kN d) t.2
  rw[<-an,aO]
theorem Bh: ∀(d:Nat) (t:Tr d) (g:Nat),j9 d t=8->j9 d (mB d t g).1=4/\j9 d (mB d t g).2=4
 | 0,t,g,h=>by
  have h':List.length t.2=8:=h;exact⟨by show List.length (List.take 4 t.2)=4;rw[aC];omega,by show List.length (List.drop 4 t.2)=4;rw[aQ];omega⟩
 | d+1,t,g,h=>by
  have h':List.length t.2=8:=h;exact⟨by show List.length (List.take 4 t.2)=4;rw[aC];omega,by show List.length (List.drop 4 t.2)=4;rw[aQ];omega⟩
theorem KN: ∀(d:Nat) (t:Tr d) (g:Nat),j9 d t=8->Mn d t->Mn d (mB d t g).1/\Mn d (mB d t g).2
 | 0,t,g,hc,h=>by
  obtain⟨h1,h2⟩:=Bh 0 t g hc;exact⟨by show List.length (List.take 4 t.2)<=8;rw[aC];omega,by show List.length (List.drop 4 t.2)<=8;have:List.length t.2=8:=hc;rw[aQ];omega⟩
 | d+1,t,g,hc,h=>by
  have h':List.length t.2=8:=hc;exact⟨⟨by show List.length (List.take 4 t.2)<=8;rw[aC];omega,fun s hs=>h.2 s (bP hs)⟩,⟨by show List.length (List.drop 4 t.2)<=8;rw[aQ];omega,fun s hs=>h.2 s (dV hs)⟩⟩
theorem LD: ∀(d:Nat) (t:Tr d) (g:Nat),blk d (mB d t g).1=blk d t/\blk d (mB d t g).2=g
 | 0,_,_=>⟨rfl,rfl⟩
 | _+1,_,_=>⟨rfl,rfl⟩
theorem Qn: ∀(d:Nat) (t:Tr d) (g:Nat),jH d (mB d t g).1=(jH d t).take 4/\jH d (mB d t g).2=(jH d t).drop 4
 | 0,t,g=>⟨by show me (List.take 4 t.2)=_;exact dp,by show me (List.drop 4 t.2)=_;exact dC⟩
 | d+1,t,g=>⟨by show List.map (kI d) (List.take 4 t.2)=_;exact dp,by show List.map (kI d) (List.drop 4 t.2)=_;exact dC⟩
theorem xa: ∀(d:Nat) (t:Tr d) (g:Nat),(kB d (mB d t g).1++kB d (mB d t g).2).Perm (g::kB d t)
 | 0,t,g=>List.Perm.swap g t.1 []
 | d+1,t,g=>by
  show((t.1::List.flatMap (kB d) (List.take 4 t.2))++(g::List.flatMap (kB d) (List.drop 4 t.2))).Perm (g::t.1::List.flatMap (kB d) t.2)
  conv=>rhs;rw[<-aO 4 t.2,an]
  exact List.perm_middle
structure Spl (st st':St) (d:Nat) (t:Tr d) (g:Nat):Prop where
 old:∃nx,st (blk d t)=some ⟨d == 0,jH d t,nx⟩/\st' (blk d t)=some ⟨d == 0,(jH d t).take 4,if d=0 then some g else none⟩/\st' g=some ⟨d == 0,(jH d t).drop 4,nx⟩
 rest:∀x,x≠blk d t->x≠g->st' x=st x
theorem Ug: ∀ {d:Nat}{st st':St}{t:Tr d}{g:Nat},sh d st t->Spl st st' d t g->g ∉ kB d t->(kB d t).Nodup->sh d st' (mB d t g).1/\sh d st' (mB d t g).2
 | 0,_,_,_,_,_,_,_,_=>⟨trivial,trivial⟩
 | d+1,st,st',t,g,h,hs,hg,hn=>by
  obtain⟨⟨nx,h1,h2,h3⟩,h4⟩:=hs;have xq:nx=none:=by have:=h.1.symm.trans h1;injection this with this;injection this with _ _ e;exact e.symm
  subst xq;have OJ:=(bB.1 hn).1;have hk:=fun s hs=>(h.2 s hs).congr fun x hx=>by
   have hm:=aG.2 ⟨s,hs,hx⟩;exact h4 x (fun e=>OJ (by have e':x=t.1:=e;rw[<-e'];exact hm)) (fun e=>hg (aD _ (by rw[<-e];exact hm)))
  obtain⟨e1,e2⟩:=Qn (d+1) t g;exact⟨⟨by show st' t.1=some ⟨false,jH (d+1) (mB (d+1) t g).1,none⟩;rw[e1];exact h2,fun s hs=>hk s (bP hs)⟩,⟨by show st' g=some ⟨false,jH (d+1) (mB (d+1) t g).2,none⟩;rw[e2];exact h3,fun s hs=>hk s (dV hs)⟩⟩
theorem Uh: ∀ {d:Nat}{st st':St}{t:Tr d}{g:Nat}{A B:List (Nat×List KV)}{nx:Option Nat},Spl st st' d t g->(kB d t).Nodup->(∀x∈A++B,x.1≠g/\x.1≠blk d t)->g ∉ kB d t->Lnk st (A++mC d t++B) nx->
  Lnk st' (A++(mC d (mB d t g).1++mC d (mB d t g).2)++B) nx
 | 0,st,st',t,g,A,B,nx,hs,hn,Ke,hg,h=>by
  obtain⟨⟨C9,h1,h2,h3⟩,h4⟩:=hs;obtain⟨hA,hB⟩:=Lnk.app.1 h;obtain⟨hA,ht,-⟩:=Lnk.app.1 hA;have xq:C9=hd B nx:=by have:=ht.symm.trans h1;injection this with this;injection this with _ _ e;exact e.symm
  subst xq;refine Lnk.app.2 ⟨Lnk.app.2 ⟨hA.congr fun x hx=>h4 _ (Ke x (by simp[hx])).2 (Ke x (by simp[hx])).1,⟨?_,?_,trivial⟩⟩,hB.congr fun x hx=>h4 _ (Ke x (by simp[hx])).2 (Ke x (by simp[hx])).1⟩
  ·rw[show((mB 0 t g).1.1=t.1) from rfl]
   show st' t.1=some ⟨true,me (List.take 4 t.2),some g⟩
   have:me (List.take 4 t.2)=(jH 0 t).take 4:=dp;rw[this];exact h2
  ·show st' g=some ⟨true,me (List.drop 4 t.2),hd B nx⟩
   have:me (List.drop 4 t.2)=(jH 0 t).drop 4:=dC;rw[this];exact h3
 | d+1,st,st',t,g,A,B,nx,hs,hn,Ke,hg,h=>by
  have e:mC (d+1) (mB (d+1) t g).1++mC (d+1) (mB (d+1) t g).2=mC (d+1) t:=by
   show List.flatMap (mC d) (List.take 4 t.2)++List.flatMap (mC d) (List.drop 4 t.2)=List.flatMap (mC d) t.2
   rw[<-an,aO]
  rw[e];refine h.congr fun x hx=>?_;simp only[au]at hx;have OJ:=(bB.1 hn).1;rcases hx with(hx|hx)|hx
  ·exact hs.rest _ (Ke x (by simp[hx])).2 (Ke x (by simp[hx])).1
  ·obtain⟨s,nE,hxs⟩:=aG.1 (show x∈List.flatMap (mC d) t.2 from hx)
   have hm:=aG.2 ⟨s,nE,rZ d s x hxs⟩;exact hs.rest _ (fun e=>OJ (by have e':x.1=t.1:=e;rw[<-e'];exact hm)) (fun e=>hg (aD _ (e ▸ hm)))
  ·exact hs.rest _ (Ke x (by simp[hx])).2 (Ke x (by simp[hx])).1
structure Good (st:St) (D:Nat) (T:Tr D) (l:List KV):Prop where
 rep:sh D st T
 uQ:Lnk st (mC D T) none
 nodup:(kB D T).Nodup
 el:kN D T=l
 xr:tL l
 mn:Mn D T
 root:D=0\/2<=j9 D T
theorem Be {st:St}{d:Nat}:∀ {l:List (Tr d)}{nx:Option Nat},Lnk st (l.flatMap (mC d)) nx->∀s∈l,∃MX,Lnk st (mC d s) MX
 | [],_,_,_,h=>by cases h
 | a::l,nx,h,s,hs=>by
  rw[aq]at h;obtain⟨h1,h2⟩:=Lnk.app.1 h;rcases ax.1 hs with rfl|hs
  ·exact⟨_,h1⟩
  ·exact Be h2 s hs
theorem D6:∀ {d:Nat}{st:St}{t:Tr d}{nx:Option Nat},sh d st t->Lnk st (mC d t) nx->∀b∈kB d t,st b≠none
 | 0,st,t,nx,_,h,b,hb=>by
  simp only[kB,bn]at hb;subst hb;rw[show st t.1=_ from h.1];simp
 | d+1,st,t,nx,hr,h,b,hb=>by
  rcases ax.1 (show b∈t.1::List.flatMap (kB d) t.2 from hb) with rfl|hb
  ·rw[hr.1];simp
  ·obtain⟨s,hs,hx⟩:=aG.1 hb
   obtain⟨MX,h'⟩:=Be (l:=t.2) h s hs;exact D6 (hr.2 s hs) h' b hx
theorem Good.dom {st:St}{T:Tr D}{l:List KV}(h:Good st D T l): ∀b∈kB D T,st b≠none:=D6 h.rep h.uQ
structure qM (st:St) (k:Ky) {D d:Nat}(c:Ctx D d) (t:Tr d) (l:List KV):Prop where
 Zr:xe st k c t
 Pu:sh d st t
 uQ:Lnk st (mC D (plug c t)) none
 nodup:(kB D (plug c t)).Nodup
 el:kN D (plug c t)=l
 xr:tL l
 lo:Lo (cl c) k
 hi:Hi (cr c) k
 mn:Mn D (plug c t)
 root:D=0\/2<=j9 D (plug c t)
theorem qM.start {st:St}{k:Ky}{T:Tr D}{l:List KV}(h:Good st D T l): qM st k .top T l:=by
 have e:plug .top T=T:=pJ;exact⟨Eu,h.rep,by rw[e];exact h.uQ,by rw[e];exact h.nodup,by rw[e];exact h.el,h.xr,by unfold cl;exact Lo.nil,by unfold cr;exact Hi.nil,by rw[e];exact h.mn,by rw[e];exact h.root⟩
theorem Wg {st:St}{k:Ky}:∀ {D d:Nat}{c:Ctx D d}{t:Tr d}{X:List (Nat×List KV)}{nx:Option Nat},xe st k c t->Lnk st (ll c++X++lr c) nx->∀b∈cb c,st b≠none
 | _,_,.top,_,_,_,_,_,b,hb=>by simp[cb]at hb
 | _,d,.down c bb l r,t,X,nx,hr,h,b,hb=>by
  obtain⟨h1,h2,h3,h4⟩:=uq.1 hr;unfold ll lr at h;have h':Lnk st (ll c++(l.flatMap (mC d)++X++r.flatMap (mC d))++lr c) nx:=by simpa only[av] using h
  unfold cb at hb;simp only[au,ax]at hb;rcases hb with hb|rfl|hb|hb
  ·exact Wg h4 h' b hb
  ·rw[h1];simp
  ·obtain⟨s,hs,hx⟩:=aG.1 hb
   obtain⟨h5,-⟩:=Lnk.app.1 h';obtain⟨-,h5⟩:=Lnk.app.1 h5;rw[av]at h5;obtain⟨h5,-⟩:=Lnk.app.1 h5;obtain⟨MX,h6⟩:=Be h5 s hs;exact D6 (h2 s hs) h6 b hx
  ·obtain⟨s,hs,hx⟩:=aG.1 hb
   obtain⟨h5,-⟩:=Lnk.app.1 h';obtain⟨-,h5⟩:=Lnk.app.1 h5;obtain⟨-,h5⟩:=Lnk.app.1 h5;obtain⟨MX,h6⟩:=Be h5 s hs;exact D6 (h3 s hs) h6 b hx
theorem qM.dom {st:St}{k:Ky}{c:Ctx D d}{t:Tr d}{l:List KV}(h:qM st k c t l): ∀b∈kB D (plug c t),st b≠none:=by
 intro b hb;have hl:=h.uQ;rw[wK]at hl;rcases au.1 ((qy c t).mem_iff.1 hb) with hb|hb
 ·exact Wg h.Zr hl b hb
 ·obtain⟨h5,-⟩:=Lnk.app.1 hl
  obtain⟨-,h5⟩:=Lnk.app.1 h5;exact D6 h.Pu h5 b hb
theorem qM.parts {st:St}{k:Ky}{c:Ctx D (d+1)}{l r:List (Tr d)}{s:Tr d}{L:List KV}(h:qM st k c (lW b (l++s::r)) L):
  (b::(kB d s++(cb c++(l.flatMap (kB d)++r.flatMap (kB d))))).Nodup:=by
 have h1:=(qy c (lW b (l++s::r))).nodup_iff.1 h.nodup;rw[mD,an,aq]at h1;refine(da (cQ.2 fun a=>?_)).1 h1;simp only[cW,dw];omega
theorem As:∀ {D d:Nat}(c:Ctx D d) (x:Nat×List KV),x∈ll c\/x∈lr c->x.1∈cb c
 | _,_,.top,x,h=>by simp[ll,lr]at h
 | _,d,.down c b l r,x,h=>by
  unfold ll lr at h;unfold cb;simp only[au,ax];rcases h with h|h
  ·rcases au.1 h with h|h
   ·exact .inl (As c x (.inl h))
   ·obtain⟨s,hs,hx⟩:=aG.1 h
    exact .inr (.inr (.inl (aG.2 ⟨s,hs,rZ d s x hx⟩)))
  ·rcases au.1 h with h|h
   ·obtain⟨s,hs,hx⟩:=aG.1 h
    exact .inr (.inr (.inr (aG.2 ⟨s,hs,rZ d s x hx⟩)))
   ·exact .inl (As c x (.inr h))
theorem ow {l:List (Tr d)}{x:Nat×List KV}(h:x∈l.flatMap (mC d)): x.1∈l.flatMap (kB d):=by
 obtain⟨s,hs,hx⟩:=aG.1 h;exact aG.2 ⟨s,hs,rZ d s x hx⟩
theorem qM.split {st st':St}{k:Ky}{c:Ctx D (d+1)}{l r:List (Tr d)}{s:Tr d}{L:List KV}(h:qM st k c (lW b (l++s::r)) L)(Aj:j9 (d+1) (lW b (l++s::r))<8)(hc:j9 d s=8)(hg:st g=none)(hs:Spl st st' d s g):
  qM (ml st' b ⟨false,(l++(mB d s g).1::(mB d s g).2::r).map (kI d),none⟩) k c (lW b (l++(mB d s g).1::(mB d s g).2::r)) L:=by
 have hp:=h.parts;have EW:∀x∈kB D (plug c (lW b (l++s::r))),x≠g:=fun x hx e=>h.dom x hx (by rw[e];exact hg);have Zh:∀x,x∈b::(kB d s++(cb c++(l.flatMap (kB d)++r.flatMap (kB d))))->x≠g:=fun x hx=>EW x ((qy c _).mem_iff.2 (by
  rw[mD,an,aq];simp only[ax,au]at hx ⊢;rcases hx with hx|hx|hx|hx|hx<;>simp[hx]))
 obtain⟨hb,hp⟩:=bB.1 hp;obtain⟨Ou,hp2,CR⟩:=bS.1 hp;have FZ:=r7 d s;simp only[au,iX]at hb;obtain⟨oc,kK,lC,nk⟩:=hb;have SY:g ∉ kB d s:=fun hx=>Zh g (by simp[hx]) rfl;have Kw:=Zh b jM;have mL:kN (d+1) (lW b (l++(mB d s g).1::(mB d s g).2::r))=kN (d+1) (lW b (l++s::r)):=by
  rw[qj,qj,an,an,aq,aq,aq,<-av (kN d _),Lj]
 -- what is apart stays
 have same:∀x,x≠b->x≠blk d s->x≠g->ml st' b ⟨false,(l++(mB d s g).1::(mB d s g).2::r).map (kI d),none⟩ x=st x:=fun x h1 h2 h3=>by rw[kD h1,hs.rest x h2 h3]
 have sB:=fun x hx=>by
  refine same x (fun e=>?_) (fun e=>CR _ FZ x hx e.symm) (Zh x (by simp only[ax,au]at hx ⊢;exact .inr (.inr hx)));subst e;simp only[au]at hx;rcases hx with hx|hx|hx
  ·exact kK hx
  ·exact lC hx
  ·exact nk hx
 have vp:=nZ.1 h.Pu;have hm:=yO.1 h.mn;have Ki:=(zQ.1 hm.2.2).2 s jM;have sD:=Ug (vp.2 s jM) hs SY Ou;refine⟨(h.Zr.of mL rfl).congr fun x hx=>sB x (by simp[hx]),nZ.2 ⟨ny _ _ _,?_⟩,?_,?_,?_,h.xr,h.lo,h.hi,?_,?_⟩
 ·intro u hu
  simp only[au,ax]at hu;rcases hu with hu|rfl|rfl|hu
  ·exact(vp.2 u (by simp[hu])).congr fun x hx=>sB x (by simp only[au];exact .inr (.inl (aG.2 ⟨u,hu,hx⟩)))
  ·exact sD.1.congr fun x hx=>kD (fun e=>by
    subst e;have:=(xa d s g).mem_iff.1 (bm _ hx);rcases ax.1 this with e|e
    ·exact Kw e
    ·exact oc e)
  ·exact sD.2.congr fun x hx=>kD (fun e=>by
    subst e;have:=(xa d s g).mem_iff.1 (bp _ hx);rcases ax.1 this with e|e
    ·exact Kw e
    ·exact oc e)
  ·exact(vp.2 u (by simp[hu])).congr fun x hx=>sB x (by simp only[au];exact .inr (.inr (aG.2 ⟨u,hu,hx⟩)))
 ·have hl:=h.uQ
  rw[wK,oX,an,aq]at hl ⊢;rw[aq];have e1:ll c++(l.flatMap (mC d)++(mC d s++r.flatMap (mC d)))++lr c=(ll c++l.flatMap (mC d))++mC d s++(r.flatMap (mC d)++lr c):=by simp only[av]
  rw[e1]at hl;have Ke:∀x∈(ll c++l.flatMap (mC d))++(r.flatMap (mC d)++lr c),x.1∈cb c++(l.flatMap (kB d)++r.flatMap (kB d)):=fun x hx=>by
   simp only[au]at hx ⊢;rcases hx with(hx|hx)|hx|hx
   ·exact .inl (As c x (.inl hx))
   ·exact .inr (.inl (ow hx))
   ·exact .inr (.inr (ow hx))
   ·exact .inl (As c x (.inr hx))
  have h2:=Uh hs Ou (fun x hx=>⟨Zh x.1 (by have:=Ke x hx;simp only[ax,au]at this ⊢;exact .inr (.inr this)),fun e=>CR _ FZ x.1 (Ke x hx) e.symm⟩) SY hl;have e2:ll c++(l.flatMap (mC d)++(mC d (mB d s g).1++(mC d (mB d s g).2++r.flatMap (mC d))))++lr c=(ll c++l.flatMap (mC d))++(mC d (mB d s g).1++mC d (mB d s g).2)++(r.flatMap (mC d)++lr c):=by simp only[av]
  rw[e2];refine h2.congr fun x hx=>kD fun e=>?_;simp only[au]at hx;rcases hx with((hx|hx)|hx|hx)|hx|hx
  ·exact kK (e ▸ As c x (.inl hx))
  ·exact lC (e ▸ ow hx)
  ·have:=(xa d s g).mem_iff.1 (bm _ (rZ d _ x hx))
   rw[e]at this;rcases ax.1 this with e|e
   ·exact Kw e
   ·exact oc e
  ·have:=(xa d s g).mem_iff.1 (bp _ (rZ d _ x hx))
   rw[e]at this;rcases ax.1 this with e|e
   ·exact Kw e
   ·exact oc e
  ·exact nk (e ▸ ow hx)
  ·exact kK (e ▸ As c x (.inr hx))
 ·refine((qy c _).nodup_iff).2 ?_
  rw[mD,an,aq,aq,<-av (kB d _)];have h1:=(qy c (lW b (l++s::r))).nodup_iff.1 h.nodup;have h2:=bB.2 ⟨fun hx=>EW g ((qy c _).mem_iff.2 hx) rfl,h1⟩;refine(da ?_).1 h2;rw[mD,an,aq];refine List.perm_middle.symm.trans (eS _ ?_);refine(List.Perm.swap _ _ _).trans (List.Perm.cons _ ?_);refine List.perm_middle.symm.trans (eS _ ?_);rw[<-bC];exact List.Perm.append_right _ (xa d s g).symm
 ·rw[ym,mL,<-ym];exact h.el
 ·refine yO.2 ⟨hm.1,?_,zQ.2 ⟨?_,fun u hu=>?_⟩⟩
  ·have:=hm.2.1
   rw[rj]at this ⊢;cases c with
   | top=>unfold lowC;trivial
   | down c b l r=>unfold lowC at this ⊢;simp only[af,ak]at this ⊢;omega
  ·rw[rj]at Aj
   simp only[af,ak]at Aj ⊢;omega
  ·obtain⟨vN,rE⟩:=Bh d s g hc
   obtain⟨HA,yd⟩:=KN d s g hc Ki.2;simp only[au,ax]at hu;rcases hu with hu|rfl|rfl|hu
   ·exact(zQ.1 hm.2.2).2 u (by simp[hu])
   ·exact⟨I,HA⟩
   ·exact⟨I,yd⟩
   ·exact(zQ.1 hm.2.2).2 u (by simp[hu])
 ·refine h.root.imp id fun h2=>aU h2 (ED c ?_)
  rw[rj,rj];simp
theorem qM.down {st:St}{k:Ky}{c:Ctx D (d+1)}{l r:List (Tr d)}{s:Tr d}{L:List KV}(h:qM st k c (lW b (l++s::r)) L)(sT:Lo (l.flatMap (kN d)) k)(qZ:Hi (r.flatMap (kN d)) k):
  qM (ml st b ⟨false,l.map (kI d)++⟨zG (fk d s) k,0,some (blk d s)⟩::r.map (kI d),none⟩) k (.down c b l r) s L:=by
 obtain⟨hb,hp⟩:=bB.1 h.parts;simp only[au,iX]at hb;obtain⟨oc,kK,lC,nk⟩:=hb;have vp:=nZ.1 h.Pu;refine⟨uq.2 ⟨ny _ _ _,?_,?_,h.Zr.congr fun x hx=>kD fun e=>kK (e ▸ hx)⟩,(vp.2 s jM).congr fun x hx=>kD fun e=>oc (e ▸ hx),?_,by rw[qc];exact h.nodup,by rw[qc];exact h.el,h.xr,?_,?_,by rw[qc];exact h.mn,by rw[qc];exact h.root⟩
 ·exact fun u hu=>(vp.2 u (by simp[hu])).congr fun x hx=>kD fun e=>lC (e ▸ aG.2 ⟨u,hu,hx⟩)
 ·exact fun u hu=>(vp.2 u (by simp[hu])).congr fun x hx=>kD fun e=>nk (e ▸ aG.2 ⟨u,hu,hx⟩)
 ·rw[qc]
  refine h.uQ.congr fun x hx=>kD fun e=>?_;rw[wK,oX,an,aq]at hx;simp only[au]at hx;rcases hx with(hx|hx|hx|hx)|hx
  ·exact kK (e ▸ As c x (.inl hx))
  ·exact lC (e ▸ ow hx)
  ·exact oc (e ▸ rZ d s x hx)
  ·exact nk (e ▸ ow hx)
  ·exact kK (e ▸ As c x (.inr hx))
 ·unfold cl;exact Lo.app.2 ⟨h.lo,sT⟩
 ·unfold cr;exact Hi.app.2 ⟨qZ,h.hi⟩
theorem yk {k:Ky}{n:Int}:∀(l:List KV),(mU k n l).length<=l.length+1/\l.length<=(mU k n l).length/\1<=(mU k n l).length
 | []=>by simp[mU]
 | (a,m)::r=>by
  unfold mU;have:=yk (k:=k) (n:=n) r
  split
  ·simp only[ak];omega
  ·split<;>simp
theorem ahx {k:Ky}{n:Int}{l:List KV}(h:l≠[]): Da (mU k n l)=zG (Da l) k:=by
 cases l with
 | nil=>exact absurd rfl h
 | cons x r=>
  obtain⟨a,m⟩:=x;unfold mU zG Da
  by_cases h1:kl a k=true
  ·rw[ag h1,aa (by rw[wN h1];exact dH)]
  ·rw[aa h1]
   by_cases h2:a=k
   ·subst h2;rw[ag rfl,aa (by rw[zY];exact dH)]
   ·rw[aa h2]
    have:kl k a=true:=by
     cases hq:kl k a with
     | true=>rfl
     | false=>exact absurd (Ef (by simpa using h1) hq) h2
    rw[ag this]
theorem qM.fin {st st':St}{k:Ky}{n:Int}{c:Ctx D 0}{es:List KV}{L:List KV}(h:qM st k c (tr b es) L)(Aj:es.length<8)(h1:∀nx,st b=some ⟨true,me es,nx⟩->st' b=some ⟨true,me (mU k n es),nx⟩)(h2:∀x,x≠b->st' x=st x):
  Good st' D (plug c (tr b (mU k n es))) (mU k n L)/\(kB D (plug c (tr b (mU k n es)))).length=(kB D (plug c (tr b es))).length/\1<=j9 D (plug c (tr b (mU k n es))):=by
 have hp:=(qy c (tr b es)).nodup_iff.1 h.nodup;obtain⟨hp1,-,hp2⟩:=bS.1 hp;have FK:b ∉ cb c:=fun hx=>hp2 b hx b (by simp[kB,tr]) rfl;have hpe:(kB D (plug c (tr b (mU k n es)))).Perm (kB D (plug c (tr b es))):=(qy c _).trans (qy c (tr b es)).symm;have uU:=yk (k:=k) (n:=n) es;have hm:=yO.1 h.mn;refine⟨⟨?_,?_,hpe.nodup_iff.2 h.nodup,?_,IU h.xr,yO.2 ⟨hm.1,?_,?_⟩,?_⟩,hpe.length_eq,?_⟩
 ·by_cases he:es=[]
  ·cases c with
   | top=>rw[pJ];trivial
   | down c b2 l r=>
    have:=hm.2.1;unfold lowC at this;rw[he]at this;simp[j9,tr]at this
  ·refine h.Zr.done rfl he ?_ ?_ h.lo hm.1 (fun x hx=>h2 x fun e=>FK (e ▸ hx)) trivial
   ·intro e;have e':mU k n es=[]:=e;rw[e']at uU;simp at uU
   ·exact ahx he
 ·have hl:=h.uQ
  rw[wK]at hl ⊢;obtain⟨hA,hB⟩:=Lnk.app.1 hl;obtain⟨hA,ht,-⟩:=Lnk.app.1 hA;exact Lnk.app.2 ⟨Lnk.app.2 ⟨hA.congr fun x hx=>h2 _ fun e=>FK (e ▸ As c x (.inl hx)),h1 _ ht,trivial⟩,hB.congr fun x hx=>h2 _ fun e=>FK (e ▸ As c x (.inr hx))⟩
 ·have he:=h.el
  rw[ym]at he ⊢;rw[<-he]
  show cl c++mU k n es++cr c=mU k n (cl c++es++cr c)
  rw[av (cl c) es (cr c),Tu h.lo,Wk h.hi,av]
 ·cases c with
  | top=>unfold lowC;trivial
  | down c b2 l r=>
   have:=hm.2.1;unfold lowC at this ⊢;have h3:4<=es.length:=this
   show 4<=(mU k n es).length
   omega
 ·show(mU k n es).length<=8
  omega
 ·exact h.root.imp id fun h3=>aU h3 (ED c (t:=tr b es) (t':=tr b (mU k n es)) (show es.length<=(mU k n es).length by omega))
 ·rcases h.root with h3|h3
  ·subst h3
   have hd:∀ {D d:Nat}(c:Ctx D d),d<=D:=by
    intro D d c
    induction c with
    | top=>exact aj _
    | down c b l r ih=>omega
   cases c with
   | top=>rw[pJ];show 1<=(mU k n es).length;omega
   | down c b l r=>have:=hd c;omega
  ·exact aU I (aU h3 (ED c (t:=tr b es) (t':=tr b (mU k n es)) (show es.length<=(mU k n es).length by omega)))
theorem Good.grow {st st' yc:St}{k:Ky}{T:Tr D}{L:List KV}{gx:Nat}(h:Good st D T L)(hc:j9 D T=8)(hg:st g=none)(arC:gx ∉ kB D T)(mE:gx≠g)(hs:Spl st st' D T g)(h1:yc gx=some ⟨false,[kI D (mB D T g).1,kI D (mB D T g).2],none⟩)(h2:∀x,x≠gx->yc x=st' x): qM yc k .top (lW gx [(mB D T g).1,(mB D T g).2]) L:=by
 have SY:g ∉ kB D T:=fun hx=>h.dom g hx hg;have FZ:=r7 D T;have sD:=Ug h.rep hs SY h.nodup;have Ju:∀x,x∈kB D (mB D T g).1++kB D (mB D T g).2->x≠gx:=fun x hx e=>by
  have:=(xa D T g).mem_iff.1 hx;rw[e]at this;rcases ax.1 this with e|e
  ·exact mE e
  ·exact arC e
 obtain⟨vN,rE⟩:=Bh D T g hc;obtain⟨HA,yd⟩:=KN D T g hc h.mn;have e:plug .top (lW gx [(mB D T g).1,(mB D T g).2])=lW gx [(mB D T g).1,(mB D T g).2]:=pJ;refine⟨Eu,nZ.2 ⟨h1,fun s hs=>?_⟩,?_,?_,?_,h.xr,by unfold cl;exact Lo.nil,by unfold cr;exact Hi.nil,?_,.inr (by rw[e,rj];simp)⟩
 ·simp only[ax,a_,eJ]at hs
  rcases hs with rfl|rfl
  ·exact sD.1.congr fun x hx=>h2 x (Ju x (by simp[hx]))
  ·exact sD.2.congr fun x hx=>h2 x (Ju x (by simp[hx]))
 ·rw[e,oX]
  simp only[aq,dD,aP];have:=Uh (A:=[]) (B:=[]) hs h.nodup jM SY (by simpa using h.uQ);simp only[aT,aP]at this;refine this.congr fun x hx=>h2 _ (Ju _ ?_);rcases au.1 hx with hx|hx
  ·exact bm _ (rZ D _ x hx)
  ·exact bp _ (rZ D _ x hx)
 ·rw[e,mD]
  simp only[aq,dD,aP];refine bB.2 ⟨fun hx=>Ju gx hx rfl,(xa D T g).nodup_iff.2 (bB.2 ⟨SY,h.nodup⟩)⟩
 ·rw[e,qj]
  simp only[aq,dD,aP];rw[Lj];exact h.el
 ·rw[e]
  refine zQ.2 ⟨jM,fun s hs=>?_⟩;simp only[ax,a_,eJ]at hs;rcases hs with rfl|rfl
  ·exact⟨I,HA⟩
  ·exact⟨I,yd⟩
structure At (st:St) (d:Nat) (t:Tr d) (nx:Option Nat):Prop where
 rep:sh d st t
 uQ:Lnk st (mC d t) nx
 nodup:(kB d t).Nodup
structure r6 (st st':St) (d:Nat) (t t':Tr d) (nx:Option Nat):Prop where
 here:At st' d t' nx
 blk:blk d t'=blk d t
 hd:∀C9,hd (mC d t') C9=hd (mC d t) C9
 sub:∀x∈kB d t',x∈kB d t
 same:∀x,x ∉ kB d t->st' x=st x
theorem r6.trans {st yz yc:St}{t t1 t2:Tr d}(h:r6 st yz d t t1 nx)(k:r6 yz yc d t1 t2 nx): r6 st yc d t t2 nx :=
 ⟨k.here,k.blk.trans h.blk,fun n=>(k.hd n).trans (h.hd n),fun x hx=>h.sub x (k.sub x hx),fun x hx=>(k.same x fun e=>hx (h.sub x e)).trans (h.same x hx)⟩
theorem Hp {l r:List (Tr d)}{s:Tr d}(h:(kB (d+1) (lW b (l++s::r))).Nodup): (b::(kB d s++(l.flatMap (kB d)++r.flatMap (kB d)))).Nodup:=by
 rw[mD,an,aq]at h;refine(da (cQ.2 fun a=>?_)).1 h;simp only[cW,dw];omega
theorem r6.pw {st yz:St}{l r:List (Tr d)}{s s':Tr d}(h:At st (d+1) (lW b (l++s::r)) nx)(hk:r6 st yz d s s' (Tre.hd (r.flatMap (mC d)) nx)):
  r6 st (ml yz b ⟨false,(l++s'::r).map (kI d),none⟩) (d+1) (lW b (l++s::r)) (lW b (l++s'::r)) nx:=by
 obtain⟨hb,hp⟩:=bB.1 (Hp h.nodup);obtain⟨Ou,uA,CR⟩:=bS.1 hp;simp only[au,iX]at hb;obtain⟨oc,kK,lC⟩:=hb;have vp:=nZ.1 h.rep;have sB:∀x,x∈l.flatMap (kB d)++r.flatMap (kB d)->ml yz b ⟨false,(l++s'::r).map (kI d),none⟩ x=st x:=fun x hx=>by
  rw[kD (fun e=>by subst e;rcases au.1 hx with hx|hx;exact kK hx;exact lC hx)];exact hk.same x fun e=>CR x e x hx rfl
 have afy:∀x,x∈kB d s'->ml yz b ⟨false,(l++s'::r).map (kI d),none⟩ x=yz x:=fun x hx=>kD fun e=>oc (e ▸ hk.sub x hx);refine⟨⟨nZ.2 ⟨ny _ _ _,fun u hu=>?_⟩,?_,?_⟩,rfl,fun C9=>?_,fun x hx=>?_,fun x hx=>?_⟩
 ·simp only[au,ax]at hu
  rcases hu with hu|rfl|hu
  ·exact(vp.2 u (by simp[hu])).congr fun x hx=>sB x (bm _ (aG.2 ⟨u,hu,hx⟩))
  ·exact hk.here.rep.congr afy
  ·exact(vp.2 u (by simp[hu])).congr fun x hx=>sB x (bp _ (aG.2 ⟨u,hu,hx⟩))
 ·have hl:=h.uQ
  rw[oX,an,aq]at hl ⊢;obtain⟨h1,h2⟩:=Lnk.app.1 hl;obtain⟨h2,h3⟩:=Lnk.app.1 h2;refine Lnk.app.2 ⟨?_,Lnk.app.2 ⟨?_,?_⟩⟩
  ·rw[qo,hk.hd,<-qo]
   exact h1.congr fun x hx=>sB _ (bm _ (ow hx))
  ·exact hk.here.uQ.congr fun x hx=>afy _ (rZ d _ x hx)
  ·exact h3.congr fun x hx=>sB _ (bp _ (ow hx))
 ·have:(b::(kB d s'++(l.flatMap (kB d)++r.flatMap (kB d)))).Nodup:=by
   refine bB.2 ⟨?_,bS.2 ⟨hk.here.nodup,uA,fun x hx y hy=>CR x (hk.sub x hx) y hy⟩⟩;simp only[au,iX];exact⟨fun e=>oc (hk.sub b e),kK,lC⟩
  rw[mD,an,aq];refine(da (cQ.2 fun a=>?_)).1 this;simp only[cW,dw];omega
 ·rw[oX,oX,an,an,aq,aq]
  simp only[qo];rw[hk.hd]
 ·rw[mD,an,aq]at hx ⊢
  simp only[ax,au]at hx ⊢;rcases hx with hx|hx|hx|hx
  ·exact .inl hx
  ·exact .inr (.inl hx)
  ·exact .inr (.inr (.inl (hk.sub x hx)))
  ·exact .inr (.inr (.inr hx))
 ·rw[mD,an,aq]at hx
  simp only[ax,au,iX]at hx;rw[kD hx.1];exact hk.same x hx.2.2.1
def jn:(d:Nat)->Tr d->Tr d->Tr d
 | 0,a,c=>tr a.1 (List.append a.2 c.2)
 | _+1,a,c=>lW a.1 (List.append a.2 c.2)
theorem Q5: ∀(d:Nat) (a c:Tr d),kN d (jn d a c)=kN d a++kN d c
 | 0,_,_=>rfl
 | _+1,a,c=>an (xs:=a.2) (ys:=c.2)
theorem GH: ∀(d:Nat) (a c:Tr d),j9 d (jn d a c)=j9 d a+j9 d c
 | 0,a,c=>@List.length_append _ a.2 c.2
 | _+1,a,c=>@List.length_append _ a.2 c.2
theorem aja: ∀(d:Nat) (a c:Tr d),blk d (jn d a c)=blk d a
 | 0,_,_=>rfl
 | _+1,_,_=>rfl
theorem GA: ∀(d:Nat) (a c:Tr d),jH d (jn d a c)=jH d a++jH d c
 | 0,a,c=>aV (l₁:=a.2) (l₂:=c.2)
 | _+1,a,c=>aV (l₁:=a.2) (l₂:=c.2)
theorem amH: ∀ {d:Nat}{a c:Tr d},Mn d a->Mn d c->j9 d a+j9 d c<=8->Mn d (jn d a c)
 | 0,a,c,_,_,h=>by show j9 0 (jn 0 a c)<=8;rw[GH];exact h
 | d+1,a,c,h1,h2,h=>by
  refine⟨by show j9 (d+1) (jn (d+1) a c)<=8;rw[GH];exact h,fun s hs=>?_⟩;rcases au.1 (show s∈List.append a.2 c.2 from hs) with hs|hs
  ·exact h1.2 s hs
  ·exact h2.2 s hs
theorem Q9: ∀(d:Nat) (a c:Tr d),(blk d c::kB d (jn d a c)).Perm (kB d a++kB d c)
 | 0,a,c=>List.Perm.swap _ _ _
 | d+1,a,c=>by
  show(c.1::a.1::List.flatMap (kB d) (List.append a.2 c.2)).Perm ((a.1::List.flatMap (kB d) a.2)++(c.1::List.flatMap (kB d) c.2))
  rw[show List.append a.2 c.2=(show List (Tr d) from a.2)++(show List (Tr d) from c.2) from rfl,an];refine cQ.2 fun x=>?_;simp only[cW,dw];omega
def rd (j:Nat):(d:Nat)->Tr d->Tr d->Tr d×Tr d
 | 0,a,c=>(tr a.1 (List.take j (List.append a.2 c.2)),tr c.1 (List.drop j (List.append a.2 c.2)))
 | _+1,a,c=>(lW a.1 (List.take j (List.append a.2 c.2)),lW c.1 (List.drop j (List.append a.2 c.2)))
theorem ZG (j:Nat): ∀(d:Nat) (a c:Tr d),kN d (rd j d a c).1++kN d (rd j d a c).2=kN d a++kN d c
 | 0,a,c=>aO j _
 | d+1,a,c=>by
  rw[<-Q5 (d+1) a c]
  show List.flatMap (kN d) (List.take j (List.append a.2 c.2))++List.flatMap (kN d) (List.drop j (List.append a.2 c.2))=List.flatMap (kN d) (List.append a.2 c.2)
  rw[<-an,aO]
theorem KT (j:Nat): ∀(d:Nat) (a c:Tr d),j<=j9 d a+j9 d c->j9 d (rd j d a c).1=j/\j9 d (rd j d a c).2=j9 d a+j9 d c - j
 | 0,a,c,h=>by
  have e:=GH 0 a c;have e':List.length (List.append a.2 c.2)=j9 0 a+j9 0 c:=e;exact⟨by show List.length (List.take j (List.append a.2 c.2))=j;rw[aC];omega,by show List.length (List.drop j (List.append a.2 c.2))=_;rw[aQ,e']⟩
 | d+1,a,c,h=>by
  have e:=GH (d+1) a c;have e':List.length (List.append a.2 c.2)=j9 (d+1) a+j9 (d+1) c:=e;exact⟨by show List.length (List.take j (List.append a.2 c.2))=j;rw[aC];omega,by show List.length (List.drop j (List.append a.2 c.2))=_;rw[aQ,e']⟩
theorem ZU (j:Nat): ∀(d:Nat) (a c:Tr d),blk d (rd j d a c).1=blk d a/\blk d (rd j d a c).2=blk d c
 | 0,_,_=>⟨rfl,rfl⟩
 | _+1,_,_=>⟨rfl,rfl⟩
theorem Nt (j:Nat): ∀(d:Nat) (a c:Tr d),jH d (rd j d a c).1=(jH d a++jH d c).take j/\jH d (rd j d a c).2=(jH d a++jH d c).drop j
 | 0,a,c=>by
  rw[<-GA];exact⟨by show me (List.take j _)=_;exact dp,by show me (List.drop j _)=_;exact dC⟩
 | d+1,a,c=>by
  rw[<-GA];exact⟨by show List.map (kI d) (List.take j _)=_;exact dp,by show List.map (kI d) (List.drop j _)=_;exact dC⟩
theorem agO: ∀ {d:Nat}{a c:Tr d},Mn d a->Mn d c->j<=8->j<=j9 d a+j9 d c->j9 d a+j9 d c - j<=8->Mn d (rd j d a c).1/\Mn d (rd j d a c).2
 | 0,a,c,_,_,h1,h2,h3=>by
  obtain⟨e1,e2⟩:=KT j 0 a c h2;exact⟨by show j9 0 (rd j 0 a c).1<=8;omega,by show j9 0 (rd j 0 a c).2<=8;omega⟩
 | d+1,a,c,m1,m2,h1,h2,h3=>by
  obtain⟨e1,e2⟩:=KT j (d+1) a c h2;have hm:∀s,s∈List.append a.2 c.2->4<=j9 d s/\Mn d s:=fun s hs=>by
   rcases au.1 hs with hs|hs
   ·exact m1.2 s hs
   ·exact m2.2 s hs
  exact⟨⟨by show j9 (d+1) (rd j (d+1) a c).1<=8;omega,fun s hs=>hm s (bP hs)⟩,⟨by show j9 (d+1) (rd j (d+1) a c).2<=8;omega,fun s hs=>hm s (dV hs)⟩⟩
theorem Q2 (j:Nat): ∀(d:Nat) (a c:Tr d),(kB d (rd j d a c).1++kB d (rd j d a c).2).Perm (kB d a++kB d c)
 | 0,_,_=>List.Perm.refl _
 | d+1,a,c=>by
  show((a.1::List.flatMap (kB d) (List.take j (List.append a.2 c.2)))++(c.1::List.flatMap (kB d) (List.drop j (List.append a.2 c.2)))).Perm ((a.1::List.flatMap (kB d) a.2)++(c.1::List.flatMap (kB d) c.2))
  have e:List.flatMap (kB d) (List.take j (List.append a.2 c.2))++List.flatMap (kB d) (List.drop j (List.append a.2 c.2))=List.flatMap (kB d) a.2++List.flatMap (kB d) c.2:=by
   rw[<-an,aO];exact an (xs:=a.2) (ys:=c.2)
  refine cQ.2 fun x=>?_;have e2:=congrArg (List.count x) e;simp only[cW,dw]at e2 ⊢;omega
theorem RI {p q:List (Tr d)}{a c:Tr d}(h:(kB (d+1) (lW b (p++a::c::q))).Nodup): (b::((kB d a++kB d c)++(p.flatMap (kB d)++q.flatMap (kB d)))).Nodup:=by
 rw[mD,an,aq,aq]at h;refine(da (cQ.2 fun a=>?_)).1 h;simp only[cW,dw];omega
theorem r6.join: ∀ {d:Nat}{st st':St}{b:Nat}{p q:List (Tr d)}{a c:Tr d}{nx:Option Nat},At st (d+1) (lW b (p++a::c::q)) nx->
  (∀wM,st (Tre.blk d c)=some ⟨d == 0,jH d c,wM⟩->st' (Tre.blk d a)=some ⟨d == 0,jH d a++jH d c,wM⟩)->st' b=some ⟨false,(p++jn d a c::q).map (kI d),none⟩->
  (∀x,x≠b->x≠Tre.blk d a->x≠Tre.blk d c->st' x=st x)->r6 st st' (d+1) (lW b (p++a::c::q)) (lW b (p++jn d a c::q)) nx:=by
 intro d st st' b p q a c nx h h1 h2 h3;obtain⟨hb,hp⟩:=bB.1 (RI h.nodup);obtain⟨ags,uA,CR⟩:=bS.1 hp;simp only[au,iX]at hb;obtain⟨⟨F4,FK⟩,kK,lC⟩:=hb;obtain⟨hna,sM,vi⟩:=bS.1 ags;have ma:=r7 d a;have mc:=r7 d c;have vp:=nZ.1 h.rep;have sB:=fun x hx=>by
  refine h3 x (fun e=>?_) (fun e=>?_) (fun e=>?_)
  ·subst e;rcases au.1 hx with hx|hx;exact kK hx;exact lC hx
  ·exact CR _ (bm _ ma) x hx e.symm
  ·exact CR _ (bp _ mc) x hx e.symm
 have hl:=h.uQ;rw[oX,an,aq,aq]at hl;obtain⟨l1,l2⟩:=Lnk.app.1 hl;obtain⟨l2,l3⟩:=Lnk.app.1 l2;obtain⟨l3,l4⟩:=Lnk.app.1 l3;have key:sh d st' (jn d a c)/\Lnk st' (mC d (jn d a c)) (Tre.hd (q.flatMap (mC d)) nx)/\∀C9,Tre.hd (mC d (jn d a c)) C9=Tre.hd (mC d a) (Tre.hd (mC d c) C9):=by
  cases d with
  | zero=>
   refine⟨trivial,⟨?_,trivial⟩,fun _=>rfl⟩;have:=h1 _ l3.1;rw[show me (jn 0 a c).2=jH 0 a++jH 0 c from GA 0 a c];exact this
  | succ d=>
   have e:mC (d+1) (jn (d+1) a c)=mC (d+1) a++mC (d+1) c:=an (xs:=a.2) (ys:=c.2);have ra:=vp.2 a jM;have rc:=vp.2 c jM;have adj:=(bB.1 hna).1;have UU:=(bB.1 sM).1;have ka:=fun x hx=>h3 x (fun e=>F4 (aD _ (by rw[<-e];exact hx))) (fun e=>adj (by have e':x=a.1:=e;rw[<-e'];exact hx)) (fun e=>vi x (aD _ hx) _ mc e);have kc:=fun x hx=>h3 x (fun e=>FK (aD _ (by rw[<-e];exact hx))) (fun e=>vi _ ma x (aD _ hx) e.symm) (fun e=>UU (by have e':x=c.1:=e;rw[<-e'];exact hx));refine⟨⟨?_,fun s hs=>?_⟩,?_,fun C9=>by rw[e,qo]⟩
   ·have:=h1 none rc.1
    show st' a.1=some ⟨false,jH (d+1) (jn (d+1) a c),none⟩
    rw[GA];exact this
   ·rcases au.1 (show s∈List.append a.2 c.2 from hs) with hs|hs
    ·exact(ra.2 s hs).congr fun x hx=>ka x (aG.2 ⟨s,hs,hx⟩)
    ·exact(rc.2 s hs).congr fun x hx=>kc x (aG.2 ⟨s,hs,hx⟩)
   ·rw[e]
    rw[qo]at l2;refine Lnk.app.2 ⟨l2.congr fun x hx=>ka _ (ow (l:=a.2) hx),l3.congr fun x hx=>kc _ (ow (l:=c.2) hx)⟩
 obtain⟨kr,kl,kh⟩:=key;refine⟨⟨nZ.2 ⟨h2,fun u hu=>?_⟩,?_,?_⟩,rfl,fun C9=>?_,fun x hx=>?_,fun x hx=>?_⟩
 ·simp only[au,ax]at hu
  rcases hu with hu|rfl|hu
  ·exact(vp.2 u (by simp[hu])).congr fun x hx=>sB x (bm _ (aG.2 ⟨u,hu,hx⟩))
  ·exact kr
  ·exact(vp.2 u (by simp[hu])).congr fun x hx=>sB x (bp _ (aG.2 ⟨u,hu,hx⟩))
 ·rw[oX,an,aq]
  refine Lnk.app.2 ⟨?_,Lnk.app.2 ⟨kl,l4.congr fun x hx=>sB _ (bp _ (ow hx))⟩⟩;rw[qo,kh,<-qo,<-qo];rw[<-av]at l1;exact l1.congr fun x hx=>sB _ (bm _ (ow hx))
 ·have:(Tre.blk d c::kB (d+1) (lW b (p++jn d a c::q))).Nodup:=by
   refine(da (cQ.2 fun x=>?_)).1 h.nodup;have e:=(Q9 d a c).count_eq x;rw[mD,mD];simp only[an,aq,cW,dw]at e ⊢;omega
  exact(bB.1 this).2
 ·rw[oX,oX]
  simp only[an,aq,qo];rw[kh]
 ·have e:=(Q9 d a c).mem_iff (a:=x)
  rw[mD]at hx ⊢;simp only[an,aq,au,ax]at hx e ⊢;rcases hx with hx|hx|hx|hx
  ·exact .inl hx
  ·exact .inr (.inl hx)
  ·rcases e.1 (.inr hx) with h|h
   ·exact .inr (.inr (.inl h))
   ·exact .inr (.inr (.inr (.inl h)))
  ·exact .inr (.inr (.inr (.inr hx)))
 ·rw[mD]at hx
  simp only[an,aq,au,ax,iX]at hx;exact h3 x hx.1 (fun e=>hx.2.2.1 (by rw[e];exact ma)) (fun e=>hx.2.2.2.1 (by rw[e];exact mc))
theorem r6.share: ∀ {d:Nat}{st st':St}{b:Nat}{p q:List (Tr d)}{a c:Tr d}{nx:Option Nat},At st (d+1) (lW b (p++a::c::q)) nx->
  (∀Vu,st (Tre.blk d a)=some ⟨d == 0,jH d a,Vu⟩->st' (Tre.blk d a)=some ⟨d == 0,(jH d a++jH d c).take j,Vu⟩)->(∀wM,st (Tre.blk d c)=some ⟨d == 0,jH d c,wM⟩->st' (Tre.blk d c)=some ⟨d == 0,(jH d a++jH d c).drop j,wM⟩)->
  st' b=some ⟨false,(p++(rd j d a c).1::(rd j d a c).2::q).map (kI d),none⟩->
  (∀x,x≠b->x≠Tre.blk d a->x≠Tre.blk d c->st' x=st x)->r6 st st' (d+1) (lW b (p++a::c::q)) (lW b (p++(rd j d a c).1::(rd j d a c).2::q)) nx:=by
 intro d st st' b p q a c nx h h1 CE h2 h3;obtain⟨hb,hp⟩:=bB.1 (RI h.nodup);obtain⟨ags,uA,CR⟩:=bS.1 hp;simp only[au,iX]at hb;obtain⟨⟨F4,FK⟩,kK,lC⟩:=hb;obtain⟨hna,sM,vi⟩:=bS.1 ags;have ma:=r7 d a;have mc:=r7 d c;have vp:=nZ.1 h.rep;have sB:=fun x hx=>by
  refine h3 x (fun e=>?_) (fun e=>?_) (fun e=>?_)
  ·subst e;rcases au.1 hx with hx|hx;exact kK hx;exact lC hx
  ·exact CR _ (bm _ ma) x hx e.symm
  ·exact CR _ (bp _ mc) x hx e.symm
 have hl:=h.uQ;rw[oX,an,aq,aq]at hl;obtain⟨l1,l2⟩:=Lnk.app.1 hl;obtain⟨l2,l3⟩:=Lnk.app.1 l2;obtain⟨l3,l4⟩:=Lnk.app.1 l3;have key:sh d st' (rd j d a c).1/\sh d st' (rd j d a c).2/\Lnk st' (mC d (rd j d a c).1++mC d (rd j d a c).2) (Tre.hd (q.flatMap (mC d)) nx)/\∀C9,Tre.hd (mC d (rd j d a c).1++mC d (rd j d a c).2) C9=Tre.hd (mC d a) (Tre.hd (mC d c) C9):=by
  cases d with
  | zero=>
   obtain⟨e1,e2⟩:=Nt j 0 a c;refine⟨trivial,trivial,⟨?_,?_,trivial⟩,fun _=>rfl⟩
   ·have:=h1 _ l2.1
    rw[<-e1]at this;exact this
   ·have:=CE _ l3.1
    rw[<-e2]at this;exact this
  | succ d=>
   obtain⟨e1,e2⟩:=Nt j (d+1) a c;have e:mC (d+1) (rd j (d+1) a c).1++mC (d+1) (rd j (d+1) a c).2=mC (d+1) a++mC (d+1) c:=by
    show List.flatMap (mC d) (List.take j (List.append a.2 c.2))++List.flatMap (mC d) (List.drop j (List.append a.2 c.2))=_
    rw[<-an,aO];exact an (xs:=a.2) (ys:=c.2)
   have ra:=vp.2 a jM;have rc:=vp.2 c jM;have adj:=(bB.1 hna).1;have UU:=(bB.1 sM).1;have ka:=fun x hx=>h3 x (fun e=>F4 (aD _ (by rw[<-e];exact hx))) (fun e=>adj (by have e':x=a.1:=e;rw[<-e'];exact hx)) (fun e=>vi x (aD _ hx) _ mc e);have kc:=fun x hx=>h3 x (fun e=>FK (aD _ (by rw[<-e];exact hx))) (fun e=>vi _ ma x (aD _ hx) e.symm) (fun e=>UU (by have e':x=c.1:=e;rw[<-e'];exact hx));have lO:∀s,s∈List.append a.2 c.2->sh d st' s:=fun s hs=>by
    rcases au.1 hs with hs|hs
    ·exact(ra.2 s hs).congr fun x hx=>ka x (aG.2 ⟨s,hs,hx⟩)
    ·exact(rc.2 s hs).congr fun x hx=>kc x (aG.2 ⟨s,hs,hx⟩)
   refine⟨⟨?_,fun s hs=>lO s (bP hs)⟩,⟨?_,fun s hs=>lO s (dV hs)⟩,?_,fun C9=>by rw[e,qo]⟩
   ·have:=h1 none ra.1
    show st' a.1=some ⟨false,jH (d+1) (rd j (d+1) a c).1,none⟩
    rw[e1];exact this
   ·have:=CE none rc.1
    show st' c.1=some ⟨false,jH (d+1) (rd j (d+1) a c).2,none⟩
    rw[e2];exact this
   ·rw[e]
    rw[qo]at l2;refine Lnk.app.2 ⟨l2.congr fun x hx=>ka _ (ow (l:=a.2) hx),l3.congr fun x hx=>kc _ (ow (l:=c.2) hx)⟩
 obtain⟨kr,kr2,kl,kh⟩:=key;refine⟨⟨nZ.2 ⟨h2,fun u hu=>?_⟩,?_,?_⟩,rfl,fun C9=>?_,fun x hx=>?_,fun x hx=>?_⟩
 ·simp only[au,ax]at hu
  rcases hu with hu|rfl|rfl|hu
  ·exact(vp.2 u (by simp[hu])).congr fun x hx=>sB x (bm _ (aG.2 ⟨u,hu,hx⟩))
  ·exact kr
  ·exact kr2
  ·exact(vp.2 u (by simp[hu])).congr fun x hx=>sB x (bp _ (aG.2 ⟨u,hu,hx⟩))
 ·rw[oX,an,aq,aq,<-av (mC d _)]
  refine Lnk.app.2 ⟨?_,Lnk.app.2 ⟨kl,l4.congr fun x hx=>sB _ (bp _ (ow hx))⟩⟩;rw[qo,kh,<-qo,<-qo];rw[<-av]at l1;exact l1.congr fun x hx=>sB _ (bm _ (ow hx))
 ·refine(da (cQ.2 fun x=>?_)).1 h.nodup
  have e:=(Q2 j d a c).count_eq x;rw[mD,mD];simp only[an,aq,cW,dw]at e ⊢;omega
 ·rw[oX,oX,an,an,aq,aq,aq,aq,<-av (mC d (rd j d a c).1),qo,qo (mC d (rd j d a c).1++_),kh]
  simp only[qo]
 ·have e:=(Q2 j d a c).mem_iff (a:=x)
  rw[mD]at hx ⊢;simp only[an,aq,au,ax]at hx e ⊢;rcases hx with hx|hx|hx|hx|hx
  ·exact .inl hx
  ·exact .inr (.inl hx)
  ·rcases e.1 (.inl hx) with h|h
   ·exact .inr (.inr (.inl h))
   ·exact .inr (.inr (.inr (.inl h)))
  ·rcases e.1 (.inr hx) with h|h
   ·exact .inr (.inr (.inl h))
   ·exact .inr (.inr (.inr (.inl h)))
  ·exact .inr (.inr (.inr (.inr hx)))
 ·rw[mD]at hx
  simp only[an,aq,au,ax,iX]at hx;exact h3 x hx.1 (fun e=>hx.2.2.1 (by rw[e];exact ma)) (fun e=>hx.2.2.2.1 (by rw[e];exact mc))
theorem ai7 (d:Nat)(a c:Tr d): (kB d (jn d a c)).length+1=(kB d a).length+(kB d c).length:=by
 have:=(Q9 d a c).length_eq;simp only[ak,af]at this;exact this
theorem aiN (j d:Nat)(a c:Tr d): (kB d (rd j d a c).1).length+(kB d (rd j d a c).2).length=(kB d a).length+(kB d c).length:=by
 have:=(Q2 j d a c).length_eq;simp only[af]at this;exact this
theorem nodeAt: ∀ {d:Nat}{st:St}{t:Tr d}{nx:Option Nat},sh d st t->Lnk st (mC d t) nx->∃MX,st (blk d t)=some ⟨d == 0,jH d t,MX⟩/\(d≠0->MX=none)
 | 0,_,_,_,_,h=>⟨_,h.1,fun e=>absurd rfl e⟩
 | _+1,_,_,_,h,_=>⟨none,h.1,fun _=>rfl⟩
theorem FJ {st:St}:∀ {l:List (Nat×List KV)},Lnk st l none->∀x∈l,∀nd,st x.1=some nd->∀q,nd.next=some q->st q≠none
 | [],_,_,h,_,_,_,_=>by cases h
 | a::l,h,x,hx,nd,Ch,q,hq=>by
  rcases ax.1 hx with rfl|hx
  ·rw[h.1]at Ch
   obtain rfl:=az Ch;cases l with
   | nil=>cases hq
   | cons y l=>
    have:=(az hq).symm;subst this;rw[h.2.1];simp
  ·exact FJ h.2 x hx nd Ch q hq
theorem Ql {d:Nat}:∀ {l:List (Tr d)},(∀s∈l,4<=j9 d s/\Mn d s)->3*(l.flatMap (kB d)).length+l.length<=(l.flatMap (kN d)).length
 | [],_=>jM
 | s::l,hl=>by
  have h1:=Ql (l:=l) fun x hx=>hl x (by simp[hx]);have h2:=hl s jM;have h3:=Wo h2.2 h2.1;simp only[aq,af,ak];omega
theorem few {T:Tr D}(hm:Mn D T)(hr:D=0\/2<=j9 D T): (kB D T).length<=(kN D T).length+1/\(1<=j9 D T->(kB D T).length<=(kN D T).length):=by
 cases D with
 | zero=>exact⟨by show 1<=_;omega,fun h=>h⟩
 | succ d=>
  have h2:2<=j9 (d+1) T:=by rcases hr with h|h;cases h;exact h
  obtain⟨b,l⟩:=T;have h3:=Ql (l:=l) hm.2;have h4:2<=l.length:=h2;have e1:(kB (d+1) (lW b l)).length=(l.flatMap (kB d)).length+1:=by rw[mD,ak]
  have e2:kN (d+1) (lW b l)=l.flatMap (kN d):=rfl
  show(kB (d+1) (lW b l)).length<=(kN (d+1) (lW b l)).length+1/\(_->(kB (d+1) (lW b l)).length<=(kN (d+1) (lW b l)).length)
  rw[e1,e2];omega
theorem IC:∀ {D d:Nat}(c:Ctx D d) {t t':Tr d},blk d t'=blk d t->blk D (plug c t')=blk D (plug c t)
 | _,_,.top,_,_,h=>by rw[pJ,pJ];exact h
 | _,_,.down c b l r,t,t',_=>by rw[qc,qc];exact IC c rfl
theorem qM.alI {st:St}{k:Ky}{c:Ctx D d}{t:Tr d}{l:List KV}(h:qM st k c t l): ∃nx,Lnk st (mC d t) nx:=by
 have hl:=h.uQ;rw[wK]at hl;obtain⟨h5,-⟩:=Lnk.app.1 hl;obtain⟨-,h5⟩:=Lnk.app.1 h5;exact⟨_,h5⟩
theorem qM.apt {st:St}{k:Ky}{c:Ctx D (d+1)}{l r:List (Tr d)}{s:Tr d}{L:List KV}(h:qM st k c (lW b (l++s::r)) L): ∃nx,st (blk d s)=some ⟨d == 0,jH d s,nx⟩/\(d≠0->nx=none)/\∀q,nx=some q->st q≠none:=by
 have vp:=nZ.1 h.Pu;obtain⟨nx1,h1⟩:=h.alI;obtain⟨nx2,h2⟩:=Be (l:=l++s::r) h1 s jM;obtain⟨nx3,h3,h4⟩:=nodeAt (vp.2 s jM) h2;refine⟨nx3,h3,h4,fun q hq=>?_⟩;cases d with
 | zero=>
  have hm:(s.1,s.2)∈mC D (plug c (lW b (l++s::r))):=by
   rw[wK,oX];simp only[au,an,aq];exact .inl (.inr (.inr (.inl (bn.2 rfl))))
  exact FJ h.uQ _ hm _ h3 q hq
 | succ d=>rw[h4 I]at hq;cases hq
theorem Good.ai8 {st:St}{T:Tr D}{l:List KV}(h:Good st D T l): ∃nx,st (blk D T)=some ⟨D == 0,jH D T,nx⟩/\(D≠0->nx=none)/\∀q,nx=some q->st q≠none:=by
 obtain⟨nx,h1,h2⟩:=nodeAt h.rep h.uQ;refine⟨nx,h1,h2,fun q hq=>?_⟩;cases D with
 | zero=>exact FJ h.uQ (T.1,T.2) (bn.2 rfl) _ h1 q hq
 | succ d=>rw[h2 I]at hq;cases hq
theorem Cu: ∀ {d:Nat}{t:Tr d},Mn d t->1<=j9 d t->∀(z:En),((jH d t).getD 0 z).key=fk d t
 | 0,t,_,h,z=>by
  obtain⟨b,es⟩:=t;cases es with
  | nil=>simp[j9]at h
  | cons e es=>rfl
 | d+1,t,hm,h,z=>by
  obtain⟨b,l⟩:=t;cases l with
  | nil=>simp[j9]at h
  | cons s l=>
   have hs:=hm.2 s (List.Mem.head _)
   show fk d s=Da (List.flatMap (kN d) (s::l))
   rw[aq,u9 (vm hs.2 I)]
   rfl
theorem Ey (l:List (Tr d)): (l.map (kI d)).map En.key=l.map (fk d):=by rw[gD];rfl
theorem Mg (es:List KV): (me es).map En.key=es.map Prod.fst:=by unfold me;rw[gD];rfl
theorem ya (l r:List (Tr d))(s:Tr d)(z:En): ((l++s::r).map (kI d)).getD l.length z=kI d s:=by
 rw[aV,aY,ah,aE jM];simp
theorem qM.kids {st:St}{k:Ky}{c:Ctx D (d+1)}{ks:List (Tr d)}{L:List KV}(h:qM st k c (lW b ks) L): (∀s∈ks,4<=j9 d s/\Mn d s)/\ks.length<=8/\tL (ks.flatMap (kN d)):=by
 obtain⟨-,-,h1,h2⟩:=yO.1 h.mn;refine⟨h2,h1,?_⟩;have he:=h.el;rw[ym]at he;have hs:=h.xr;rw[<-he]at hs;exact(sg.1 (sg.1 hs).1).2.1
theorem qM.two {st:St}{k:Ky}{c:Ctx D (d+1)}{t:Tr (d+1)}{l:List KV}(h:qM st k c t l): 2<=j9 (d+1) t:=by
 cases c with
 | top=>
  rcases h.root with e|e
  ·cases e
  ·rwa [pJ]at e
 | down c b l r=>
  have:=(yO.1 h.mn).2.1;unfold lowC at this;omega
theorem Ws (l r:List α)(x:α): (l++x::r)[l.length]? = some x:=by rw[aE (aj _),gE];rfl
theorem WK {k:Ky}{l r l1 r1:List (Tr d)}{s1 s2 s':Tr d}(he:l++s1::s2::r=l1++s'::r1)(h1:kN d s1≠[])(hr:∀x∈r,kN d x≠[])(hf:l≠[]->kl k (fk d s1)=false)(qZ:Hi (r.flatMap (kN d)) k)(ZD:Hi (r1.flatMap (kN d)) k)(ou:l1≠[]->kl k (fk d s')=false): s'=s1\/s'=s2:=by
 have g1:(l1++s'::r1)[l.length]? = some s1:=by rw[<-he];exact Ws _ _ _
 have g2:(l++s1::s2::r)[l1.length]? = some s':=by rw[he];exact Ws _ _ _
 have agL:∀ {q:List (Tr d)}{x:Tr d},Hi (q.flatMap (kN d)) k->x∈q->kN d x≠[]->kl k (fk d x)=true:=fun {q x} hq hx hn=>by
  obtain⟨e,he,hek⟩:=II hn;have:=hq e (aG.2 ⟨x,hx,he⟩);rw[hek]at this;exact this
 rcases aW l1.length l.length with j6|hge
 ·exfalso
  rw[aE I,show l.length - l1.length=(l.length - l1.length - 1)+1 by omega,cA]at g1;have:=agL ZD (dW g1) h1;rw[hf (fun e=>by rw[e]at j6;simp at j6)]at this;cases this
 ·rw[aE hge]at g2
  rcases aW (l1.length - l.length) 2 with h|h
  ·rcases aW (l1.length - l.length) 1 with h0|h0
   ·rw[show l1.length - l.length=0 by omega]at g2
    left;exact(az g2).symm
   ·rw[show l1.length - l.length=1 by omega]at g2
    right;exact(az g2).symm
  ·exfalso
   rw[show l1.length - l.length=(l1.length - l.length - 2)+1+1 by omega,cA,cA]at g2;have hm:=dW g2;have:=agL qZ hm (hr _ hm);rw[ou (fun e=>by rw[e]at h;simp at h)]at this;cases this
theorem U_ (l r:List (Tr d))(s:Tr d)(x:En): ((l++s::r).map (kI d)).set l.length x=l.map (kI d)++x::r.map (kI d):=by
 rw[aV,aY,dj _ _ jM];simp
theorem uh (es:List KV){p:Nat}(hp:p<es.length)(z:En): (me es).getD p z=⟨es[p].1,es[p].2,none⟩:=by simp[me,hp]
theorem nY (es:List KV): (me es).length=es.length:=by simp[me]
theorem qM.get {st:St}{k:Ky}{c:Ctx D 0}{es:List KV}{L:List KV}(h:qM st k c (tr b es) L): getL k L=getL k es/\tL es:=by
 have he:=h.el;have hs:=h.xr;rw[ym]at he;have he':cl c++es++cr c=L:=he;rw[<-he']at hs ⊢;refine⟨by rw[av,Nm h.lo,Ec h.hi],(sg.1 (sg.1 hs).1).2.1⟩
end Tre
def Fo (w:World)(b o:Nat)(l:List Value):Prop:=∀j,j<l.length->w.cell? ⟨b,o+j,none⟩=some (l.getD j undef)
theorem Fo.j_ {l:List Value}(h:Fo w b o l)(hb:w'.heap[b]? = w.heap[b]?): Fo w' b o l:=by
 intro j hj;rw[<-h j hj];exact bM (w:=w) hb
theorem Fo.HV {l:List Value}(h:U T w b l): Fo w b 0 l:=fun j hj=>by rw[bA];exact h.cell j hj
def lY (l:List Value):Prop:=∀u∈l,u.oneCell'=true
theorem lY.append {l l':List Value}(h:lY l)(h':lY l'): lY (l++l'):=fun u hu=>(au.1 hu).elim (h u) (h' u)
theorem lY.str (l:List ByteArray): lY (l.map Value.string):=fun u hu=>by obtain⟨_,_,rfl⟩:=bD.1 hu;rfl
theorem lY.int (k:IntKind)(l:List Int): lY (l.map (Value.int k)):=fun u hu=>by obtain⟨_,_,rfl⟩:=bD.1 hu;rfl
def ph (w:World)(O:Nat->Prop)(m:Nat)(v:Value)(n:Nat)(l:List Value):Prop :=
 l.length=n*m/\lY l/\∃sp cap,v=.slice sp n cap/\n<=cap/\cap<=9223372036854775807/\(sp=none->cap=0)/\(0<n->∃b o,sp=some ⟨b,o,none⟩/\b<w.heap.size/\O b/\Fo w b o l)
theorem ph.jA {n:Nat}{v:Value}{l:List Value}(h:ph w O m v n l){K:Nat->Prop}(hk:Z K w w')(hK:∀b,O b->b<w.heap.size->K b): ph w' O m v n l:=by
 obtain⟨h1,h2,sp,cap,h3,h4,h5,h6,h7⟩:=h;exact⟨h1,h2,sp,cap,h3,h4,h5,h6,fun hn=>let ⟨b,o,e,hb,hO,hr⟩:=h7 hn;⟨b,o,e,ao hb hk.size,hO,hr.j_ (hk.block b (hK b hO hb))⟩⟩
theorem ph.below {n:Nat}{v:Value}{l:List Value}(h:ph w O m v n l)(hk:Below B w w')(hB:w.heap.size<=B): ph w' O m v n l :=
 h.jA (Z.jw hk) (fun _ _ hb=>ao hb hB)
def jY (e:TypeId)(m:Nat)(w:World)(O:Nat->Prop)(v:Value)(n:Nat)(l:List Value):Prop :=
 w.ownsRow 0 e m v n l/\lY l/\∀g,v.ownBlock=some g->O g
theorem jY.nil (e:TypeId)(m:Nat)(w:World)(O:Nat->Prop): jY e m w O (.slice none 0 0) 0 []:=⟨World.ownsRow_nil _ _ _ _,fun _ h=>(a_ h).elim,fun g h=>by cases h⟩
theorem jY.len {e:TypeId}{v:Value}{n:Nat}{l:List Value}(h:jY e m w O v n l): l.length=n*m:=h.1.1
theorem jY.form {e:TypeId}{v:Value}{n:Nat}{l:List Value}(h:jY e m w O v n l):
  (v=.slice none 0 0/\n=0/\l=[])\/∃g cap cur,v=.slice (some ⟨g,0,none⟩) n cap/\O g/\g<w.heap.size/\w.heap[g]? = some (.cells cur e (0,0))/\n<=cap/\cap<=maxLen/\cur.size=cap*m/\cur.toList.take (n*m)=l:=by
 obtain⟨⟨h1,h2⟩,-,h3⟩:=h;rcases h2 with⟨rfl,rfl⟩|⟨g,cap,cur,rfl,-,hg,h4,h5,h6,h7⟩
 ·exact .inl ⟨rfl,rfl,bF (by simpa using h1)⟩
 ·exact .inr ⟨g,cap,cur,rfl,h3 g rfl,dz hg,hg,h4,h5,h6,h7⟩
theorem jY.EM {e:TypeId}{v:Value}{n:Nat}{l:List Value}(h:jY e m w O v n l): ph w O m v n l:=by
 refine⟨h.1.1,h.2.1,?_⟩;have hc:=h;rcases h.form with⟨rfl,rfl,rfl⟩|⟨g,cap,cur,rfl,hO,j6,hg,h4,h5,h6,h7⟩
 ·exact⟨none,0,rfl,I,I,fun _=>rfl,fun h=>by omega⟩
 ·refine⟨_,cap,rfl,h4,h5,(fun h=>by cases h),fun _=>⟨g,0,rfl,j6,hO,fun j hj=>?_⟩⟩
  rw[bA];have:=dU hc.1 j (by rw[<-hc.1.1];exact hj);rw[this];simp[hj]
theorem jY.slice {e:TypeId}{v:Value}{n:Nat}{l:List Value}(h:jY e m w O v n l): ∃sp cap,v=.slice sp n cap/\n<=cap/\cap<=9223372036854775807:=by
 rcases h.form with⟨rfl,rfl,-⟩|⟨g,cap,cur,rfl,-,-,-,h4,h5,-⟩
 ·exact⟨none,0,rfl,I,I⟩
 ·exact⟨_,_,rfl,h4,by unfold maxLen at h5;exact h5⟩
theorem jY.j_ {e:TypeId}{v:Value}{n:Nat}{l:List Value}(h:jY e m w O v n l)(hb:∀g,v.ownBlock=some g->w'.heap[g]? = w.heap[g]?): jY e m w' O v n l:=by
 refine⟨⟨h.1.1,?_⟩,h.2⟩;rcases h.1.2 with hn|⟨g,cap,cur,rfl,Gy,hg,r⟩
 ·exact .inl hn
 ·exact .inr ⟨g,cap,cur,rfl,Gy,by rw[hb g rfl];exact hg,r⟩
theorem jY.lt {e:TypeId}{v:Value}{n:Nat}{l:List Value}(h:jY e m w O v n l)(hg:v.ownBlock=some g): g<w.heap.size:=(World.ownsRow.lt h.1 g hg).2
theorem jY.own {e:TypeId}{v:Value}{n:Nat}{l:List Value}(h:jY e m w O v n l)(hg:v.ownBlock=some g): O g:=h.2.2 g hg
theorem jY.jA {e:TypeId}{v:Value}{n:Nat}{l:List Value}(h:jY e m w O v n l){K:Nat->Prop}(hk:Z K w w')(hK:∀g,v.ownBlock=some g->K g): jY e m w' O v n l :=
 h.j_ fun g hg=>hk.block g (hK g hg)
theorem jY.mono {e:TypeId}{O':Nat->Prop}{v:Value}{n:Nat}{l:List Value}(h:jY e m w O v n l)(hO:∀b,O b->O' b): jY e m w O' v n l:=⟨h.1,h.2.1,fun g hg=>hO g (h.2.2 g hg)⟩
theorem jY.alloc {e:TypeId}{v:Value}{n:Nat}{l:List Value}(h:jY e m w O v n l)(o:Obj): jY e m (w.alloc o) O v n l :=
 h.j_ fun g hg=>Below.heap_alloc w o g (h.lt hg)
theorem jY.tag {e:TypeId}{v:Value}{n:Nat}{l:List Value}(h:jY e m w O v n l)(hg:v.ownBlock=some g): ∃cur,w.heap[g]? = some (.cells cur e (0,0)):=by
 rcases h.form with⟨rfl,-⟩|⟨g',cap,cur,rfl,-,-,Xz,-⟩
 ·cases hg
 ·cases hg;exact⟨cur,Xz⟩
theorem jY.stored {e:TypeId}{n:Nat}{l:List Value}(h:jY e m w O (.slice (some ⟨g,0,none⟩) n cap) n l)(j:Nat){u:Value}(hu:u.oneCell'=true):
  jY e m (w.setCell ⟨g,j,none⟩ u) O (.slice (some ⟨g,0,none⟩) n cap) n (l.set j u) :=
 ⟨(World.ownsRow.stored h.1 j u).1,fun x hx=>by
  rcases dh hx with h1|rfl
  ·exact h.2.1 x h1
  ·exact hu,h.2.2⟩
theorem jY.free {e:TypeId}{n:Nat}{l:List Value}(h:jY e m w O (.slice (some ⟨g,0,none⟩) n cap) n l)(j:Nat): w.frozen? ⟨g,j,none⟩=false:=World.ownsRow.frozenAt h.1 j
theorem jY.at {e:TypeId}{n:Nat}{l:List Value}(h:jY e m w O (.slice (some ⟨g,0,none⟩) n cap) n l)(j:Nat)(hj:j<l.length): w.cell? ⟨g,j,none⟩=some (l.getD j undef):=by
 rw[dU h.1 j (by rw[<-h.1.1];exact hj)];simp[hj]
structure na (P:Program) (t e:TypeId) (m bytes:Nat):Prop where
 ht:P.underlying t=some (.slice e)
 pos:0<m
 ex:∃i z,P.info? e=some i/\i.zero=some z/\i.size=m/\i.bytes=bytes/\z.cells.size=m
theorem na.mk' {P:Program}{t e:TypeId}{z:Value}(ht:P.underlying t=some (.slice e))(hi:(P.info? e).map (fun i=>(i.zero,i.size,i.bytes))=some (some z,m,bytes))(hz:z.cells.size=m)(hp:0<m): na P t e m bytes :=
 ⟨ht,hp,let ⟨i,h1,h2,h3,h4⟩:=jo hi;⟨i,_,h1,h2,h3,h4,hz⟩⟩
theorem qE {r:Option Nat}(hg:w.grownBy w' r): Z (fun b=>b<w.heap.size/\r≠some b) w w' :=
 ⟨hg.os,hg.tape,hg.output,hg.size,fun k hk=>hg.block k hk.1 (fun e=>hk.2 e.symm)⟩
theorem ph.news {n:Nat}{v:Value}{l:List Value}(h:ph w O m v n l):
  (v=.slice none 0 0/\n=0/\l=[])\/∃ad cap,v=.slice (some ad) n cap/\n<=cap/\∀j u,l[j]? = some u->w.cell? (ad.add j)=some u:=by
 obtain⟨h1,h2,sp,cap,h3,h4,h5,h6,h7⟩:=h;cases sD:sp with
 | none=>
  have:=h6 sD;have hn:n=0:=I;subst hn;exact .inl ⟨by rw[h3,sD,this],rfl,bF (by simpa using h1)⟩
 | some ad=>
  refine .inr ⟨ad,cap,by rw[h3,sD],h4,fun j u hu=>?_⟩;have hj:j<l.length:=by
   rcases aW j l.length with h|h
   ·exact h
   ·simp[h]at hu
  have hn:0<n:=by
   rcases gN n with h0|h0
   ·subst h0;simp at h1;rw[h1]at hj;cases hj
   ·exact h0
  obtain⟨b,o,e,-,-,hr⟩:=h7 hn;rw[sD]at e;cases e
  rw[Bc,hr j hj]
  simpa[hj] using hu
theorem abX {P:Program}{t ty e:TypeId}(E:na P t e m bytes){v:Value}{n:Nat}{l:List Value}(jW:jY e m w O v n l){x:Value}(hx:ph w O2 m x n2 l2)(O_:n+n2<=maxLen)(tZ:(n+n2)*bytes<=140737488355328):
  ∃v' w',(Builtin.append_ #[t,t] ty #[v,x]).run P w=.ok v' w'/\jY e m w' (fun g=>O g\/g=w.heap.size) v' (n+n2) (l++l2)/\w.grownBy w' v.ownBlock/\(∀g,v'.ownBlock=some g->v.ownBlock=some g\/g=w.heap.size):=by
 obtain⟨i,z,hi,hz,CN,yD,SH⟩:=E.ex;rcases hx.news with⟨rfl,rfl,rfl⟩|⟨ad,cap,rfl,hc,hn⟩
 ·refine⟨v,w,run_append_owned_none (P:=P) (w:=w) 0 t ty e i m E.ht hi v n _ jW.1,?_,World.grownBy.refl _ _,fun g hg=>.inl hg⟩
  rw[aP];exact jW.mono (fun _ h=>.inl h)
 ·rcases gN n2 with h0|h0
  ·subst h0
   have sL:=bF (by simpa using hx.1);subst sL;obtain⟨v',w',hr,h2,h3,h4,h5⟩:=run_append_own_at (P:=P) w 0 t ty e i z m bytes E.ht hi hz CN yD SH E.pos v n l jW.1 ad 0 cap [] jM jM jM O_ tZ (ay _);have h6:∀g,v'.ownBlock=some g->v.ownBlock=some g\/g=w.heap.size:=by
    intro g hg;rcases h5 with h5|h5
    ·exact .inl (by rw[<-h5];exact hg)
    ·rw[h5]at hg;cases hg;exact .inr rfl
   exact⟨v',w',hr,⟨h2,jW.2.1.append hx.2.1,fun g hg=>(h6 g hg).imp (jW.2.2 g) id⟩,h3,h6⟩
  ·obtain⟨g,c,w',hr,h2,h3,h4,h5⟩:=run_append_lies (P:=P) w t ty 0 e i z m bytes E.ht hi hz CN yD SH E.pos v n l jW.1 ad n2 cap l2 hx.1 hn hx.2.1 h0 O_ tZ (ay _) w.heap.size rfl
   have h6:∀g',(Value.slice (some ⟨g,0,none⟩) (n+n2) c).ownBlock=some g'->v.ownBlock=some g'\/g'=w.heap.size:=by
    intro g' hg;cases hg;exact h4
   exact⟨_,w',hr,⟨h2,jW.2.1.append hx.2.1,fun g hg=>(h6 g hg).imp (jW.2.2 g) id⟩,h3,h6⟩
theorem T5 {P:Program}{o:Oper}{K:Act->World->Prop}(s x:Operand)(t:TypeId)(ho:o.op=.call { callee:=.builtin .append,args:=#[s,x],argTypes:=#[t,t]}){e:TypeId}(E:na P t e m bytes){v:Value}{n:Nat}{l:List Value}(hs:a.eval s=v)(jW:jY e m w O v n l)(hx:a.eval x=xv)(nG:ph w O2 m xv n2 l2)(hn:n+n2=n')(O_:n'<=maxLen)(tZ:n'*bytes<=140737488355328)(h:∀sp c w',jY e m w' (fun g=>O g\/g=w.heap.size) (.slice sp n' c) n' (l++l2)->w.grownBy w' v.ownBlock->(∀g,(Value.slice sp n' c).ownBlock=some g->v.ownBlock=some g\/g=w.heap.size)->K (a.put o.dst (.slice sp n' c)) w'): o.wp P a w K Q:=by
 subst hn;obtain⟨v',w',hr,h2,h3,h4⟩:=abX (P:=P) (ty:=o.type) E jW nG O_ tZ;have hv:∃sp c,v'=.slice sp (n+n2) c:=by
  rcases h2.form with⟨rfl,h0,-⟩|⟨g,cap,cur,rfl,-⟩
  ·exact⟨none,0,by rw[h0]⟩
  ·exact⟨_,_,rfl⟩
 obtain⟨sp,c,rfl⟩:=hv;unfold Oper.wp execOp;simp only[ho,resolve,invoke,builtin,bK,fJ,bG,cO,aY,dy,hs,hx,hr];exact h sp c w' h2 h3 h4
theorem yh {P:Program}{o:Oper}(tp:o.guard=none)(s x:Operand)(t:TypeId)(ho:o.op=.call { callee:=.builtin .append,args:=#[s,x],argTypes:=#[t,t]}){e:TypeId}(E:na P t e m bytes){v:Value}{n:Nat}{l:List Value}(hs:a.eval s=v)(jW:jY e m w O v n l)(hx:a.eval x=xv)(nG:ph w O2 m xv n2 l2)(hn:n+n2=n')(O_:n'<=maxLen)(tZ:n'*bytes<=140737488355328)(h:∀sp c w',jY e m w' (fun g=>O g\/g=w.heap.size) (.slice sp n' c) n' (l++l2)->w.grownBy w' v.ownBlock->(∀g,(Value.slice sp n' c).ownBlock=some g->v.ownBlock=some g\/g=w.heap.size)->wpList P ops Q rest (a.put o.dst (.slice sp n' c)) w'): wpList P ops Q (o::rest) a w :=
 fK tp fun _ hK=>T5 s x t ho E hs jW hx nG hn O_ tZ fun sp c w' h2 h3 h4=>hK _ _ (h sp c w' h2 h3 h4)
theorem Xv {P:Program}{o:Oper}{K:Act->World->Prop}(tp:o.guard=none)(s x:Operand)(t:TypeId)(ho:o.op=.call { callee:=.builtin .append,args:=#[s,x],argTypes:=#[t,t]}){e:TypeId}(E:na P t e m bytes){v:Value}{n:Nat}{l:List Value}(hs:a.eval s=v)(jW:jY e m w O v n l)(hx:a.eval x=xv)(nG:ph w O2 m xv n2 l2)(hn:n+n2=n')(O_:n'<=maxLen)(tZ:n'*bytes<=140737488355328)(h:∀sp c w',jY e m w' (fun g=>O g\/g=w.heap.size) (.slice sp n' c) n' (l++l2)->w.grownBy w' v.ownBlock->(∀g,(Value.slice sp n' c).ownBlock=some g->v.ownBlock=some g\/g=w.heap.size)->K (a.put o.dst (.slice sp n' c)) w'):
  if Region.wanted o (yielded ops a.tmps)=true then Oper.wp P o a w K Q else F:=by
 rw[ag (by simp[Region.wanted,tp])];exact T5 s x t ho E hs jW hx nG hn O_ tZ h
theorem JM {P:Program}{o:Oper}{K:Act->World->Prop}(tp:o.guard=none)(s x:Operand)(t:TypeId)(ho:o.op=.call { callee:=.builtin .append,args:=#[s,x],argTypes:=#[t,t]}){e:TypeId}(E:na P t e m bytes){sp:Option Addr}{n cc:Nat}{l:List Value}(hs:a.eval s=.slice sp n n)(jW:ph w O m (.slice sp n cc) n l)(hx:a.eval x=xv)(nG:ph w O2 m xv n2 l2)(h0:0<n2)(hn:n+n2=n')(O_:n'<=maxLen)(tZ:n'*bytes<=140737488355328)(h:∀sp c w',jY e m w' (fun g=>w.heap.size<=g) (.slice sp n' c) n' (l++l2)->w.grownBy w' none->K (a.put o.dst (.slice sp n' c)) w'):
  if Region.wanted o (yielded ops a.tmps)=true then Oper.wp P o a w K Q else F:=by
 subst hn;obtain⟨i,z,hi,hz,CN,yD,SH⟩:=E.ex;rcases nG.news with⟨rfl,rfl,-⟩|⟨ad,cap,rfl,hc,hnw⟩
 ·omega
 ·refine step_append_grows tp s x t ho e i z m bytes E.ht hi hz CN yD SH E.pos sp n n l hs ?_ jW.1 ?_ ad n2 cap l2 hx nG.1 hnw nG.2.1 I O_ tZ ?_
  ·intro e0;subst e0
   rcases jW.news with⟨-,h1,-⟩|⟨_,_,h1,_⟩
   ·exact⟨h1,h1⟩
   ·cases h1
  ·intro b hb;subst hb
   rcases jW.news with⟨h1,-,-⟩|⟨ad',cp,h1,-,h2⟩
   ·cases h1
   ·injection h1 with h1 _ _;cases h1;exact h2
  ·intro v' w' h1 h2
   rcases h1.2 with⟨-,h3⟩|⟨g,oa,cur,rfl,hb,r⟩
   ·omega
   ·exact h _ _ w' ⟨⟨h1.1,.inr ⟨g,oa,cur,rfl,ay _,r⟩⟩,jW.2.1.append nG.2.1,fun g' e=>by cases e;exact hb⟩ h2
theorem ph.fresh (w:World)(O:Nat->Prop)(T:TypeId){n:Nat}{l:List Value}(hl:l.length=n*m)(h1:lY l)(hO:O w.heap.size)(hn:n<=maxLen):
  ph (w.alloc (.cells l.toArray T)) O m (.slice (some ⟨w.heap.size,0,none⟩) n n) n l :=
 ⟨hl,h1,_,n,rfl,aj _,by unfold maxLen at hn;exact hn,(fun h=>by cases h),fun _=>⟨_,0,rfl,jM,hO,Fo.HV (U.mk w l T)⟩⟩
theorem jY.empty (w:World)(e:TypeId)(m:Nat): jY e m (w.alloc (.cells #[] e)) (fun g=>g=w.heap.size) (.slice (some ⟨w.heap.size,0,none⟩) 0 0) 0 [] :=
 ⟨⟨jM,.inr ⟨w.heap.size,0,#[],rfl,ay _,cz _ _,I,by unfold maxLen;omega,jM,jM⟩⟩,fun _ h=>(a_ h).elim,fun g h=>by cases h;rfl⟩
theorem Co (h:Below B w w')(n:Nat): Below B w (w'.drewN n):=((Z.jw h).drewN n).below
theorem akF {a b:ByteArray}(h:a.toList=b.toList): a=b:=by
 rw[aJ,aJ]at h;exact WideShapes.bytes_inj h
theorem ajV {a b:ByteArray}(h:a≠b): ¬a.toList=b.toList:=fun e=>h (akF e)
theorem results_cell_tmp {P:Program}{fn:Func}{p q:Tmp}{ty:TypeId}(h:fn.results=#[.cell p ty,.tmp q]) (tmps:Array Value) (w:World) (g:Nat) (t:TypeId) (cs:Array Value) (fr:Nat×Nat) (d:TypeDesc) (x:Value)
  (hp:tmps.getD p undef=.pointer (some ⟨g,0,none⟩)) (hg:w.heap[g]? = some (.cells cs t fr))
  (hu:P.underlying ty=some d) (hd:(match d with|.struct _|.array _ _=>true|_=>false)=true) (hi:(P.info? ty).map (·.size)=some cs.size) (hx:tmps.getD q undef=x) :
  (results fn tmps).run P w=.ok (.tuple #[.agg cs,x]) w:=by
 have hp':tmps[p]?.getD undef=.pointer (some ⟨g,0,none⟩):=by simpa using hp
 have YB:tmps[q]?.getD undef=x:=by simpa using hx
 simp[results,h,hp',YB,asAddr,run_loadVar_row w g t ty cs fr d hg hu hd hi]
open BigFrame
namespace Ld
end Ld
namespace K
def FF (r:Option Nat):Fence:={ Fence.wide with round:=r }
def cw (md:Option (Option Nat))(P:Program)(c:Code)(Q:Exit->Act->World->Prop)(a:Act)(w:World):Prop :=
 match md with
 | none=>c.wp P Q a w
 | some r=>c.wpIn (FF r) 1 P Q a w
def lw (md:Option (Option Nat))(P:Program)(ops:Array Oper)(Q:Exit->Act->World->Prop)(rest:List Oper)(a:Act)(w:World):Prop :=
 match md with
 | none=>wpList P ops Q rest a w
 | some r=>wpListIn (FF r) 1 P ops Q rest a w
section
variable {md:Option (Option Nat)}{P:Program}{Q Q':Exit->Act->World->Prop}{a:Act}{w w':World}{ops:Array Oper}{rest:List Oper}{o:Oper}{K K':Act->World->Prop}{r:Option Nat}
theorem Vy (hq:∀e a w,Q e a w->Q' e a w)(h:cw md P c Q a w): cw md P c Q' a w:=by
 cases md with
 | none=>exact Code.wp_mono hq h
 | some r=>exact Go.wpIn_mono h hq
theorem akv {x:Code}(h:cw md P x (Exit.then (cw md P y Q) Q) a w): cw md P (.seq x y) Q a w:=by
 cases md with
 | none=>exact wp_seq h
 | some r=>exact wpIn_seq h
theorem abx (h:cw md P c (Exit.inBlock id Q) a w): cw md P (.block id c) Q a w:=by
 cases md with
 | none=>exact wp_block h
 | some r=>exact wpIn_block h
theorem afs (h:Q .normal a w): cw md P .skip Q a w:=by
 cases md with
 | none=>exact wp_skip h
 | some r=>exact wpIn_skip h
theorem ahd (h:Q (.exit id) a w): cw md P (.exit id) Q a w:=by
 cases md with
 | none=>exact wp_exit h
 | some r=>exact wpIn_exit h
theorem ajt (h:Q .ret a w): cw md P .ret Q a w:=by
 cases md with
 | none=>exact wp_ret h
 | some r=>exact wpIn_ret h
theorem WX {l:List Oper}(h:lw md P l.toArray Q l a w): cw md P (.region id l.toArray false) Q a w:=by
 cases md with
 | none=>exact wp_region_lit h
 | some r=>exact wpIn_region_lit h
theorem agc {c:Operand}{x:Code}{t:Bool}(hc:a.eval c=.bool t)(ht:t=true->cw md P x Q a w)(hf:t=false->cw md P y Q a w): cw md P (.cond c x y) Q a w:=by
 cases md with
 | none=>exact wp_cond_split hc ht hf
 | some r=>exact wpIn_cond_split hc ht hf
theorem ahV (aEV:Nat->Act->World->Prop)(n₀:Nat)(h₀:aEV n₀ a w)(round:∀n a w,aEV n a w->cw md P c (Exit.then (fun a' w'=>∃n',n'<n/\aEV n' a' w') Q) a w): cw md P (.loop c) Q a w:=by
 cases md with
 | none=>exact wp_loop_ghost aEV n₀ h₀ round
 | some r=>exact wpIn_loop_ghost aEV n₀ h₀ round
theorem aj_ {P:Program}(h:Q .normal a w): lw md P ops Q [] a w:=by
 cases md with
 | none=>exact h
 | some r=>exact h
theorem YV {v:Next}(hv:∀d,v≠.defer d)(hr:(execOp a.eval o).run P w=.ok v w'): ∀c,o.op≠.defer c:=by
 intro c hc;unfold execOp at hr;rw[hc]at hr;simp only[bK]at hr;cases h:(resolve a.eval c o.type).run P w with
 | ok d w2=>rw[h]at hr;simp at hr;exact hv _ hr.1.symm
 | halt x w2=>rw[h]at hr;cases hr
theorem BE {v:Next}(hv:∀d,v≠.defer d)(hr:(execOp a.eval o).run P w=.ok v w'): (o.semAt r a.eval).run P w=.ok v w':=by
 rw[Oper.semAt_eq r a.eval o (YV hv hr)];exact hr
theorem PZ {v:Value}(hg:o.guard=none)(hr:(execOp a.eval o).run P w=.ok (.value v) w')(h:lw md P ops Q rest (a.put o.dst v) w'): lw md P ops Q (o::rest) a w:=by
 cases md with
 | none=>exact fK hg fun K hK=>by unfold Oper.wp;rw[hr,Oper.upon_value];exact hK _ _ h
 | some r=>exact fL hg fun K hK=>⟨fun _ _=>trivial,by show o.uponIn (FF r) 1 P a K Q ((o.semAt r a.eval).run P w);rw[BE (by intro d hd;cases hd) hr,Oper.uponIn_value];exact hK _ _ h⟩
theorem ae_ (hg:o.guard=none)(hr:(execOp a.eval o).run P w=.ok .skip w')(h:lw md P ops Q rest (a.put o.dst undef) w'): lw md P ops Q (o::rest) a w:=by
 cases md with
 | none=>exact fK hg fun K hK=>by unfold Oper.wp;rw[hr,Oper.upon_skip];exact hK _ _ h
 | some r=>exact fL hg fun K hK=>⟨fun _ _=>trivial,by show o.uponIn (FF r) 1 P a K Q ((o.semAt r a.eval).run P w);rw[BE (by intro d hd;cases hd) hr,Oper.uponIn_skip];exact hK _ _ h⟩
theorem VD {n:Nat}(h:Calls P f args w R): CallsIn (FF r) n P f args w R:=by
 cases r with
 | none=>exact js.2 h
 | some l=>exact CallsIn.inRound l (js.2 h)
theorem P0 (hg:o.guard=none)(hr:(execOp a.eval o).run P w=.ok (.enter f args) w')(h:Calls P f args w' fun e w2=>∃v,e=.returned v/\lw md P ops Q rest (a.put o.dst v) w2): lw md P ops Q (o::rest) a w:=by
 cases md with
 | none=>
  exact fK hg fun K hK=>by
   unfold Oper.wp;rw[hr,Oper.upon_enter];refine h.mono fun e w2 hh=>?_;obtain⟨v,rfl,h2⟩:=hh;exact hK _ _ h2
 | some r=>
  refine fL hg fun K hK=>⟨fun _ _=>trivial,?_⟩
  show o.uponIn (FF r) 1 P a K Q ((o.semAt r a.eval).run P w)
  rw[BE (by intro d hd;cases hd) hr,Oper.uponIn_enter];refine⟨fun _=>aj 1,(VD h).mono fun e w2 hh=>?_⟩;obtain⟨v,rfl,h2⟩:=hh;exact hK _ _ h2
theorem ab_ {l:Nat}(hg:o.guard=none)(hr:(execOp a.eval o).run P w=(Instr.yield l args).run P w)(hy:YieldAt Fence.wide 0 P l args w R)(h:∀e w2,R e w2->∃v,e=.returned v/\lw (some none) P ops Q rest (a.put o.dst v) w2): lw (some none) P ops Q (o::rest) a w:=by
 obtain⟨fn,tmps,assign,body,h1,h2⟩:=hy;refine fL hg fun K hK=>⟨fun _ _=>trivial,?_⟩
 show o.uponIn (FF none) 1 P a K Q ((o.semAt none a.eval).run P w)
 rw[BE (by intro d hd;cases hd) (hr.trans h1),Oper.uponIn_round];refine⟨fun _=>aj 1,RoundIn.mono h2 fun e w2 hh=>?_⟩;obtain⟨v,rfl,h3⟩:=h e w2 hh;exact hK _ _ h3
theorem apW (hw:Region.wanted o (yielded ops a.tmps)=true)(h:lw md P ops Q ({ o with guard:=none }::rest) a w): lw md P ops Q (o::rest) a w:=by
 have nQ:Region.wanted { o with guard:=none } (yielded ops a.tmps)=true:=rfl;cases md with
 | none=>
  change wpList P ops Q _ a w at h
  show wpList P ops Q _ a w
  unfold wpList at h ⊢;rw[ag nQ]at h;rw[ag hw];exact h
 | some r=>
  change wpListIn (FF r) 1 P ops Q _ a w at h
  show wpListIn (FF r) 1 P ops Q _ a w
  unfold wpListIn at h ⊢;rw[ag nQ]at h;rw[ag hw];exact h
theorem ai3 (hw:Region.wanted o (yielded ops a.tmps)=false)(h:lw md P ops Q rest (a.put o.dst undef) w): lw md P ops Q (o::rest) a w:=by
 have nQ:¬Region.wanted o (yielded ops a.tmps)=true:=by rw[hw];exact dH
 cases md with
 | none=>show wpList P ops Q _ a w;unfold wpList;rw[aa nQ];exact h
 | some r=>show wpListIn (FF r) 1 P ops Q _ a w;unfold wpListIn;rw[aa nQ];exact⟨fun _ _=>trivial,h⟩
def Ls (Q:Exit->Act->World->Prop):Exit->Act->World->Prop
 | .outgrown,_,_=>False
 | e,a,w=>Q e a w
theorem ajv {n:Nat}{row:String}{R:Value->World->Prop}(h:Rows P row args w R): RowsIn (FF r) n P row args w R:=by
 have h1:RowsIn Fence.wide n P row args w R:=fun c cs _=>let ⟨v,w',hR,hs⟩:=h c cs;⟨v,w',hR,stepsIn_wide.2 hs⟩
 exact h1
theorem acp (hk:∀a w, K a w->K' a w)(h:o.wp P a w K (Exit.then K (Ls Q))): o.wp P a w K' Q := by
  unfold Oper.wp at h ⊢
  revert h
  generalize (execOp a.eval o).run P w=x; intro h; cases x with
  | ok x w2=>
    cases x<;>first|exact hk _ _ h|exact h|skip
    all_goals first
      | (refine Calls.mono h fun e w3 h3=>?_
         cases e with
         | returned v=>exact hk _ _ h3
         | panicked ch=>exact h3
         | outgrown=>obtain⟨a4, w4, h4⟩ := h3; exact h4.elim)
      | exact Rows.mono h fun v w3 h3=>hk _ _ h3
  | halt x w2=>cases x<;>first | exact h | skip
theorem Vg (hd:∀c, o.op≠.defer c)(hk:∀a w, K a w->K' a w)(h:o.wp P a w K (Exit.then K (Ls Q))): o.wpIn (FF r) 1 P a w K' Q := by
  refine⟨fun _ _=>trivial, ?_⟩
  show o.uponIn (FF r) 1 P a K' Q ((o.semAt r a.eval).run P w)
  rw[Oper.semAt_eq r a.eval o hd]; unfold Oper.wp at h
  revert h
  generalize (execOp a.eval o).run P w=x; intro h; cases x with
  | ok x w2=>
    cases x<;>first|exact hk _ _ h|exact h.elim|skip
    all_goals first
      | (refine⟨fun _=>aj 1, (VD h).mono fun e w3 h3=>?_⟩
         cases e with
         | returned v=>exact hk _ _ h3
         | panicked ch=>exact h3
         | outgrown=>obtain⟨a4, w4, h4⟩ := h3; exact h4.elim)
      | exact⟨fun _=>aj 1, (ajv h).mono fun v w3 h3=>hk _ _ h3⟩
  | halt x w2=>cases x<;>first | exact h | exact h.elim | skip
theorem HN (hg:o.guard=none)(hd:∀c,o.op≠.defer c)(h:wpList P ops (Exit.then (lw md P ops Q rest) (Ls Q)) [o] a w): lw md P ops Q (o::rest) a w:=by
 have hw:Region.wanted o (yielded ops a.tmps)=true:=by simp[Region.wanted,hg]
 unfold wpList at h;rw[ag hw]at h;have h1:o.wp P a w (lw md P ops Q rest) (Exit.then (lw md P ops Q rest) (Ls Q)):=by
  rcases h with h|⟨-,a2,w2,h2⟩
  ·exact h
  ·exact h2.elim
 cases md with
 | none=>exact fK hg fun K hK=>acp hK h1
 | some r=>exact fL hg fun K hK=>Vg hd hK h1
theorem SI {o:Oper}(hq:∀e a w, Q e a w->Q' e a w)(hk:∀a w, K a w->K' a w)(h:o.wp P a w K Q): o.wp P a w K' Q' := by
  unfold Oper.wp at h ⊢
  revert h
  generalize (execOp a.eval o).run P w=r; intro h; cases r with
  | ok x w2=>
    cases x<;>first|exact hk _ _ h|exact h|skip
    all_goals first
      | (refine Calls.mono h fun e w3 h3=>?_
         cases e with
         | returned v=>exact hk _ _ h3
         | panicked ch=>exact hq _ _ _ h3
         | outgrown=>obtain⟨a4, w4, h4⟩ := h3; exact⟨a4, w4, hq _ _ _ h4⟩)
      | exact Rows.mono h fun v w3 h3=>hk _ _ h3
  | halt x w2=>cases x<;>first | exact hq _ _ _ h | exact h | skip
theorem M9 {F:Fence}{n:Nat}{o:Oper}(hq:∀e a w, Q e a w->Q' e a w)(hk:∀a w, K a w->K' a w)(h:o.wpIn F n P a w K Q): o.wpIn F n P a w K' Q' := by
  refine⟨h.1, ?_⟩; have h := h.2
  revert h
  generalize (o.semAt F.round a.eval).run P w=r; intro h; cases r with
  | ok x w2=>
    cases x<;>first|exact hk _ _ h|exact h|skip
    all_goals first
      | (refine⟨h.1, CallsIn.mono h.2 fun e w3 h3=>?_⟩
         cases e with
         | returned v=>exact hk _ _ h3
         | panicked ch=>exact hq _ _ _ h3
         | outgrown=>obtain⟨a4, w4, h4⟩ := h3; exact⟨a4, w4, hq _ _ _ h4⟩)
      | exact⟨h.1, RowsIn.mono h.2 fun v w3 h3=>hk _ _ h3⟩
      | (refine⟨h.1, RoundIn.mono h.2 fun e w3 h3=>?_⟩
         cases e with
         | returned v=>exact hk _ _ h3
         | panicked ch=>exact hq _ _ _ h3
         | outgrown=>obtain⟨a4, w4, h4⟩ := h3; exact⟨a4, w4, hq _ _ _ h4⟩)
  | halt x w2=>cases x<;>first | exact hq _ _ _ h | exact h | skip
theorem AF (hq:∀e a w,Q e a w->Q' e a w)(hl:LetsOut Q->LetsOut Q'):∀(rest:List Oper) (a:Act) (w:World),wpList P ops Q rest a w->wpList P ops Q' rest a w
 | [],a,w,h=>hq _ _ _ h
 | o::rest,a,w,h=>by
  unfold wpList at h ⊢
  split
  ·rename_i hw
   rw[ag hw]at h;rcases h with h|h
   ·exact .inl (SI hq (fun a w h=>AF hq hl rest a w h) h)
   ·exact .inr ⟨h.1,hl h.2⟩
  ·rename_i hw
   rw[aa hw]at h;exact AF hq hl rest _ w h
theorem xB {F:Fence}{n:Nat}(hq:∀e a w,Q e a w->Q' e a w):∀(rest:List Oper) (a:Act) (w:World),wpListIn F n P ops Q rest a w->wpListIn F n P ops Q' rest a w
 | [],a,w,h=>hq _ _ _ h
 | o::rest,a,w,h=>by
  unfold wpListIn at h ⊢
  split
  ·rename_i hw
   rw[ag hw]at h;exact M9 hq (fun a w h=>xB hq rest a w h) h
  ·rename_i hw
   rw[aa hw]at h;exact⟨h.1,xB hq rest _ w h.2⟩
theorem aei (hq:∀e a w,Q e a w->Q' e a w)(h:lw md P ops Q rest a w): lw md P ops Q' rest a w:=by
 cases md with
 | none=>exact AF hq (fun⟨a,w,q⟩=>⟨a,w,hq _ _ _ q⟩) rest a w h
 | some r=>exact xB hq rest a w h
end
abbrev Env:=List (Nat×Value)
def look:Env->Nat->Option Value
 | [],_=>none
 | (j,v)::r,k=>bif Nat.beq j k then some v else look r k
def kS (l:Env):Operand->Option Value
 | .tmp t=>look l t
 | .const v=>some v
 | .global g=>some (.pointer (some ⟨g,0,none⟩))
 | .func f=>some (.func (.func f) #[] #[])
structure NN where
 n:Nat
 ds:List Deferred:=[]
 md:Option (Option Nat):=none
structure Fr (n:NN) (a:Act) (l:Env):Prop where
 size:a.tmps.size=n.n
 defers:a.defers=n.ds
 slot:∀k v,look l k=some v->a.tmps[k]? = some v
theorem Fr.eval {n:NN}{l:Env}(h:Fr n a l){v:Value}(hx:kS l x=some v): a.eval x=v:=by
 cases x with
 | tmp t=>have:=h.slot t v hx;show a.tmps.getD t undef=v;rw[cq,this];rfl
 | const u=>exact az hx
 | global g=>exact az hx
 | func f=>exact az hx
theorem Fr.put {n:NN}{l:Env}(h:Fr n a l)(hd:Nat.blt d n.n=true)(v:Value): Fr n (a.put (some d) v) ((d,v)::l):=by
 have KG:d<n.n:=by rw[Nat.blt_eq]at hd;exact hd
 refine⟨by show(a.tmps.setIfInBounds d v).size=n.n;rw[Array.size_setIfInBounds];exact h.size,h.defers,fun k u hk=>?_⟩
 show(a.tmps.setIfInBounds d v)[k]? = some u
 have hs:=h.size;unfold look at hk;cases hb:Nat.beq d k with
 | true=>
  rw[hb]at hk;obtain rfl:d=k:=bW hb;obtain rfl:v=u:=az hk;simp[hs,KG]
 | false=>
  rw[hb]at hk;have mE:d≠k:=fM hb;rw[Array.getElem?_setIfInBounds_ne mE];exact h.slot k u hk
theorem Fr.none {n:NN}{a:Act}{l:Env}(h:Fr n a l)(v:Value):Fr n (a.put none v) l:=h
def Sub (l:Env):Env->Prop
 | []=>True
 | (k,v)::r=>look l k=some v/\Sub l r
theorem Sub.look {l:Env}:∀ {m:Env}{k:Nat}{v:Value},Sub l m->look m k=some v->K.look l k=some v
 | [],_,_,_,h=>by cases h
 | (j,u)::r,k,v,h,hk=>by
  unfold K.look at hk;cases hb:Nat.beq j k with
  | true=>
   rw[hb]at hk;obtain rfl:j=k:=bW hb;obtain rfl:u=v:=az hk;exact h.1
  | false=>rw[hb]at hk;exact Sub.look h.2 hk
theorem Fr.sub {n:NN}{l m:Env}(h:Fr n a l)(hs:Sub l m): Fr n a m:=⟨h.size,h.defers,fun k v hk=>h.slot k v (hs.look hk)⟩
def argsEnv:Nat->List Value->Env
 | _,[]=>[]
 | i,v::r=>(i,v)::argsEnv (i+1) r
theorem BM:∀(l:List Value) (i k:Nat) (v:Value),look (argsEnv i l) k=some v->i<=k/\l[k - i]? = some v
 | [],_,_,_,h=>by cases h
 | u::r,i,k,v,h=>by
  unfold argsEnv look at h;cases hb:Nat.beq i k with
  | true=>
   rw[hb]at h;obtain rfl:i=k:=bW hb;exact⟨aj _,by simpa using h⟩
  | false=>
   rw[hb]at h;have mE:i≠k:=fM hb;obtain⟨h1,h2⟩:=BM r (i+1) k v h;refine⟨I,?_⟩;have:k - i=(k - (i+1))+1:=I;rw[this]
   simpa using h2
section
variable {n:NN}{Q:Exit->Act->World->Prop}{l:Env}{w:World}
structure WC (n:NN) (c:Code) (Q:Exit->Act->World->Prop) (l:Env) (w:World):Prop where
 go:∀a,Fr n a l->cw n.md prog c Q a w
structure WL (n:NN) (ops:Array Oper) (Q:Exit->Act->World->Prop) (rest:List Oper) (l:Env) (w:World):Prop where
 go:∀a,Fr n a l->lw n.md prog ops Q rest a w
structure WQ (n:NN) (Q:Exit->Act->World->Prop) (e:Exit) (l:Env) (w:World):Prop where
 go:∀a,Fr n a l->Q e a w
theorem enter {f:FuncId}{fn:Func}{args:List Value}{n:Nat}(hf:prog.funcs[f]? = some fn)(hb:fn.body=some c)(hn:fn.ntmps=n)(hs:Nat.ble args.length n=true)(h:WC ⟨n,[],none⟩ c (bodyPost prog fn R) (argsEnv 0 args) w): Calls prog f args.toArray w R:=by
 refine calls_of_wp hf hb (h.go _ ?_);subst hn;have RE:args.length<=fn.ntmps:=fU hs;refine⟨by simp;omega,rfl,fun k v hk=>?_⟩;obtain⟨-,h2⟩:=BM _ _ _ _ hk;rw[iF]at h2;have j6:k<args.length:=by
  rcases aW k args.length with h|h
  ·exact h
  ·rw[aM h]at h2;cases h2
 rw[e_ (by simpa using j6)]
 simpa using h2
theorem WC.seq {x:Code}(h:WC n x (Exit.then (cw n.md prog y Q) Q) l w): WC n (.seq x y) Q l w:=⟨fun a ha=>akv (h.go a ha)⟩
theorem WC.block (h:WC n c (Exit.inBlock id Q) l w): WC n (.block id c) Q l w:=⟨fun a ha=>abx (h.go a ha)⟩
theorem WC.skip (h:WQ n Q .normal l w): WC n .skip Q l w:=⟨fun a ha=>afs (h.go a ha)⟩
theorem WC.exit (h:WQ n Q (.exit id) l w): WC n (.exit id) Q l w:=⟨fun a ha=>ahd (h.go a ha)⟩
theorem WC.ret (h:WQ n Q .ret l w): WC n .ret Q l w:=⟨fun a ha=>ajt (h.go a ha)⟩
theorem WC.region {ops:List Oper}(h:WL n ops.toArray Q ops l w): WC n (.region id ops.toArray false) Q l w:=⟨fun a ha=>WX (h.go a ha)⟩
theorem WC.Mq {c:Operand}{x:Code}{b:Bool}(hc:kS l c=some (.bool b))(h1:b=true->WC n x Q l w)(h2:b=false->WC n y Q l w): WC n (.cond c x y) Q l w :=
 ⟨fun a ha=>agc (ha.eval hc) (fun e=>(h1 e).go a ha) (fun e=>(h2 e).go a ha)⟩
theorem WC.condTrue {c:Operand}{x:Code}(hc:kS l c=some (.bool true))(h:WC n x Q l w): WC n (.cond c x y) Q l w:=WC.Mq hc (fun _=>h) (fun e=>by cases e)
theorem WC.condFalse {c:Operand}{x:Code}(hc:kS l c=some (.bool false))(h:WC n y Q l w): WC n (.cond c x y) Q l w:=WC.Mq hc (fun e=>by cases e) (fun _=>h)
theorem WC.sE {c:Operand}{x:Code}[Decidable p](hc:kS l c=some (.bool (decide p)))(hp:p)(h:WC n x Q l w): WC n (.cond c x y) Q l w:=WC.condTrue (by rw[hc,aw hp]) h
theorem WC.q_ {c:Operand}{x:Code}[Decidable p](hc:kS l c=some (.bool (decide p)))(hp:¬p)(h:WC n y Q l w): WC n (.cond c x y) Q l w:=WC.condFalse (by rw[hc,ar hp]) h
theorem WC.anl {c:Operand}{x:Code}[Decidable p](hc:kS l c=some (.bool (decide p)))(h1:p->WC n x Q l w)(h2:¬p->WC n y Q l w): WC n (.cond c x y) Q l w :=
 WC.Mq hc (fun e=>h1 (aR e)) (fun e=>h2 (dI e))
theorem WC.as (k:Nat)(v':Value){v:Value}(hk:look l k=some v)(e:v=v')(h:WC n c Q ((k,v')::l) w): WC n c Q l w :=
 ⟨fun a ha=>h.go a ⟨ha.size,ha.defers,fun j u hj=>by
  unfold look at hj;cases hb:Nat.beq k j with
  | true=>
   rw[hb]at hj;obtain rfl:k=j:=bW hb;obtain rfl:v'=u:=az hj;subst e;exact ha.slot _ _ hk
  | false=>rw[hb]at hj;exact ha.slot _ _ hj⟩⟩
def adO (n:NN){ι:Type}(L:ι->Env)(W:ι->World->Prop)(μ:ι->Nat)(i:ι)(a:Act)(w:World):Prop:=∃j,Fr n a (L j)/\W j w/\μ j<μ i
def Zw (n:NN){ι:Type}(L:ι->Env)(W:ι->World->Prop)(a:Act)(w:World):Prop:=∃i,Fr n a (L i)/\W i w
theorem WC.loop (L:ι->Env)(W:ι->World->Prop)(μ:ι->Nat)(i:ι)(hs:Sub l (L i))(hw:W i w)(round:∀i w,W i w->WC n c (Exit.then (adO n L W μ i) Q) (L i) w): WC n (.loop c) Q l w:=by
 refine⟨fun a ha=>ahV (fun m a w=>∃i,Fr n a (L i)/\W i w/\μ i=m) (μ i) ⟨i,ha.sub hs,hw,rfl⟩ ?_⟩;rintro m a w ⟨i,hf,hw,rfl⟩;refine Vy (fun e a w q=>?_) ((round i w hw).go a hf);cases e with
 | normal=>obtain⟨j,h1,h2,h3⟩:=q;exact⟨μ j,h3,j,h1,h2,rfl⟩
 | exit id=>exact q
 | goto l=>exact q
 | ret=>exact q
 | panic ch=>exact q
 | outgrown=>exact q
end
inductive Av where
 | int (k:IntKind) | str | bool | ptr (e:Nat) | slice (e s:Nat) | struct (n:Nat) (fs:List (Nat×Nat×Nat)) | arr (n e s:Nat) | map (k e:Nat)
def Av.ok (P:Program)(t:Nat):Av->Prop
 | .int k=>P.underlying t=some (.int k)
 | .str=>P.underlying t=some .string
 | .bool=>P.underlying t=some .bool
 | .ptr e=>P.underlying t=some (.pointer e)
 | .slice e s=>P.underlying t=some (.slice e)/\(P.info? e).map (·.size)=some s
 | .map k e=>P.underlying t=some (.map k e)
 | .arr n e s=>P.underlying t=some (.array n e)/\(P.info? e).map (·.size)=some s/\(P.info? t).map (·.size)=some (n*s)
 | .struct n fs=>(∃us,P.underlying t=some (.struct us))/\(P.info? t).map (·.size)=some n/\
   (match P.underlying t with|some (.struct us)=>(us.toList.map fun f=>(f.type,f.offset,((P.info? f.type).map (·.size)).getD 0)) == fs|_=>false)=true
def oO (P:Program):List (Nat×Av)->Prop
 | []=>True
 | (t,d)::r=>d.ok P t/\oO P r
def tyOf:List (Nat×Av)->Nat->Option Av
 | [],_=>none
 | (t,d)::r,k=>bif Nat.beq t k then some d else tyOf r k
theorem oO.of {P:Program}: ∀ {T:List (Nat×Av)}{t:Nat}{d:Av},oO P T->tyOf T t=some d->d.ok P t
 | [],_,_,_,h=>by cases h
 | (j,u)::r,t,d,h,hk=>by
  unfold tyOf at hk;cases hb:Nat.beq j t with
  | true=>
   rw[hb]at hk;obtain rfl:j=t:=bW hb;obtain rfl:u=d:=az hk;exact h.1
  | false=>rw[hb]at hk;exact oO.of h.2 hk
def cellsN:Option Av->Option Nat
 | some (.struct m _)=>some m
 | some (.arr n _ s)=>some (n*s)
 | _=>none
theorem ug {P:Program}{T:List (Nat×Av)}(hT:oO P T){t m:Nat}(h:cellsN (tyOf T t)=some m):
  ∃d,P.underlying t=some d/\(match d with|.struct _|.array _ _=>true|_=>false)=true/\(P.info? t).map (·.size)=some m:=by
 unfold cellsN at h
 split at h
 ·rename_i m' fs he
  obtain rfl:=az h;obtain⟨⟨us,hu⟩,lJ,-⟩:=oO.of hT he;exact⟨_,hu,rfl,lJ⟩
 ·rename_i n e s he
  obtain rfl:=az h;obtain⟨hu,-,lJ⟩:=oO.of hT he;exact⟨_,hu,rfl,lJ⟩
 ·cases h
def quoI (k:IntKind)(a b:Int):Option Value :=
 match b with
 | .ofNat (_+1)=>some (.int k (k.wrap (a.tdiv b)))
 | _=>none
def ak7 (k:IntKind)(a b:Int):Option Value :=
 match b with
 | .ofNat (_+1)=>some (.int k (a.tmod b))
 | _=>none
def shlI (k:IntKind)(a:Int):Int->Option Value
 | .ofNat m=>some (.int k (k.wrap (a*((2 ^ min m k.bits:Nat):Int))))
 | _=>none
def alG (k:IntKind)(a:Int):Int->Option Value
 | .ofNat m=>some (.int k (a / ((2 ^ min m k.bits:Nat):Int)))
 | _=>none
def binI (k:IntKind)(a b:Int):BinOp->Option Value
 | .add=>some (.int k (k.wrap (a+b)))
 | .sub=>some (.int k (k.wrap (a - b)))
 | .mul=>some (.int k (k.wrap (a*b)))
 | .eql=>some (.bool (decide (a=b)))
 | .neq=>some (.bool (decide (a≠b)))
 | .lss=>some (.bool (decide (a<b)))
 | .leq=>some (.bool (decide (a<=b)))
 | .gtr=>some (.bool (decide (b<a)))
 | .geq=>some (.bool (decide (b<=a)))
 | .and=>some (.int k (bits .and k a b))
 | .or=>some (.int k (bits .or k a b))
 | .xor=>some (.int k (bits .xor k a b))
 | .quo=>quoI k a b
 | .rem=>ak7 k a b
 | _=>none
def shI (k:IntKind)(a b:Int):BinOp->Option Value
 | .shl=>shlI k a b
 | .shr=>alG k a b
 | _=>none
def binS (a b:ByteArray):BinOp->Option Value
 | .eql=>some (.bool (a.toList == b.toList))
 | .neq=>some (.bool (!(a.toList == b.toList)))
 | .lss=>some (.bool (Op.bytesLess a.toList b.toList))
 | .leq=>some (.bool (Op.bytesLess a.toList b.toList || a.toList == b.toList))
 | .gtr=>some (.bool !(Op.bytesLess a.toList b.toList || a.toList == b.toList))
 | .geq=>some (.bool !(Op.bytesLess a.toList b.toList))
 | _=>none
def al_:BinOp->Bool
 | .shl | .shr=>true
 | _=>false
def evlAll (l:Env):List Operand->Option (List Value)
 | []=>some []
 | x::r=>match kS l x,evlAll l r with
  | some v,some vs=>some (v::vs)
  | _,_=>none
def pvPick (l:Env)(a b:Operand):Option Value->Option Value
 | some (.bool true)=>kS l a
 | some (.bool false)=>kS l b
 | _=>none
def pvBool (a b:Bool):Option Av->BinOp->Option Value
 | some .bool,.eql=>some (.bool (a == b))
 | some .bool,.neq=>some (.bool (!(a == b)))
 | _,_=>none
def pvBin (op:BinOp)(ty:Option Av):Option Value->Option Value->Option Value
 | some (.int k a),some (.int k' b)=>bif al_ op then shI k a b op else if k=k' then binI k a b op else none
 | some (.string a),some (.string b)=>binS a b op
 | some (.bool a),some (.bool b)=>pvBool a b ty op
 | _,_=>none
def pvUn:UnOp->Option Value->Option Value
 | .neg,some (.int k a)=>some (.int k (k.wrap (0 - a)))
 | .not,some (.bool b)=>some (.bool (!b))
 | .xor,some (.int k a)=>some (.int k (bits .xor k (if k.signed then -1 else k.max) a))
 | _,_=>none
def pvConv:Option Av->Option Av->Option Value->Option Value
 | some (.int _),some (.int k),some (.int _ a)=>some (.int k (k.wrap a))
 | some .str,some .str,some (.string s)=>some (.string s)
 | _,_,_=>none
def pvExt (i:Nat):Option Value->Option Value
 | some (.tuple vs)=>vs[i]?
 | _=>none
def pvNil:Option Value->Option Value
 | some (.pointer (some p))=>some (.pointer (some p))
 | _=>none
def pvOff (b o:Nat):Option (Nat×Nat×Nat)->Option Value
 | some (_,off,_+1)=>some (.pointer (some ⟨b,o+off,none⟩))
 | _=>none
def pvField (i:Nat):Option Av->Option Value->Option Value
 | some (.struct _ fs),some (.pointer (some ⟨b,o,none⟩))=>pvOff b o fs[i]?
 | _,_=>none
def pvLen:Option Av->Option Value->Option Value
 | some (.slice _ _),some (.slice _ n _)=>some (.int .i64 n)
 | some .str,some (.string s)=>some (.int .i64 s.size)
 | _,_=>none
def pvMin (less:Bool):Option Value->Option Value->Option Value
 | some (.int k a),some (.int _ b)=>some (.int k (bif less then(if b<a then b else a) else(if b>a then b else a)))
 | _,_=>none
def pvCall (T:List (Nat×Av))(l:Env)(c:Call):Option Value :=
 match c.callee,c.args.toList,c.argTypes.toList with
 | .builtin .len,[x],[t]=>pvLen (tyOf T t) (kS l x)
 | .builtin .min,[x,y],_=>pvMin true (kS l x) (kS l y)
 | .builtin .max,[x,y],_=>pvMin false (kS l x) (kS l y)
 | _,_,_=>none
def pv (T:List (Nat×Av))(l:Env):Op->Option Value
 | .move x=>kS l x
 | .assign x=>kS l x
 | .pick c a b=>pvPick l a b (kS l c)
 | .binOp op t x y _=>pvBin op (tyOf T t) (kS l x) (kS l y)
 | .unOp op _ x=>pvUn op (kS l x)
 | .convert s d x=>pvConv (tyOf T s) (tyOf T d) (kS l x)
 | .extract t i=>pvExt i (kS l t)
 | .nilCheck x=>pvNil (kS l x)
 | .fieldAddr t x i=>pvField i (tyOf T t) (kS l x)
 | .call c=>pvCall T l c
 | _=>none
theorem ab3 {P:Program}{k:IntKind}{a b:Int}{v:Value}(h:binI k a b op=some v)(t:TypeId)(w:World): (binOp op t (.int k a) (.int k b)).run P w=.ok v w:=by
 cases op
 case quo=>
  simp only[binI]at h;unfold quoI at h
  split at h
  ·rename_i m
   obtain rfl:=az h;simp only[binOp_quo,Op.intDiv];rw[aa (by show ¬((m+1:Nat):Int)=0;omega)]
   rfl
  ·cases h
 case rem=>
  simp only[binI]at h;unfold ak7 at h
  split at h
  ·rename_i m
   obtain rfl:=az h;simp only[binOp_rem,Op.intDiv];rw[aa (by show ¬((m+1:Nat):Int)=0;omega)]
   rfl
  ·cases h
 case eql=>simp only[binI,cV]at h;subst h;rw[binOp_eql];exact congrArg (fun b=>Result.ok (Value.bool b) w) (by by_cases e:a=b<;>simp[e])
 case neq=>simp only[binI,cV]at h;subst h;rw[binOp_neq];exact congrArg (fun b=>Result.ok (Value.bool b) w) (by by_cases e:a=b<;>simp[e])
 all_goals simp only[binI,cV,reduceCtorEq]at h
 all_goals (subst h;simp[go_sem])
theorem aex {P:Program}{k k':IntKind}{a b:Int}{v:Value}(h:shI k a b op=some v)(t:TypeId)(w:World): (binOp op t (.int k a) (.int k' b)).run P w=.ok v w:=by
 cases op
 case shl=>
  simp only[shI]at h;unfold shlI at h
  split at h
  ·rename_i m
   obtain rfl:=az h;have h0:(0:Int)<=Int.ofNat m:=gO m;simp only[binOp_shl,shift_shl_any _ _ _ _ h0];simp
  ·cases h
 case shr=>
  simp only[shI]at h;unfold alG at h
  split at h
  ·rename_i m
   obtain rfl:=az h;have h0:(0:Int)<=Int.ofNat m:=gO m;simp only[binOp_shr,shift_shr_any _ _ _ _ h0];simp
  ·cases h
 all_goals cases h
theorem abh {P:Program}{a b:ByteArray}{v:Value}(h:binS a b op=some v)(t:TypeId)(w:World): (binOp op t (.string a) (.string b)).run P w=.ok v w:=by
 cases op<;>simp only[binS,cV,reduceCtorEq]at h
 all_goals (subst h;simp[go_sem])
theorem Zg {P:Program}{t n i off s ft:Nat}{fs:List (Nat×Nat×Nat)}(h:(Av.struct n fs).ok P t)(hi:fs[i]? = some (ft,off,s+1))(w:World):
  (Instr.fieldAt t (.pointer (some ⟨b,o,none⟩)) i).run P w=.ok (.pointer (some ⟨b,o+off,none⟩)) w:=by
 obtain⟨⟨us,hu⟩,-,hf⟩:=h;rw[hu]at hf;simp only[gM]at hf;rw[<-hf,cX]at hi;cases hx:us.toList[i]? with
 | none=>rw[hx]at hi;cases hi
 | some f=>
  rw[hx]at hi;simp only[eM,cV,Prod.mk.injEq]at hi;obtain⟨-,rfl,hs⟩:=hi;have YB:us[i]? = some f:=by simpa using hx
  have lJ:(sizeOf f.type).run P w=.ok (s+1) w:=by
   cases hq:P.info? f.type with
   | none=>rw[hq]at hs;simp at hs
   | some q=>rw[hq]at hs;simp at hs;simp[sizeOf,typeInfo,hq,hs]
  simp[Instr.fieldAt,bR hu,YB,Instr.sureAddr,fieldPlace,lJ,Addr.add_mid]
theorem KR {P:Program}{T:List (Nat×Av)}(hT:oO P T){n:NN}{l:Env}(ha:Fr n a l){o:Oper}{v:Value}(h:pv T l o.op=some v)(w:World):
  (execOp a.eval o).run P w=.ok (.value v) w:=by
 unfold execOp
 revert h
 cases o.op with
 | move x=>intro h;simp[ha.eval h]
 | assign x=>intro h;simp[ha.eval h]
 | pick c x y=>
  intro h;simp only[pv]at h;generalize hc:kS l c=cv at h;unfold pvPick at h
  split at h
  ·simp[ha.eval hc,ha.eval h,asBool]
  ·simp[ha.eval hc,ha.eval h,asBool]
  ·cases h
 | binOp op t x y t2=>
  intro h;simp only[pv]at h;generalize hx:kS l x=xv at h;generalize hy:kS l y=yv at h;unfold pvBin at h
  split at h
  ·rename_i k p k' q
   cases hs:al_ op with
   | true=>
    rw[hs]at h;simp only[cond_true]at h;have:=aex (P:=P) (k':=k') h t w;simp[ha.eval hx,ha.eval hy,eqGuard_at_int,this]
   | false=>
    rw[hs]at h;simp only[cond_false]at h
    split at h
    ·rename_i e;subst e
     have:=ab3 (P:=P) h t w;simp[ha.eval hx,ha.eval hy,eqGuard_at_int,this]
    ·cases h
  ·have:=abh (P:=P) h t w
   simp[ha.eval hx,ha.eval hy,eqGuard_at_string,this]
  ·rename_i p q
   generalize ht:tyOf T t=tv at h;unfold pvBool at h
   split at h
   ·obtain rfl:=az h
    simp[ha.eval hx,ha.eval hy,eqGuard_at_bool,run_eql_bool w t p q (hT.of ht)]
   ·obtain rfl:=az h
    simp[ha.eval hx,ha.eval hy,eqGuard_at_bool,run_neq_bool w t p q (hT.of ht)]
   ·cases h
  ·cases h
 | unOp op t x=>
  intro h;simp only[pv]at h;generalize hx:kS l x=xv at h;unfold pvUn at h
  split at h<;>first|(cases h;done)|(obtain rfl:=az h;have e:=ha.eval hx;simp only[e];simp[go_sem])
 | convert s d x=>
  intro h;simp only[pv]at h;generalize h1:tyOf T s=sv at h;generalize h2:tyOf T d=dv at h;generalize h3:kS l x=xv at h;unfold pvConv at h
  split at h
  ·rename_i k1 k2 k3 m
   obtain rfl:=az h;have e1:P.underlying s=some (.int k1):=hT.of h1;have e2:P.underlying d=some (.int k2):=hT.of h2;simp[ha.eval h3,convert,bR e1,bR e2,Conv.intToInt]
  ·obtain rfl:=az h
   have e1:P.underlying s=some .string:=hT.of h1;have e2:P.underlying d=some .string:=hT.of h2;simp[ha.eval h3,convert,bR e1,bR e2]
  ·cases h
 | extract t i=>
  intro h;simp only[pv]at h;generalize hx:kS l t=xv at h;unfold pvExt at h
  split at h
  ·simp[ha.eval hx,Instr.extract,h]
  ·cases h
 | nilCheck x=>
  intro h;simp only[pv]at h;generalize hx:kS l x=xv at h;unfold pvNil at h
  split at h
  ·obtain rfl:=az h
   simp[ha.eval hx]
  ·cases h
 | fieldAddr t x i=>
  intro h;simp only[pv]at h;generalize ht:tyOf T t=tv at h;generalize hx:kS l x=xv at h;unfold pvField at h
  split at h
  ·rename_i m fs b off0
   generalize hi:fs[i]? = fv at h;unfold pvOff at h
   split at h
   ·obtain rfl:=az h
    have:=Zg (b:=b) (o:=off0) (hT.of ht) hi w;simp[ha.eval hx,this]
   ·cases h
  ·cases h
 | call c=>
  intro h;simp only[pv]at h;obtain⟨callee,⟨args⟩,⟨argTypes⟩⟩:=c;unfold pvCall at h;simp only at h
  split at h
  ·rename_i x t
   generalize ht:tyOf T t=tv at h;generalize hx:kS l x=xv at h;unfold pvLen at h
   split at h
   ·rename_i e s b m c
    obtain rfl:=az h;have e1:=(hT.of ht).1;simp[resolve,invoke,builtin,ha.eval hx,Builtin.len_,bR e1,goInt]
   ·obtain rfl:=az h
    have e1:P.underlying t=some .string:=hT.of ht;simp[resolve,invoke,builtin,ha.eval hx,Builtin.len_,bR e1,goInt]
   ·cases h
  ·rename_i x y
   generalize hx:kS l x=xv at h;generalize hy:kS l y=yv at h;unfold pvMin at h
   split at h
   ·obtain rfl:=az h
    simp[resolve,invoke,builtin,ha.eval hx,ha.eval hy,run_min_int2]
   ·cases h
  ·rename_i x y
   generalize hx:kS l x=xv at h;generalize hy:kS l y=yv at h;unfold pvMin at h
   split at h
   ·obtain rfl:=az h
    simp[resolve,invoke,builtin,ha.eval hx,ha.eval hy,run_max_int2]
   ·cases h
  ·cases h
 | _=>intro h;cases h
def ty:List (Nat×Av):=[(2,.int .i64),(3,.int .i64),(4,.bool),(5,.int .u8),(6,.int .u8),(7,.struct 4 [(2,0,1),(3,1,1),(4,2,1),(6,3,1)]),(8,.struct 4 [(2,0,1),(3,1,1),(4,2,1),(6,3,1)]),(9,.str),(10,.str),(11,.str),(12,.int .u64),(13,.struct 2 [(9,0,1),(12,1,1)]),(14,.struct 2 [(9,0,1),(12,1,1)]),(15,.ptr 265),(16,.ptr 268),(17,.ptr 276),(18,.struct 1 [(17,0,1)]),(19,.struct 1 [(17,0,1)]),(21,.int .i32),(22,.slice 9 1),(23,.slice 25 6),(24,.struct 6 [(3,0,1),(3,1,1),(3,2,1),(9,3,1),(22,4,1),(23,5,1)]),(25,.struct 6 [(3,0,1),(3,1,1),(3,2,1),(9,3,1),(22,4,1),(23,5,1)]),(27,.ptr 3),(28,.ptr 83),(30,.arr 32 5 1),(31,.arr 32 5 1),(32,.slice 76 46),(33,.struct 36 [(3,0,1),(3,1,1),(3,2,1),(31,3,32),(32,35,1)]),(34,.struct 36 [(3,0,1),(3,1,1),(3,2,1),(31,3,32),(32,35,1)]),(35,.slice 3 1),(43,.slice 49 1),(45,.ptr 61),(49,.slice 114 57),(50,.slice 121 4),(51,.struct 1 [(50,0,1)]),(52,.struct 1 [(50,0,1)]),(53,.ptr 52),(54,.slice 168 14),(55,.map 74 3),(56,.struct 4 [(53,0,1),(54,1,1),(3,2,1),(55,3,1)]),(57,.struct 4 [(53,0,1),(54,1,1),(3,2,1),(55,3,1)]),(58,.ptr 132),(59,.ptr 57),(60,.struct 3 [(58,0,1),(28,1,1),(59,2,1)]),(61,.struct 3 [(58,0,1),(28,1,1),(59,2,1)]),(70,.int .i64),(72,.map 78 4),(73,.struct 2 [(3,0,1),(3,1,1)]),(74,.struct 2 [(3,0,1),(3,1,1)]),(75,.struct 46 [(3,0,1),(9,1,1),(3,2,1),(3,3,1),(3,4,1),(25,5,6),(31,11,32),(4,43,1),(74,44,2)]),(76,.struct 46 [(3,0,1),(9,1,1),(3,2,1),(3,3,1),(3,4,1),(25,5,6),(31,11,32),(4,43,1),(74,44,2)]),(77,.struct 2 [(3,0,1),(3,1,1)]),(78,.struct 2 [(3,0,1),(3,1,1)]),(81,.map 85 86),(82,.struct 1 [(81,0,1)]),(83,.struct 1 [(81,0,1)]),(84,.struct 2 [(3,0,1),(9,1,1)]),(85,.struct 2 [(3,0,1),(9,1,1)]),(86,.ptr 165),(87,.ptr 144),(89,.struct 14 [(3,0,1),(3,1,1),(3,2,1),(25,3,6),(4,9,1),(4,10,1),(3,11,1),(3,12,1),(3,13,1)]),(90,.struct 14 [(3,0,1),(3,1,1),(3,2,1),(25,3,6),(4,9,1),(4,10,1),(3,11,1),(3,12,1),(3,13,1)]),(94,.slice 98 4),(96,.slice 100 1),(97,.struct 4 [(3,0,1),(9,1,1),(4,2,1),(96,3,1)]),(98,.struct 4 [(3,0,1),(9,1,1),(4,2,1),(96,3,1)]),(99,.struct 1 [(9,0,1)]),(100,.struct 1 [(9,0,1)]),(102,.slice 90 14),(113,.struct 57 [(3,0,1),(3,1,1),(3,2,1),(3,3,1),(25,4,6),(9,10,1),(76,11,46)]),(114,.struct 57 [(3,0,1),(3,1,1),(3,2,1),(3,3,1),(25,4,6),(9,10,1),(76,11,46)]),(118,.ptr 121),(120,.struct 4 [(3,0,1),(9,1,1),(4,2,1),(22,3,1)]),(121,.struct 4 [(3,0,1),(9,1,1),(4,2,1),(22,3,1)]),(125,.slice 173 7),(127,.map 135 102),(128,.map 3 3),(129,.map 74 135),(130,.map 74 4),(131,.struct 6 [(87,0,1),(127,1,1),(128,2,1),(129,3,1),(130,4,1),(3,5,1)]),(132,.struct 6 [(87,0,1),(127,1,1),(128,2,1),(129,3,1),(130,4,1),(3,5,1)]),(134,.struct 2 [(3,0,1),(3,1,1)]),(135,.struct 2 [(3,0,1),(3,1,1)]),(141,.int .u64),(142,.map 146 4),(143,.struct 3 [(94,0,1),(141,1,1),(142,2,1)]),(144,.struct 3 [(94,0,1),(141,1,1),(142,2,1)]),(145,.struct 2 [(3,0,1),(9,1,1)]),(146,.struct 2 [(3,0,1),(9,1,1)]),(158,.slice 5 1),(163,.ptr 192),(164,.struct 3 [(163,0,1),(3,1,1),(3,2,1)]),(165,.struct 3 [(163,0,1),(3,1,1),(3,2,1)]),(168,.struct 14 [(3,0,1),(3,1,1),(3,2,1),(25,3,6),(4,9,1),(4,10,1),(3,11,1),(3,12,1),(3,13,1)]),(172,.struct 7 [(3,0,1),(25,1,6)]),(173,.struct 7 [(3,0,1),(25,1,6)]),(186,.int .u64),(188,.arr 8 9 1),(189,.arr 8 3 1),(190,.arr 8 163 1),(191,.struct 28 [(4,0,1),(3,1,1),(188,2,8),(189,10,8),(190,18,8),(163,26,1),(163,27,1)]),(192,.struct 28 [(4,0,1),(3,1,1),(188,2,8),(189,10,8),(190,18,8),(163,26,1),(163,27,1)]),(204,.slice 207 2),(206,.struct 2 [(9,0,1),(3,1,1)]),(207,.struct 2 [(9,0,1),(3,1,1)]),(214,.ptr 168),(228,.ptr 98),(229,.slice 163 1),(233,.int .i8),(235,.int .u32),(246,.arr 4 3 1),(251,.arr 8 235 1),(252,.arr 64 235 1),(255,.ptr 252),(257,.arr 8 235 1),(259,.arr 128 5 1),(261,.ptr 257),(264,.struct 4 [(17,0,1),(17,1,1),(17,2,1),(9,3,1)]),(265,.struct 4 [(17,0,1),(17,1,1),(17,2,1),(9,3,1)]),(267,.struct 0 [(266,0,0)]),(268,.struct 0 [(266,0,0)]),(269,.int .u8),(270,.int .u8),(272,.ptr 5),(273,.int .i32),(274,.int .i32),(275,.struct 11 [(12,0,1),(12,1,1),(235,2,1),(269,3,1),(5,4,1),(5,5,1),(270,6,1),(271,7,1),(272,8,1),(273,9,1),(274,10,1)]),(276,.struct 11 [(12,0,1),(12,1,1),(235,2,1),(269,3,1),(5,4,1),(5,5,1),(270,6,1),(271,7,1),(272,8,1),(273,9,1),(274,10,1)])]
theorem oz: oO prog ty:=⟨underlying2,bJ,underlying4,underlying5,underlying6,⟨⟨_,underlying7⟩,jG,jG⟩,⟨⟨_,underlying8⟩,jG,jG⟩,cF,underlying10,underlying11,underlying12,⟨⟨_,underlying13⟩,jG,jG⟩,⟨⟨_,underlying14⟩,jG,jG⟩,underlying15,underlying16,underlying17,⟨⟨_,underlying18⟩,jG,jG⟩,⟨⟨_,underlying19⟩,jG,jG⟩,underlying21,⟨eG,jG⟩,⟨fj,jG⟩,⟨⟨_,underlying24⟩,jG,jG⟩,⟨⟨_,gF⟩,jG,jG⟩,underlying27,underlying28,⟨underlying30,jG,jG⟩,⟨dX,jG,jG⟩,⟨underlying32,jG⟩,⟨⟨_,underlying33⟩,jG,jG⟩,⟨⟨_,underlying34⟩,jG,jG⟩,⟨underlying35,jG⟩,⟨underlying43,jG⟩,underlying45,⟨underlying49,jG⟩,⟨underlying50,jG⟩,⟨⟨_,underlying51⟩,jG,jG⟩,⟨⟨_,underlying52⟩,jG,jG⟩,underlying53,⟨underlying54,jG⟩,gG,⟨⟨_,underlying56⟩,jG,jG⟩,⟨⟨_,underlying57⟩,jG,jG⟩,underlying58,underlying59,⟨⟨_,underlying60⟩,jG,jG⟩,⟨⟨_,underlying61⟩,jG,jG⟩,underlying70,underlying72,⟨⟨_,underlying73⟩,jG,jG⟩,⟨⟨_,underlying74⟩,jG,jG⟩,⟨⟨_,underlying75⟩,jG,jG⟩,⟨⟨_,gH⟩,jG,jG⟩,⟨⟨_,underlying77⟩,jG,jG⟩,⟨⟨_,underlying78⟩,jG,jG⟩,fN,⟨⟨_,underlying82⟩,jG,jG⟩,⟨⟨_,underlying83⟩,jG,jG⟩,⟨⟨_,underlying84⟩,jG,jG⟩,⟨⟨_,gI⟩,jG,jG⟩,underlying86,underlying87,⟨⟨_,underlying89⟩,jG,jG⟩,⟨⟨_,underlying90⟩,jG,jG⟩,⟨underlying94,jG⟩,⟨underlying96,jG⟩,⟨⟨_,underlying97⟩,jG,jG⟩,⟨⟨_,eH⟩,jG,jG⟩,⟨⟨_,underlying99⟩,jG,jG⟩,⟨⟨_,underlying100⟩,jG,jG⟩,⟨underlying102,jG⟩,⟨⟨_,underlying113⟩,jG,jG⟩,⟨⟨_,underlying114⟩,jG,jG⟩,underlying118,⟨⟨_,underlying120⟩,jG,jG⟩,⟨⟨_,underlying121⟩,jG,jG⟩,⟨underlying125,jG⟩,fw,gh,gj,gk,⟨⟨_,underlying131⟩,jG,jG⟩,⟨⟨_,underlying132⟩,jG,jG⟩,⟨⟨_,underlying134⟩,jG,jG⟩,⟨⟨_,underlying135⟩,jG,jG⟩,underlying141,d_,⟨⟨_,underlying143⟩,jG,jG⟩,⟨⟨_,underlying144⟩,jG,jG⟩,⟨⟨_,underlying145⟩,jG,jG⟩,⟨⟨_,underlying146⟩,jG,jG⟩,⟨dt,jG⟩,underlying163,⟨⟨_,underlying164⟩,jG,jG⟩,⟨⟨_,underlying165⟩,jG,jG⟩,⟨⟨_,underlying168⟩,jG,jG⟩,⟨⟨_,underlying172⟩,jG,jG⟩,⟨⟨_,underlying173⟩,jG,jG⟩,underlying186,⟨underlying188,jG,jG⟩,⟨underlying189,jG,jG⟩,⟨underlying190,jG,jG⟩,⟨⟨_,underlying191⟩,jG,jG⟩,⟨⟨_,underlying192⟩,jG,jG⟩,⟨underlying204,jG⟩,⟨⟨_,underlying206⟩,jG,jG⟩,⟨⟨_,underlying207⟩,jG,jG⟩,underlying214,underlying228,⟨underlying229,jG⟩,underlying233,underlying235,⟨underlying246,jG,jG⟩,⟨underlying251,jG,jG⟩,⟨underlying252,jG,jG⟩,underlying255,⟨underlying257,jG,jG⟩,⟨underlying259,jG,jG⟩,underlying261,⟨⟨_,underlying264⟩,jG,jG⟩,⟨⟨_,underlying265⟩,jG,jG⟩,⟨⟨_,underlying267⟩,jG,jG⟩,⟨⟨_,underlying268⟩,jG,jG⟩,underlying269,underlying270,underlying272,underlying273,underlying274,⟨⟨_,underlying275⟩,jG,jG⟩,⟨⟨_,underlying276⟩,jG,jG⟩,trivial⟩
def Bu (w:World)(v:Value)(l:List Int):Prop:=qt .u8 5 w 0 v l
def kX (w:World)(v:Value)(w':World)(v':Value):Prop :=
 Z (fun b=>b<w.heap.size/\v.ownBlock≠some b) w w'/\∀g,v'.ownBlock=some g->v.ownBlock=some g\/w.heap.size<=g
theorem kX.refl (w:World)(v:Value): kX w v w v:=⟨Z.refl _ _,fun _ h=>.inl h⟩
theorem kX.trans {v:Value}(h:kX w v w1 v1)(k:kX w1 v1 w2 v2): kX w v w2 v2 :=
  ⟨h.1.trans (k.1.mono fun b hb=>⟨ao hb.1 h.1.size, fun e=>(h.2 b e).elim hb.2 (fun h2=>absurd hb.1 I)⟩),
   fun g hg=>(k.2 g hg).elim (h.2 g) (fun h2=>.inr (aU h.1.size h2))⟩
theorem kX.below {v:Value}(h:kX w v w1 v1)(k:Below w1.heap.size w1 w2): kX w v w2 v1 :=
 ⟨h.1.trans ((Z.jw k).mono fun _ hb=>ao hb.1 h.1.size),h.2⟩
theorem kX.old {v:Value}(h:kX w v w' v')(hB:B<=w.heap.size)(hv:∀g,v.ownBlock=some g->B<=g): Below B w w' :=
 (h.1.mono fun b (hb:b<B)=>⟨ao hb hB,fun e=>absurd (hv b e) I⟩).below
theorem kX.own {v:Value}(h:kX w v w' v')(hB:B<=w.heap.size)(hv:∀g,v.ownBlock=some g->B<=g): ∀g,v'.ownBlock=some g->B<=g :=
 fun g hg=>(h.2 g hg).elim (hv g) (fun h2=>aU hB h2)
theorem Bu.nil (w:World): Bu w (.slice none 0 0) []:=qt.nil _ _ _ _
theorem Bu.lt {v:Value}(h:Bu w v l): ∀g,v.ownBlock=some g->g<w.heap.size:=fun g hg=>(qt.own h g hg).2
theorem Bu.jA {K:Nat->Prop}{v:Value}(h:Bu w v l)(hk:Z K w w')(hK:∀g,v.ownBlock=some g->K g): Bu w' v l :=
 qt.jA h hk fun g _ _ hg=>hK g hg
theorem Bu.below {v:Value}(h:Bu w v l)(hk:Below w.heap.size w w'): Bu w' v l:=qt.below h hk (aj _)
theorem Bu.sl {v:Value}(h:Bu w v l): Sl .u8 w v l:=qt.sl h
theorem Bu.new (w:World)(l:List Int)(hm:l.length<=maxLen): Bu (w.alloc (.cells (l.map (Value.int .u8)).toArray 5)) (.slice (some ⟨w.heap.size,0,none⟩) l.length l.length) l:=by
 have:=qt.mk (k:=.u8) (e:=5) (w:=w) (base:=0) l [] (ay _) (by simpa using hm)
 simpa[Bu] using this
theorem Sl.EM {v:Value}(h:Sl .u8 w v l): ph w (fun _=>True) 1 v l.length (l.map (Value.int .u8)):=by
 obtain⟨sp,cap,rfl,h1,h2,h3,h4⟩:=h;refine⟨jM,lY.int _ _,sp,cap,rfl,h1,h2,h4,fun h0=>?_⟩;obtain⟨b,o,e,hb,hr⟩:=h3 h0;refine⟨b,o,e,hb,trivial,fun j hj=>?_⟩;rw[aB]at hj;rw[hr j hj];simp[nth,hj]
theorem akd: na prog 158 5 1 1:=na.mk' (z:=.int .u8 0) dt jG rfl I
theorem Gs (w:World)(e:TypeId)(s:ByteArray): Below w.heap.size w (Lib.bytesWorld w e s) :=
 ⟨rfl,rfl,rfl,by rw[Lib.bytesWorld_size];omega,fun k hk=>Lib.bytesWorld_at_old w e s k hk⟩
theorem Bu.form {v:Value}(h:Bu w v l): ∃sp c,v=.slice sp l.length c/\l.length<=c/\c<=9223372036854775807:=by
 obtain⟨sp,c,h1,h2,h3,-⟩:=Bu.sl h;exact⟨sp,c,h1,h2,h3⟩
theorem Bu.at {w:World}{v:Value}{l:List Int}(h:Bu w v l){j:Nat}(hj:j<l.length):∃g c,v=.slice (some ⟨g,0,none⟩) l.length c/\v.ownBlock=some g/\w.cell? ⟨g,j,none⟩=some (.int .u8 (nth l j))/\w.frozen? ⟨g,j,none⟩=false/\
  ∀x,Bu (w.setCell ⟨g,j,none⟩ (.int .u8 x)) v (l.set j x)/\kX w v (w.setCell ⟨g,j,none⟩ (.int .u8 x)) v:=by
 have ho:jY 5 1 w (fun g=>v.ownBlock=some g) v l.length (l.map (Value.int .u8)):=⟨h,lY.int _ _,fun g hg=>hg⟩;rcases qt.block h with⟨-,rfl⟩|⟨g,c,rest,rfl,-⟩
 ·simp at hj
 ·have ly:=ho.at j (by simpa using hj)
  have aqE:(l.map (Value.int .u8)).getD j undef=.int .u8 (nth l j):=by simp[nth,hj]
  rw[aqE]at ly;refine⟨g,c,rfl,rfl,ly,ho.free j,fun x=>⟨?_,?_,fun g2 nK=>.inl nK⟩⟩
  ·have:=(ho.stored j (u:=.int .u8 x) rfl).1
   rw[<-jq]at this
   show World.ownsRow _ _ _ _ _ _ _
   rw[aI];exact this
  ·exact(Z.refl _ w).setCell (fun hk=>hk.2 rfl) _
structure kJ (w:World) (g:Nat) (w':World) (T:TypeId) (cs:List Value):Prop where
 eq:g=w.heap.size
 blk:U T w' g cs
 below:Below w.heap.size w w'
 size:w'.heap.size=w.heap.size+1
theorem kJ.mk' (w:World)(T:TypeId)(cs:List Value): kJ w w.heap.size (w.alloc (.cells cs.toArray T)) T cs :=
 ⟨rfl,U.mk w cs T,(Below.refl _ w).alloc (aj _) _,by show(w.heap.push _).size=_;simp⟩
theorem U.rangeAt (h:U T w b cs): w.rangeAt b 0 cs:=by
 intro j v hj;have j6:j<cs.length:=by
  rcases aW j cs.length with h|h
  ·exact h
  ·rw[aM h]at hj;cases hj
 have:=h.cell j j6;rw[bA];rw[this];simp[ah,hj]
variable {n:NN}{Q:Exit->Act->World->Prop}{l:Env}{w w':World}{ops:Array Oper}{o:Oper}{rest:List Oper}{d:Nat}
theorem WL.le {m:Env}(hs:∀k v,look m k=some v->look l k=some v)(h:WL n ops Q rest m w): WL n ops Q rest l w:=⟨fun a ha=>h.go a ⟨ha.size,ha.defers,fun k v hk=>ha.slot k v (hs k v hk)⟩⟩
theorem WL.as (k:Nat)(v':Value){v:Value}(hk:look l k=some v)(e:v=v')(h:WL n ops Q rest ((k,v')::l) w): WL n ops Q rest l w :=
 h.le fun j u hj=>by
  unfold look at hj;cases hb:Nat.beq k j with
  | true=>
   rw[hb]at hj;obtain rfl:k=j:=bW hb;obtain rfl:v'=u:=az hj;subst e;exact hk
  | false=>rw[hb]at hj;exact hj
theorem YI {u:Value}(hf:look l d=none): ∀k v,look ((d2,v')::l) k=some v->look ((d2,v')::(d,u)::l) k=some v:=by
 intro k v hk;unfold look at hk ⊢;cases hb:Nat.beq d2 k with
 | true=>rw[hb]at hk;exact hk
 | false=>
  rw[hb]at hk;unfold look;cases kK:Nat.beq d k with
  | true=>obtain rfl:d=k:=bW kK;rw[cond_false]at hk;rw[hf]at hk;cases hk
  | false=>exact hk
theorem WL.nil (h:WQ n Q .normal l w): WL n ops Q [] l w:=⟨fun a ha=>aj_ (h.go a ha)⟩
theorem WL.step {v:Value}(hg:o.guard=none)(hd:o.dst=some d)(hn:Nat.blt d n.n=true)(hr:∀a,Fr n a l->(execOp a.eval o).run prog w=.ok (.value v) w')(h:WL n ops Q rest ((d,v)::l) w'): WL n ops Q (o::rest) l w :=
 ⟨fun a ha=>PZ hg (hr a ha) (by rw[hd];exact h.go _ (ha.put hn v))⟩
theorem WL.XY (hg:o.guard=none)(hd:o.dst=none)(hr:∀a,Fr n a l->(execOp a.eval o).run prog w=.ok .skip w')(h:WL n ops Q rest l w'): WL n ops Q (o::rest) l w :=
 ⟨fun a ha=>ae_ hg (hr a ha) (by rw[hd];exact h.go _ (ha.none _))⟩
theorem WL.pure {v:Value}(hg:o.guard=none)(hd:o.dst=some d)(hn:Nat.blt d n.n=true)(hv:pv ty l o.op=some v)(h:WL n ops Q rest ((d,v)::l) w): WL n ops Q (o::rest) l w :=
 WL.step hg hd hn (fun _ ha=>KR oz ha hv w) h
theorem _root_.Go.Proofs.YtlenklobbngopaaGreat.jN {v:Value}(hg:o.guard=none:=by exact rfl)(hd:o.dst=some d:=by exact rfl)(hn:Nat.blt d n.n=true:=by exact rfl)(hv:pv ty l o.op=some v:=by exact rfl)(h:WL n ops Q rest ((d,v)::l) w): WL n ops Q (o::rest) l w:=WL.pure hg hd hn hv h
theorem WL.zI {v:Value}(v':Value)(hg:o.guard=none)(hd:o.dst=some d)(hn:Nat.blt d n.n=true)(hv:pv ty l o.op=some v)(e:v=v')(h:WL n ops Q rest ((d,v')::l) w): WL n ops Q (o::rest) l w :=
 WL.step hg hd hn (fun _ ha=>KR oz ha (hv.trans (congrArg some e)) w) h
theorem WL.top {v:Value}(e:v=v')(h:WL n ops Q rest ((d,v')::l) w): WL n ops Q rest ((d,v)::l) w:=by subst e;exact h
theorem WL.G3 [Decidable p](hp:p)(h:WL n ops Q rest ((d,.bool true)::l) w): WL n ops Q rest ((d,.bool (decide p))::l) w:=WL.top (congrArg Value.bool (aw hp)) h
theorem WL.G9 [Decidable p](hp:¬p)(h:WL n ops Q rest ((d,.bool false)::l) w): WL n ops Q rest ((d,.bool (decide p))::l) w:=WL.top (congrArg Value.bool (ar hp)) h
theorem WL.Cc {x:Int}(hx:-9223372036854775808<=x/\x<=9223372036854775807)(h:WL n ops Q rest ((d,.int .i64 x)::l) w): WL n ops Q rest ((d,.int .i64 (IntKind.wrap .i64 x))::l) w:=WL.top (congrArg (Value.int .i64) (bN _ hx)) h
def isB:Value->Option Bool
 | .bool b=>some b
 | _=>none
def asked (b:Bool):Option Bool->Bool
 | some c=>c == b
 | none=>false
def wants (ops:Array Oper)(l:Env)(o:Oper):Option Bool :=
 match o.guard with
 | none=>some true
 | some (j,b)=>match(ops[j]?).bind (·.dst) with
  | some t=>match look l t with
   | some v=>some (asked b (isB v))
   | none=>none
  | none=>none
theorem pj {b:Bool}(ha:Fr n a l)(h:wants ops l o=some b): Region.wanted o (yielded ops a.tmps)=b:=by
 unfold wants at h;unfold Region.wanted yielded;cases hg:o.guard with
 | none=>rw[hg]at h;obtain rfl:=az h;rfl
 | some x=>
  obtain⟨j,wt⟩:=x;rw[hg]at h;simp only at h ⊢;cases hj:(ops[j]?).bind (·.dst) with
  | none=>rw[hj]at h;cases h
  | some t=>
   rw[hj]at h;simp only at h
   split at h
   ·rename_i v hl
    obtain rfl:=az h;simp only[Option.bind_some,ha.slot t _ hl];cases v<;>rfl
   ·cases h
theorem WL.on (hw:wants ops l o=some true)(_hg:o.guard.isSome=true)(h:WL n ops Q ({ o with guard:=none }::rest) l w): WL n ops Q (o::rest) l w :=
 ⟨fun a ha=>apW (pj ha hw) (h.go a ha)⟩
theorem _root_.Go.Proofs.YtlenklobbngopaaGreat.jX (hw:wants ops l o=some true:=by exact rfl)(_hg:o.guard.isSome=true:=by exact rfl)(h:WL n ops Q ({ o with guard:=none }::rest) l w): WL n ops Q (o::rest) l w:=WL.on hw _hg h
theorem WL.off (hw:wants ops l o=some false)(hd:o.dst=some d)(hn:Nat.blt d n.n=true)(h:WL n ops Q rest ((d,undef)::l) w): WL n ops Q (o::rest) l w :=
 ⟨fun a ha=>ai3 (pj ha hw) (by rw[hd];exact h.go _ (ha.put hn undef))⟩
def Me:Option Av->Bool
 | some (.struct _ _) | some (.arr _ _ _) | none=>false
 | _=>true
theorem QA {t:Nat}(h:Me (tyOf ty t)=true)(p:Addr){v:Value}(hc:w.cell? p=some v): (loadVar t p).run prog w=.ok v w:=by
 cases ht:tyOf ty t with
 | none=>rw[ht]at h;cases h
 | some x=>
  rw[ht]at h;have SN:(isAgg t).run prog w=.ok false w:=by
   unfold isAgg;rw[bK];cases x with
   | int k=>have:=oO.of oz ht;rw[bR this w];rfl
   | str=>have:=oO.of oz ht;rw[bR this w];rfl
   | bool=>have:=oO.of oz ht;rw[bR this w];rfl
   | ptr e=>have:=oO.of oz ht;rw[bR this w];rfl
   | map k e=>have:=oO.of oz ht;rw[bR this w];rfl
   | slice e s=>have:=oO.of oz ht;rw[bR this.1 w];rfl
   | struct m fs=>cases h
   | arr m e s=>cases h
  simp[loadVar,bK,SN,hc]
theorem WL.load {t:Nat}{p:Addr}{v:Value}(hg:o.guard=none)(hd:o.dst=some d)(hn:Nat.blt d n.n=true)(ho:o.op=.load t x)(hx:kS l x=some (.pointer (some p)))(ht:Me (tyOf ty t)=true)(hc:w.cell? p=some v)(h:WL n ops Q rest ((d,v)::l) w): WL n ops Q (o::rest) l w :=
 WL.step hg hd hn (fun a ha=>by unfold execOp;rw[ho];simp[ha.eval hx,Instr.loadAt,Instr.sureAddr,QA ht p hc]) h
theorem _root_.Go.Proofs.YtlenklobbngopaaGreat.Y {t:Nat}{p:Addr}{v:Value}(hc:w.cell? p=some v)(hg:o.guard=none:=by exact rfl)(hd:o.dst=some d:=by exact rfl)(hn:Nat.blt d n.n=true:=by exact rfl)(ho:o.op=.load t x:=by exact rfl)(hx:kS l x=some (.pointer (some p)):=by exact rfl)(ht:Me (tyOf ty t)=true:=by exact rfl)(h:WL n ops Q rest ((d,v)::l) w): WL n ops Q (o::rest) l w:=WL.load hg hd hn ho hx ht hc h
theorem WL.qX {t:Nat}{off:Nat}(hg:o.guard=none)(hd:o.dst=some d)(hn:Nat.blt d n.n=true)(ho:o.op=.load t x)(hx:kS l x=some (.pointer (some ⟨b,off,none⟩)))(ht:cellsN (tyOf ty t)=some m)(hc:w.rangeAt b off cs)(hm:cs.length=m)(h:WL n ops Q rest ((d,.agg cs.toArray)::l) w): WL n ops Q (o::rest) l w :=
 WL.step hg hd hn (fun a ha=>by
  obtain⟨d,hu,hd,lJ⟩:=ug oz ht;unfold execOp;rw[ho];have:=fA (P:=prog) w b off t cs _ hc hu hd (by rw[lJ,hm]);simp[ha.eval hx,Instr.loadAt,Instr.sureAddr,this]) h
theorem _root_.Go.Proofs.YtlenklobbngopaaGreat.jy {t:Nat}{off:Nat}(hc:w.rangeAt b off cs)(hm:cs.length=m)(hg:o.guard=none:=by exact rfl)(hd:o.dst=some d:=by exact rfl)(hn:Nat.blt d n.n=true:=by exact rfl)(ho:o.op=.load t x:=by exact rfl)(hx:kS l x=some (.pointer (some ⟨b,off,none⟩)):=by exact rfl)(ht:cellsN (tyOf ty t)=some m:=by exact rfl)(h:WL n ops Q rest ((d,.agg cs.toArray)::l) w): WL n ops Q (o::rest) l w:=WL.qX hg hd hn ho hx ht hc hm h
theorem WL.store {t:Nat}{y:Operand}{p:Addr}{v old:Value}(hg:o.guard=none)(hd:o.dst=none)(ho:o.op=.store t x y)(hx:kS l x=some (.pointer (some p)))(hy:kS l y=some v)(hv:v.oneCell'=true)(lJ:(prog.info? t).map (·.size)=some 1)(hc:w.cell? p=some old)(hf:w.frozen? p=false)(h:WL n ops Q rest l (w.setCell p v)): WL n ops Q (o::rest) l w :=
 WL.XY hg hd (fun a ha=>by
  have hs:(sizeOf t).run prog w=.ok 1 w:=by
   cases hq:prog.info? t with
   | none=>rw[hq]at lJ;cases lJ
   | some q=>rw[hq]at lJ;simp at lJ;simp[sizeOf,typeInfo,hq,lJ]
  have wC:v.cells=#[v]:=by cases v<;>first|rfl|cases hv
  unfold execOp;rw[ho];simp only[ha.eval hx,ha.eval hy,Instr.storeAt,Instr.sureAddr,storeVar,bK,fJ,bG,hs,wC];simp[storeCells,run_store prog w p v _ hv,hc,hf,Addr.add_zero']) h
theorem _root_.Go.Proofs.YtlenklobbngopaaGreat.jT {t:Nat}{y:Operand}{p:Addr}{v old:Value}(hc:w.cell? p=some old)(hf:w.frozen? p=false)(hg:o.guard=none:=by exact rfl)(hd:o.dst=none:=by exact rfl)(ho:o.op=.store t x y:=by exact rfl)(hx:kS l x=some (.pointer (some p)):=by exact rfl)(hy:kS l y=some v:=by exact rfl)(hv:v.oneCell'=true:=by exact rfl)(lJ:(prog.info? t).map (·.size)=some 1:=by kernel_rfl)(h:WL n ops Q rest l (w.setCell p v)): WL n ops Q (o::rest) l w:=WL.store hg hd ho hx hy hv lJ hc hf h
theorem WL.o7 {t T:Nat}{y:Operand}{old:List Value}(hg:o.guard=none)(hd:o.dst=none)(ho:o.op=.store t x y)(hx:kS l x=some (.pointer (some ⟨g,0,none⟩)))(hy:kS l y=some (.agg cs.toArray))(ht:cellsN (tyOf ty t)=some m)(hb:U T w g old)(hm:cs.length=m)(hold:old.length=m)(h1:lY cs)(h:WL n ops Q rest l (w.setRow g cs.toArray)): WL n ops Q (o::rest) l w :=
 ⟨fun a ha=>HN hg (by rw[ho];intro c hc;cases hc) <| wpList_store_rowTo hg t x y ho hd g cs.toArray (ha.eval hx) (ha.eval hy) T old.toArray hb (by obtain⟨d,-,-,lJ⟩:=ug oz ht;rw[lJ];simp[hm]) (by simp[hm,hold])
  (by simp only[List.all_toArray,bY];exact h1) (h.go a ha)⟩
theorem _root_.Go.Proofs.YtlenklobbngopaaGreat.jE {t T:Nat}{y:Operand}{old:List Value}(hb:U T w g old)(h1:lY cs)(hg:o.guard=none:=by exact rfl)(hd:o.dst=none:=by exact rfl)(ho:o.op=.store t x y:=by exact rfl)(hx:kS l x=some (.pointer (some ⟨g,0,none⟩)):=by exact rfl)(hy:kS l y=some (.agg cs.toArray):=by exact rfl)(ht:cellsN (tyOf ty t)=some m:=by exact rfl)(hm:cs.length=m:=by exact rfl)(hold:old.length=m:=by exact rfl)(h:WL n ops Q rest l (w.setRow g cs.toArray)): WL n ops Q (o::rest) l w:=WL.o7 hg hd ho hx hy ht hb hm hold h1 h
theorem WL.box {t:Nat}{v:Value}(hg:o.guard=none)(hd:o.dst=some d)(hn:Nat.blt d n.n=true)(ho:o.op=.box t x)(hx:kS l x=some v)(h:∀g w',kJ w g w' t v.cells.toList->WL n ops Q rest ((d,.pointer (some ⟨g,0,none⟩))::l) w'): WL n ops Q (o::rest) l w :=
 WL.step hg hd hn (fun a ha=>by unfold execOp;rw[ho];simp[ha.eval hx,Instr.box,newVar,newRow]) (h _ _ (kJ.mk' w t v.cells.toList))
theorem _root_.Go.Proofs.YtlenklobbngopaaGreat.jO {t:Nat}{v:Value}(h:∀g w',kJ w g w' t v.cells.toList->WL n ops Q rest ((d,.pointer (some ⟨g,0,none⟩))::l) w')(hg:o.guard=none:=by exact rfl)(hd:o.dst=some d:=by exact rfl)(hn:Nat.blt d n.n=true:=by exact rfl)(ho:o.op=.box t x:=by exact rfl)(hx:kS l x=some v:=by exact rfl): WL n ops Q (o::rest) l w:=WL.box hg hd hn ho hx h
theorem WL.alloc {t:Nat}{z:Value}(hg:o.guard=none)(hd:o.dst=some d)(hn:Nat.blt d n.n=true)(ho:o.op=.alloc t)(hz:∀w,(zeroValue t).run prog w=.ok z w)(h:∀g w',kJ w g w' t z.cells.toList->WL n ops Q rest ((d,.pointer (some ⟨g,0,none⟩))::l) w'): WL n ops Q (o::rest) l w :=
 WL.step hg hd hn (fun a ha=>by unfold execOp;rw[ho];simp[Instr.alloc,newVar,newRow,hz]) (h _ _ (kJ.mk' w t z.cells.toList))
theorem _root_.Go.Proofs.YtlenklobbngopaaGreat.jJ {t:Nat}{z:Value}(hz:∀w,(zeroValue t).run prog w=.ok z w)(h:∀g w',kJ w g w' t z.cells.toList->WL n ops Q rest ((d,.pointer (some ⟨g,0,none⟩))::l) w')(hg:o.guard=none:=by exact rfl)(hd:o.dst=some d:=by exact rfl)(hn:Nat.blt d n.n=true:=by exact rfl)(ho:o.op=.alloc t:=by exact rfl): WL n ops Q (o::rest) l w:=WL.alloc hg hd hn ho hz h
theorem xA {a:Act}(ha:Fr n a l):∀ {xs:List Operand}{vs:List Value},evlAll l xs=some vs->xs.map a.eval=vs
 | [],vs,h=>by cases h;rfl
 | x::xs,vs,h=>by
  unfold evlAll at h
  split at h
  ·rename_i v r h1 h2
   obtain rfl:=az h;rw[aY,ha.eval h1,xA ha h2]
  ·cases h
theorem WL.call {f:FuncId} {fn:Func} {args:List Operand} (hg:o.guard = none) (hd:o.dst = some d) (hn:Nat.blt d n.n = true) (ho:o.op = .call { callee := .value (.func f), args := args.toArray, argTypes := ts }) (hv:evlAll l args = some vs) (hf:prog.funcs[f]? = some fn) (hb:fn.body.isNone = false) (F0:(fn.name == "runtime.NumGoroutine") = false) (hc:Calls prog f vs.toArray w R) (h:∀ e w',R e w' -> ∃ v,e = .returned v /\ WL n ops Q rest ((d,v) :: l) w'): WL n ops Q (o :: rest) l w :=
 ⟨fun a ha=>by
  have my:(execOp a.eval o).run prog w=.ok (.enter f vs.toArray) w:=by
   unfold execOp;rw[ho];have:=xA ha hv;have e1:(args.toArray.map a.eval)=vs.toArray:=by rw[cO,this]
   have e2:a.eval (.func f)=.func (.func f) #[] #[]:=rfl;have Gy:¬fn.body=none:=fun e=>by rw[e]at hb;cases hb
   have OJ : ¬ fn.name = "runtime.NumGoroutine" := by simpa using F0
   simp[resolve,e1,e2,Deferred.ofValue,invoke,callFunc,hf,Gy,OJ]
  refine P0 hg my (hc.mono fun e W3 hh=>?_);obtain⟨v,rfl,hwl⟩:=h e W3 hh;exact⟨v,rfl,by rw[hd];exact hwl.go _ (ha.put hn v)⟩⟩
theorem _root_.Go.Proofs.YtlenklobbngopaaGreat.jx {f:FuncId} {fn:Func} {args:List Operand} (hf:prog.funcs[f]? = some fn) (hc:Calls prog f vs.toArray w R) (hg:o.guard = none := by exact rfl) (hd:o.dst = some d := by exact rfl) (hn:Nat.blt d n.n = true := by exact rfl) (ho:o.op = .call { callee := .value (.func f), args := args.toArray, argTypes := ts } := by exact rfl) (hv:evlAll l args = some vs := by exact rfl) (hb:fn.body.isNone = false := by exact rfl) (F0:(fn.name == "runtime.NumGoroutine") = false := by kernel_rfl) (h:∀ e w', R e w' -> ∃ v, e = .returned v /\ WL n ops Q rest ((d, v) :: l) w'): WL n ops Q (o :: rest) l w := WL.call hg hd hn ho hv hf hb F0 hc h
def evI (k:IntKind)(l:Env):List (Nat×Operand)->Nat->Option (List Int)
 | [],_=>some []
 | (j,x)::r,i=>match Nat.beq j i,kS l x,evI k l r (i+1) with
  | true,some (.int k' z),some zs=>if k'=k then some (z::zs) else none
  | _,_,_=>none
theorem TJ {a:Act}(ha:Fr n a l){k:IntKind}:∀ {xs:List (Nat×Operand)}{i:Nat}{zs:List Int},evI k l xs i=some zs->(xs.map fun x=>(x.1,a.eval x.2))=(((zs.map (Value.int k)).zipIdx i).map fun x=>(x.2,x.1))/\xs.length=zs.length
 | [],_,zs,h=>by cases h;exact⟨rfl,rfl⟩
 | (j,x)::xs,i,zs,h=>by
  unfold evI at h
  split at h
  ·rename_i k' z r hb hx hr
   split at h
   ·rename_i e
    subst e;obtain rfl:=az h;obtain⟨h1,h2⟩:=TJ ha hr;obtain rfl:j=i:=bW hb;refine⟨?_,by simp[h2]⟩;rw[aY,h1,ha.eval hx]
    rfl
   ·cases h
  ·cases h
theorem WL.lit {len:Nat}{parts:List (Nat×Operand)}{zs:List Int}(hg:o.guard=none)(hd:o.dst=some d)(hn:Nat.blt d n.n=true)(ho:o.op=.buildSlice 158 len parts.toArray)(hz:evI .u8 l parts 0=some zs)(hl:Nat.beq len zs.length=true)(hs:(Nat.blt 0 len && Nat.blt len 1000)=true)(h:∀v w',Bu w' v zs->Below w.heap.size w w'->(∀g,v.ownBlock=some g->w.heap.size<=g)->WL n ops Q rest ((d,v)::l) w'): WL n ops Q (o::rest) l w:=by
 have DS:=bW hl;rw[aF,Nat.blt_eq,Nat.blt_eq]at hs;obtain⟨sF,Bj⟩:=hs;have hq:(prog.info? 5).map (fun i=>(i.zero,i.size))=some (some (.int .u8 0),1):=jG;obtain⟨ie,Dg,he⟩:=cY.1 hq;obtain⟨Xr,lJ⟩:=ic he;refine WL.step hg hd hn (w':=w.alloc (.cells (zs.map (Value.int .u8)).toArray 5)) (v:=.slice (some ⟨w.heap.size,0,none⟩) len len) (fun a ha=>?_) (h _ _ ?_ ?_ ?_)
 ·unfold execOp
  rw[ho];obtain⟨h1,h2⟩:=TJ ha hz;have hf:Instr.fill (fun i=>some (i*ie.size,ie.size)) ((Array.range (len*ie.size)).map ((Value.int .u8 0).cells[· % (Value.int .u8 0).cells.size]!)) (parts.toArray.map fun x=>(x.1,a.eval x.2)).toList=some (zs.map (Value.int .u8)).toArray:=by
   rw[fm,h1,lJ];exact Great.fill_flat _ _ (fun v hv=>by obtain⟨m,_,rfl⟩:=bD.1 hv;rfl) (by simp[DS])
  have:=iY (P:=prog) w 158 5 len (parts.toArray.map fun x=>(x.1,a.eval x.2)) _ ie _ dt Dg Xr (by rw[lJ];omega) (by rw[lJ];omega) hf;simp only[bK,this,bG]
  rfl
 ·rw[DS];exact Bu.new w zs (by unfold maxLen;omega)
 ·exact(Below.refl _ w).alloc (aj _) _
 ·intro g nK;cases nK;exact aj _
theorem WL.app {s:Operand}{v:Value}{l2:List Int}(hg:o.guard=none)(hd:o.dst=some d)(hn:Nat.blt d n.n=true)(ho:o.op=.call { callee:=.builtin .append,args:=#[s,x],argTypes:=#[158,158]})(hs:kS l s=some v)(jW:Bu w v l1)(hx:kS l x=some xv)(nG:Sl .u8 w xv l2)(hb:l1.length+l2.length<=140737488355328)(h:∀v' w',Bu w' v' (l1++l2)->kX w v w' v'->WL n ops Q rest ((d,v')::l) w'): WL n ops Q (o::rest) l w :=
 ⟨fun a ha=>by
  have Sz:jY 5 1 w (fun g=>v.ownBlock=some g) v l1.length (l1.map (Value.int .u8)):=⟨jW,lY.int _ _,fun g hg=>hg⟩;apply HN hg (by rw[ho];intro c hc;cases hc);apply yh hg s x 158 ho akd (ha.eval hs) Sz (ha.eval hx) (Sl.EM nG) rfl (by unfold maxLen;omega) I;intro sp c w' h2 h3 h4;rw[hd];refine(h _ w' ?_ ⟨qE h3,fun g hg=>(h4 g hg).imp id (fun e=>by omega)⟩).go _ (ha.put hn _);have h5:=h2.1;rw[<-aV]at h5
  show World.ownsRow _ _ _ _ _ _ _
  rw[af];exact h5⟩
theorem _root_.Go.Proofs.YtlenklobbngopaaGreat.kW {s:Operand}{v:Value}{l2:List Int}(jW:Bu w v l1)(nG:Sl .u8 w xv l2)(h:∀v' w',Bu w' v' (l1++l2)->kX w v w' v'->WL n ops Q rest ((d,v')::l) w')(hg:o.guard=none:=by exact rfl)(hd:o.dst=some d:=by exact rfl)(hn:Nat.blt d n.n=true:=by exact rfl)(ho:o.op=.call { callee:=.builtin .append,args:=#[s,x],argTypes:=#[158,158]}:=by exact rfl)(hs:kS l s=some v:=by exact rfl)(hx:kS l x=some xv:=by exact rfl)(hb:l1.length+l2.length<=140737488355328:=by omega): WL n ops Q (o::rest) l w:=WL.app hg hd hn ho hs jW hx nG hb h
theorem WL.push {o2:Oper}{len:Nat}{parts:List (Nat×Operand)}{zs:List Int}{s:Operand}{v:Value}(hg:o.guard=none)(hd:o.dst=some d)(hn:Nat.blt d n.n=true)(ho:o.op=.buildSlice 158 len parts.toArray)(hz:evI .u8 l parts 0=some zs)(hl:Nat.beq len zs.length=true)(hs:(Nat.blt 0 len && Nat.blt len 1000)=true)(nK:o2.guard=none)(tA:o2.dst=some d2)(uA:Nat.blt d2 n.n=true)(xI:o2.op=.call { callee:=.builtin .append,args:=#[s,.tmp d],argTypes:=#[158,158]})(hsv:∀u,kS ((d,u)::l) s=some v)(ud:look l d=none)(jW:Bu w v l1)(hb:l1.length+zs.length<=140737488355328)(h:∀v' w',Bu w' v' (l1++zs)->kX w v w' v'->WL n ops Q rest ((d2,v')::l) w'): WL n ops Q (o::o2::rest) l w:=by
 refine WL.lit hg hd hn ho hz hl hs fun u w1 hu oc _=>?_;refine WL.app nK tA uA xI (hsv u) (jW.below oc) (by unfold kS look;simp) hu.sl hb fun v' w2 h2 g2=>?_;exact(h v' w2 h2 (((kX.refl w v).below oc).trans g2)).le (YI ud)
end K
namespace K
variable {n:NN}{Q:Exit->Act->World->Prop}{l:Env}{w w':World}{ops:Array Oper}{o:Oper}{rest:List Oper}{d:Nat}
theorem WQ.then {K:Act->World->Prop}(hK:K=cw n.md prog c Q)(h:WC n c Q l w): WQ n (Exit.then K Q) .normal l w:=⟨fun a ha=>by subst hK;exact h.go a ha⟩
theorem WQ.Ej {K:Act->World->Prop}(h:WQ n Q (.exit id) l w): WQ n (Exit.then K Q) (.exit id) l w:=⟨fun a ha=>h.go a ha⟩
theorem WQ.GR {K:Act->World->Prop}(h:WQ n Q .ret l w): WQ n (Exit.then K Q) .ret l w:=⟨fun a ha=>h.go a ha⟩
theorem WQ.blk (h:WQ n Q .normal l w): WQ n (Exit.inBlock id Q) .normal l w:=⟨fun a ha=>h.go a ha⟩
theorem WQ.KO (h:WQ n Q .ret l w): WQ n (Exit.inBlock id Q) .ret l w:=⟨fun a ha=>h.go a ha⟩
theorem WQ.Hk (hi:Nat.beq Sa id=true)(h:WQ n Q .normal l w): WQ n (Exit.inBlock id Q) (.exit Sa) l w :=
 ⟨fun a ha=>by show if Sa=id then Q .normal a w else Q (.exit Sa) a w;rw[ag (bW hi)];exact h.go a ha⟩
theorem WQ.Er (hi:Nat.beq Sa id=false)(h:WQ n Q (.exit Sa) l w): WQ n (Exit.inBlock id Q) (.exit Sa) l w :=
 ⟨fun a ha=>by show if Sa=id then Q .normal a w else Q (.exit Sa) a w;rw[aa (fM hi)];exact h.go a ha⟩
theorem WQ.again {L:ι->Env}{μ:ι->Nat}{i:ι}(j:ι)(hs:Sub l (L j))(hw:W j w)(hm:μ j<μ i): WQ n (Exit.then (adO n L W μ i) Q) .normal l w :=
 ⟨fun _ ha=>⟨j,ha.sub hs,hw,hm⟩⟩
theorem WC.tn {x:Code}{K:Act->World->Prop}(L:ι->Env)(W:ι->World->Prop)(hK:K=cw n.md prog y Q)(h1:WC n x (Exit.then (Zw n L W) Q) l w)(h2:∀i w',W i w'->WC n y Q (L i) w'): WC n x (Exit.then K Q) l w :=
 ⟨fun a ha=>Vy (fun e a w q=>by
  subst hK;cases e with
  | normal=>obtain⟨i,hf,hw⟩:=q;exact(h2 i w hw).go a hf
  | exit id=>exact q
  | goto l=>exact q
  | ret=>exact q
  | panic ch=>exact q
  | outgrown=>exact q) (h1.go a ha)⟩
theorem WL.tn {K:Act->World->Prop}(L:ι->Env)(W:ι->World->Prop)(hK:K=cw n.md prog y Q)(h1:WL n ops (Exit.then (Zw n L W) Q) rest l w)(h2:∀i w',W i w'->WC n y Q (L i) w'): WL n ops (Exit.then K Q) rest l w :=
 ⟨fun a ha=>aei (fun e a w q=>by
  subst hK;cases e with
  | normal=>obtain⟨i,hf,hw⟩:=q;exact(h2 i w hw).go a hf
  | exit id=>exact q
  | goto l=>exact q
  | ret=>exact q
  | panic ch=>exact q
  | outgrown=>exact q) (h1.go a ha)⟩
theorem WQ.meet {L:ι->Env}(i:ι)(hs:Sub l (L i))(hw:W i w): WQ n (Exit.then (Zw n L W) Q) .normal l w:=⟨fun _ ha=>⟨i,ha.sub hs,hw⟩⟩
section
variable {fn:Func}{R:Ending->World->Prop}
theorem Fr.getD (ha:Fr n a l){t:Nat}{v:Value}(h:look l t=some v): a.tmps.getD t undef=v:=by have:=ha.slot t v h;rw[cq,this];rfl
theorem WQ.so {t:Nat}{v:Value}(hr:fn.results=#[.tmp t])(hl:look l t=some v)(h:R (.returned v) w): WQ ⟨kn,[],md⟩ (bodyPost prog fn R) .ret l w :=
 ⟨fun a ha=>⟨ha.defers,v,by have:=ha.getD hl;simp only[cq]at this;simp[results,hr,this],h⟩⟩
theorem _root_.Go.Proofs.YtlenklobbngopaaGreat.J {t:Nat}{v:Value}(h:R (.returned v) w)(hr:fn.results=#[.tmp t]:=by exact rfl)(hl:look l t=some v:=by exact rfl): WQ ⟨kn,[],md⟩ (bodyPost prog fn R) .ret l w:=WQ.so hr hl h
theorem WQ.oU {t:Nat}{v:Value}(hr:fn.results=#[.tmp t,.tmp t2])(hl:look l t=some v)(sL:look l t2=some v2)(h:R (.returned (.tuple #[v,v2])) w): WQ ⟨kn,[],md⟩ (bodyPost prog fn R) .ret l w :=
 ⟨fun a ha=>⟨ha.defers,_,by rw[results_tmp2 hr,ha.getD hl,ha.getD sL],h⟩⟩
end
theorem Tg {t e s:Nat}{off len:Nat}{k:IntKind}(ho:o.op=.indexAddr t x i)(ht:tyOf ty t=some (.slice e s))(hx:a.eval x=.slice (some ⟨b,off,none⟩) len cap)(hi:a.eval i=.int k z)(hz:z=(j:Int))(hj:j<len): (execOp a.eval o).run prog w=.ok (.value (.pointer (some ⟨b,off+j*s,none⟩))) w:=by
 obtain⟨hu,lJ⟩:=oO.of oz ht;have he:prog.elem t=e:=by simp[Program.elem,hu]
 have hs:(sizeOf e).run prog w=.ok s w:=by
  cases hq:prog.info? e with
  | none=>rw[hq]at lJ;cases lJ
  | some q=>rw[hq]at lJ;simp at lJ;simp[sizeOf,typeInfo,hq,lJ]
 unfold execOp;rw[ho];simp only[hx,hi,bK,run_indexAt_slice w t _ len cap k z (by rw[he];exact hu)];rw[ag I,he,hs,hz];simp[Addr.add_mid]
theorem WL.idx {t e s:Nat}{off len:Nat}{k:IntKind}(j q:Nat)(hg:o.guard=none)(hd:o.dst=some d)(hn:Nat.blt d n.n=true)(ho:o.op=.indexAddr t x i)(ht:tyOf ty t=some (.slice e s))(hx:kS l x=some (.slice (some ⟨b,off,none⟩) len cap))(hi:kS l i=some (.int k z))(hz:z=(j:Int))(hj:j<len)(hq:off+j*s=q)(h:WL n ops Q rest ((d,.pointer (some ⟨b,q,none⟩))::l) w): WL n ops Q (o::rest) l w :=
 WL.step hg hd hn (fun _ ha=>by rw[<-hq];exact Tg ho ht (ha.eval hx) (ha.eval hi) hz hj) h
theorem _root_.Go.Proofs.YtlenklobbngopaaGreat.jQ {t e s:Nat}{off len:Nat}{k:IntKind}(j:Nat)(q:Nat)(hj:j<len)(hg:o.guard=none:=by exact rfl)(hd:o.dst=some d:=by exact rfl)(hn:Nat.blt d n.n=true:=by exact rfl)(ho:o.op=.indexAddr t x i:=by exact rfl)(ht:tyOf ty t=some (.slice e s):=by exact rfl)(hx:kS l x=some (.slice (some ⟨b,off,none⟩) len cap):=by exact rfl)(hi:kS l i=some (.int k z):=by exact rfl)(hz:z=(j:Int):=by exact rfl)(hq:off+j*s=q:=by exact rfl)(h:WL n ops Q rest ((d,.pointer (some ⟨b,q,none⟩))::l) w): WL n ops Q (o::rest) l w:=WL.idx j q hg hd hn ho ht hx hi hz hj hq h
theorem WL.alR {t e:Nat}{v:Value}{k kk:IntKind}{zs:List Int}(j:Nat)(hg:o.guard=none)(hd:o.dst=some d)(hn:Nat.blt d n.n=true)(ho:o.op=.indexAddr t x i)(ht:tyOf ty t=some (.slice e 1))(hx:kS l x=some v)(nG:Sl kk w v zs)(hi:kS l i=some (.int k z))(hz:z=(j:Int))(hj:j<zs.length)(h:∀p,w.cell? p=some (.int kk (nth zs j))->WL n ops Q rest ((d,.pointer (some p))::l) w): WL n ops Q (o::rest) l w:=by
 obtain⟨sp,cap,rfl,-,-,h3,-⟩:=nG;obtain⟨b,off,rfl,-,hr⟩:=h3 I;exact WL.idx j (off+j) hg hd hn ho ht hx hi hz hj (by rw[cJ]) (h _ (hr.at j hj))
def qA (s:ByteArray):List Int:=s.toList.map fun c=>(c.toNat:Int)
theorem s_ (s:ByteArray): (qA s).length=s.size:=by unfold qA;rw[aB,aJ];rfl
theorem JP (s:ByteArray)(hj:j<s.size): nth (qA s) j=(s.toList.getD j 0).toNat:=by
 have h:j<s.toList.length:=by rw[aJ,bU];exact hj
 unfold qA nth;simp[h]
theorem WL.bytesOf {t e:Nat}{s:ByteArray}(hg:o.guard=none)(hd:o.dst=some d)(hn:Nat.blt d n.n=true)(ho:o.op=.convert t t2 x)(ht:tyOf ty t=some .str)(KC:tyOf ty t2=some (.slice e 1))(he:tyOf ty e=some (.int .u8))(hx:kS l x=some (.string s))(lJ:s.size<=140737488355328)(h:∀g c w',Sl .u8 w' (.slice (some ⟨g,0,none⟩) s.size c) (qA s)->Below w.heap.size w w'->w.heap.size=g->WL n ops Q rest ((d,.slice (some ⟨g,0,none⟩) s.size c)::l) w'): WL n ops Q (o::rest) l w:=by
 have hl:=s_ s;have hb:=Gs w e s;refine WL.step hg hd hn (fun a ha=>?_) (h w.heap.size (grownCap w s.size 0 e) (Lib.bytesWorld w e s) ?_ hb rfl)
 ·unfold execOp
  rw[ho];have:=Lib.run_convert_string_bytes (P:=prog) w t t2 e s (oO.of oz ht) (oO.of oz KC).1 (oO.of oz he);simp[ha.eval hx,this]
 ·have hm:=grownCap_le_maxLen w s.size 0 e (by unfold maxLen;omega)
  unfold maxLen at hm;have hr:Row .u8 (Lib.bytesWorld w e s) w.heap.size 0 (qA s):=by
   intro j hj;rw[hl]at hj;rw[bA,Lib.bytesWorld_cell w e s j hj,JP s hj,aJ]
  have:=Sl.mk (cap:=grownCap w s.size 0 e) (by rw[hl];exact grownCap_ge _ _ _ _) I (by rw[Lib.bytesWorld_size];omega) hr;rw[hl]at this;exact this
theorem WL.strOf {t e:Nat}{v:Value}{zs:List Int}(hg:o.guard=none)(hd:o.dst=some d)(hn:Nat.blt d n.n=true)(ho:o.op=.convert t t2 x)(ht:tyOf ty t=some (.slice e 1))(KC:tyOf ty t2=some .str)(he:tyOf ty e=some (.int .u8))(hx:kS l x=some v)(hs:Sl .u8 w v zs)(h:WL n ops Q rest ((d,.string (strOfNums zs))::l) w): WL n ops Q (o::rest) l w :=
 WL.step hg hd hn (fun a ha=>by
  unfold execOp;rw[ho];have hu:=(oO.of oz ht).1;have hi:=oO.of oz he;have hd:=oO.of oz KC;obtain⟨sp,cap,rfl,-,-,h3,-⟩:=hs;have my:(convert t t2 (.slice sp zs.length cap)).run prog w=.ok (.string (strOfNums zs)) w:=by
   cases hz:zs with
   | nil=>
    cases sp with
    | none=>rw[run_convert_bytes_nil w t e hu hi _ _ t2 hd];rfl
    | some p=>
     have EJ:(loadCells p 0).run prog w=.ok (([]:List Int).map (Value.int .u8)).toArray w:=by rfl
     rw[run_convert_bytes_string w t t2 e _ _ _ hu hi hd,aL,run_bytesToString w _ 0 cap [] EJ]
     rfl
   | cons z r=>
    obtain⟨b,off,rfl,-,hr⟩:=h3 (by rw[hz];simp);rw[<-hz];exact run_convert_bytes_arg w t e hu hi b off zs.length cap zs rfl (fun i hi=>hr i hi) t2 hd
  simp[ha.eval hx,my]) h
def evlParts (l:Env):List (Nat×Operand)->Option (List (Nat×Value))
 | []=>some []
 | (i,x)::r=>match kS l x,evlParts l r with
  | some v,some vs=>some ((i,v)::vs)
  | _,_=>none
theorem tY {a:Act}(ha:Fr n a l):∀ {xs:List (Nat×Operand)}{vs:List (Nat×Value)},evlParts l xs=some vs->(xs.map fun x=>(x.1,a.eval x.2))=vs
 | [],vs,h=>by cases h;rfl
 | (i,x)::xs,vs,h=>by
  unfold evlParts at h
  split at h
  ·rename_i v r h1 h2
   obtain rfl:=az h;rw[aY,ha.eval h1,tY ha h2]
  ·cases h
theorem WL.build {t:Nat}{parts:List (Nat×Operand)}(cells:List Value)(hg:o.guard=none)(hd:o.dst=some d)(hn:Nat.blt d n.n=true)(ho:o.op=.build t parts.toArray)(hp:evlParts l parts=some ps)(hf:prog.built t ps=some cells.toArray)(h:WL n ops Q rest ((d,.agg cells.toArray)::l) w): WL n ops Q (o::rest) l w :=
 ⟨fun a ha=>HN hg (by rw[ho];intro c hc;cases hc) <| wpList_buildTo hg t parts.toArray ho (some d) hd cells.toArray (by
  rw[show(parts.toArray.map fun x=>(x.1,a.eval x.2)).toList=ps by rw[fm];exact tY ha hp];exact hf) (h.go _ (ha.put hn _))⟩
theorem _root_.Go.Proofs.YtlenklobbngopaaGreat.jR {t:Nat}{parts:List (Nat×Operand)}(cells:List Value)(hf:prog.built t ps=some cells.toArray)(hg:o.guard=none:=by exact rfl)(hd:o.dst=some d:=by exact rfl)(hn:Nat.blt d n.n=true:=by exact rfl)(ho:o.op=.build t parts.toArray:=by exact rfl)(hp:evlParts l parts=some ps:=by exact rfl)(h:WL n ops Q rest ((d,.agg cells.toArray)::l) w): WL n ops Q (o::rest) l w:=WL.build cells hg hd hn ho hp hf h
def litCells (P:Program)(e len:Nat)(ps:List (Nat×Value)):Option (Array Value) :=
 match P.info? e with
 | some ie=>match ie.zero with
  | some z=>if 0<len*ie.size/\len*ie.size<=1000 then Instr.fill (fun i=>some (i*ie.size,ie.size)) ((Array.range (len*ie.size)).map (z.cells[· % z.cells.size]!)) ps else none
  | none=>none
 | none=>none
theorem WL.Ni {t e s len:Nat}{parts:List (Nat×Operand)}(cells:List Value)(hg:o.guard=none)(hd:o.dst=some d)(hn:Nat.blt d n.n=true)(ho:o.op=.buildSlice t len parts.toArray)(ht:tyOf ty t=some (.slice e s))(hp:evlParts l parts=some ps)(hf:litCells prog e len ps=some cells.toArray)(h:∀g w',kJ w g w' e cells->WL n ops Q rest ((d,.slice (some ⟨g,0,none⟩) len len)::l) w'): WL n ops Q (o::rest) l w :=
 WL.step hg hd hn (fun a ha=>by
  unfold litCells at hf;cases Dg:prog.info? e with
  | none=>rw[Dg]at hf;cases hf
  | some ie=>
   rw[Dg]at hf;simp only at hf;cases hz:ie.zero with
   | none=>rw[hz]at hf;cases hf
   | some z=>
    rw[hz]at hf;simp only at hf
    split at hf
    ·rename_i hlen
     unfold execOp;rw[ho];have hpm:=tY ha hp;have:=iY (P:=prog) w t e len (parts.toArray.map fun x=>(x.1,a.eval x.2)) cells.toArray ie z (oO.of oz ht).1 Dg hz I I (by rw[fm];simp only;rw[hpm];exact hf);simp only[bK,this,bG]
     rfl
    ·cases hf) (h _ _ (kJ.mk' w e cells))
end K
namespace K
structure Hold (Q:Prop):Prop where
 out:Q
theorem kz {l m:Env}(h:Sub l m:=by repeat (first|exact trivial|refine⟨rfl,?_⟩)): Sub l m:=h
theorem _root_.Go.Proofs.YtlenklobbngopaaGreat.G {P Q:Prop}(q:Q)(h:Hold Q->P:=by intro q;(repeat (first|((with_reducible refine WL.G3 ?_ ?_);omega)|((with_reducible refine WL.G9 ?_ ?_);omega)|((with_reducible refine WL.Cc ?_ ?_);omega)|refine WC.seq ?_|refine WC.block ?_|refine WC.region ?_|refine WL.nil ?_|refine WC.skip ?_|refine WC.exit ?_|refine WC.ret ?_|refine WQ.then rfl ?_|refine WQ.Ej ?_|refine WQ.GR ?_|refine WQ.blk ?_|refine WQ.KO ?_|refine WQ.Hk rfl ?_|refine WQ.Er rfl ?_|refine WL.pure rfl rfl rfl rfl ?_|refine WL.on rfl rfl ?_|refine WL.off rfl rfl rfl ?_|refine WC.condTrue rfl ?_|refine WC.condFalse rfl ?_));exact q.out): P:=h ⟨q⟩
theorem _root_.Go.Proofs.YtlenklobbngopaaGreat.jF {P Q:Prop}(q:Q)(h:Hold Q->P:=by intro q;(repeat (first|((with_reducible refine WL.G3 ?_ ?_);omega)|((with_reducible refine WL.G9 ?_ ?_);omega)|((with_reducible refine WL.Cc ?_ ?_);omega)|refine WC.seq ?_|refine WC.block ?_|refine WC.region ?_|refine WL.nil ?_|refine WC.skip ?_|refine WC.exit ?_|refine WC.ret ?_|refine WQ.then rfl ?_|refine WQ.Ej ?_|refine WQ.GR ?_|refine WQ.blk ?_|refine WQ.KO ?_|refine WQ.Hk rfl ?_|refine WQ.Er rfl ?_|refine WL.pure rfl rfl rfl rfl ?_|refine WL.on rfl rfl ?_|refine WL.off rfl rfl rfl ?_|refine WL.load rfl rfl rfl rfl rfl rfl (by assumption) ?_|refine WC.condTrue rfl ?_|refine WC.condFalse rfl ?_));exact q.out): P:=h ⟨q⟩
theorem _root_.Go.Proofs.YtlenklobbngopaaGreat.mA {P Q:Prop}(q:Q)(h:Hold Q->P:=by intro q;(repeat (first|refine WC.seq ?_|refine WC.block ?_|refine WC.region ?_|refine WL.nil ?_|refine WC.skip ?_|refine WC.exit ?_|refine WC.ret ?_|refine WQ.then rfl ?_|refine WQ.Ej ?_|refine WQ.GR ?_|refine WQ.blk ?_|refine WQ.KO ?_|refine WQ.Hk rfl ?_|refine WQ.Er rfl ?_));exact q.out): P:=h ⟨q⟩
theorem _root_.Go.Proofs.YtlenklobbngopaaGreat.ur {P Q:Prop}(q:Q)(h:Hold Q->P:=by intro q;(repeat (first|((with_reducible refine WL.G3 ?_ ?_);omega)|((with_reducible refine WL.G9 ?_ ?_);omega)|((with_reducible refine WL.Cc ?_ ?_);omega)|refine WC.seq ?_|refine WC.region ?_|refine WL.nil ?_|refine WC.skip ?_|refine WC.exit ?_|refine WC.ret ?_|refine WQ.then rfl ?_|refine WQ.Ej ?_|refine WQ.GR ?_|refine WQ.blk ?_|refine WQ.KO ?_|refine WQ.Hk rfl ?_|refine WQ.Er rfl ?_|refine WL.pure rfl rfl rfl rfl ?_|refine WL.on rfl rfl ?_|refine WL.off rfl rfl rfl ?_|refine WL.load rfl rfl rfl rfl rfl rfl (by assumption) ?_|refine WC.condTrue rfl ?_|refine WC.condFalse rfl ?_));exact q.out): P:=h ⟨q⟩
end K
end Go.Proofs.YtlenklobbngopaaGreat
