/-
  A region whose order is drawn from the tape, walked in one order: operations that only look at memory which no store of the region touches, and calls that leave all old memory alone, may be taken first; between the others the world may have grown.
  Plain theorems over any program; no condition on the tape.
-/
import Derived.Orders
import Derived.Below
import Derived.Tactics
import Derived.Tactics2
import Derived.RangeFuncRecord
import Derived.MapKept
import Derived.Deep.MidRow
import Derived.Laws.Tables
import Derived.Laws.BytesArg
import Derived.Deep.Upon
import Derived.Laws.StructEq
set_option linter.all false
set_option maxHeartbeats 8000000
namespace Go.Proofs.YthlcppdbldkldaaDoor
open Go.RowKit
def W00:=@Option.some.injEq
def W01:=@Bool.and_eq_true
def W02:=@List.getElem?_eq_some_iff
def W03:=@List.all_eq_true
def W04:=@Option.map_eq_some_iff
def W05:=@Bool.false_eq_true
def W06:=@Prod.mk.injEq
def W07:=@List.getElem?_eq_getElem
def W08:=@List.take_succ_eq_append_getElem
def W09:=@List.getElem?_map
def W0a:=@Array.getD_eq_getD_getElem?
def W0b:=@decide_eq_true_eq
def W0c:=@Array.getElem?_eq_some_iff
def W0d:=@List.mem_of_getElem?
def W0e:=@List.getElem_mem
def W0f:=@Nat.le_refl
def W0g:=@List.mem_cons
def W0h:=@List.mem_append
def W0i:=@List.mem_map
def W0j:=@List.getD_eq_getElem?_getD
def W0k:=@List.getElem_of_mem
def W0l:=@List.length_eq_zero_iff
def W0m:=@Option.map_some
def W0n:=@Array.getElem?_eq_getElem
def W0o:=@List.getElem?_append_right
def W0p:=@Array.getElem?_setIfInBounds
def W0q:=@Nat.lt_or_ge
def W0r:=@List.map_append
def W0s:=@List.length_append
def W0t:=@Option.isSome_iff_exists
def W0u:=@List.mem_flatMap
def W0v:=@List.take_length
def W0w:=@List.contains_iff_mem
def W0x:=@List.drop_eq_getElem_cons
def W0y:=@Function.comp_def
def W0z:=@List.mem_cons_of_mem
def W0A:=@beq_iff_eq
def W0B:=@List.mem_singleton
def W0C:=@Nat.le_of_ble_eq_true
def W0D:=@List.length_filter_le
def W0E:=@List.getElem?_append_left
def W0F:=@List.map_cons
def W0G:=@List.mem_filter
def W0H:=@List.mem_cons_self
def W0I:=@Nat.mul_le_mul_right
def W0J:=@List.take_of_length_le
def W0K:=@List.map_congr_left
def W0L:=@List.getElem?_range
def W0M:=@decide_eq_true
def W0N:=@List.length_map
def W0O:=@Nat.le_trans
def W0P:=@Option.getD_some
def W0Q:=@List.not_mem_nil
def W0R:=@Nat.lt_trichotomy
def W0S:=@decide_eq_false
def W0T:=@Bool.or_eq_true
def W0U:=@List.append_assoc
def W0V:=@List.mem_attach
def W0W:=@Array.getElem?_append
def W0X:=@of_decide_eq_true
def W0Y:=@List.pairwise_iff_getElem
def W0Z:=@Nat.add_mul
def W10:=@List.map_map
def W11:=@List.take_append_drop
def W12:=@Nat.lt_of_lt_of_le
def W13:=@List.getElem?_drop
def W14:=@List.any_eq_true
def W15:=@List.length_take
def W16:=@Array.toList_inj
def W17:=@Bool.not_true
def W18:=@List.nil_append
def W19:=@List.filter_append
def W1a:=@decide_eq_false_iff_not
def W1b:=@List.countP_eq_length_filter
def W1c:=@List.map_nil
def W1d:=@List.cons_append
def W1e:=@Nat.zero_le
def W1f:=@Array.getElem?_toList
def W1g:=@decide_true
def W1h:=@List.drop_of_length_le
def W1i:=@Bool.true_and
def W1j:=@List.pairwise_cons
def W1k:=@List.getElem?_take
def W1l:=@Subtype.forall
def W1m:=@Option.bind_some
def W1n:=@List.length_cons
def W1o:=@List.foldl_append
def W1p:=@List.mem_of_mem_take
def W1q:=@List.getElem?_append
def W1r:=@List.mem_range
def W1s:=@Nat.add_assoc
def W1t:=@List.getElem_map
def W1u:=@decide_false
def W1v:=@List.nodup_cons
def W1w:=@List.findIdx?_eq_some_iff_getElem
def W1x:=@forall_const
def W1y:=@Bool.not_eq_true'
def W1z:=@Bool.not_false
def W1A:=@List.findIdx?_eq_none_iff
def W1B:=@List.append_nil
def W1C:=@List.length_replicate
def W1D:=@List.ext_getElem
def W1E:=@List.getElem?_of_mem
def W1F:=@Bool.false_and
def W1G:=@Option.some.inj
def W1H:=@forall_eq_or_imp
def W1I:=@Nat.zero_add
def W1J:=@List.drop_zero
def W1K:=@Array.mapM_eq_mapM_toList
def W1L:=@List.mem_of_mem_drop
def W1M:=@Bool.or_eq_false_iff
def W1N:=@List.length_nil
def W1O:=@List.getElem_take
def W1P:=@Nat.sub_zero
def W1Q:=@Nat.add_zero
def W1R:=@Int.le_refl
def W1S:=@Array.length_toList
def W1T:=@Option.getD_none
def W1U:=@Nat.eq_zero_or_pos
def W1V:=@List.map_id
def W1W:=@List.set_append_right
def W1X:=@List.any_eq_false
def W1Y:=@List.pairwise_append
def W1Z:=@Subtype.exists
def W20:=@List.countP_cons
def W21:=@Bool.and_true
def W22:=@List.headD_cons
def W23:=@List.foldl_cons
def W24:=@List.cons.injEq
def W25:=@List.all_eq_not_any_not
def W26:=@List.range_succ_eq_map
def W27:=@List.filter_eq_nil_iff
def W28:=@List.getElem?_set
def W29:=@Nat.sub_self
def W2a:=@List.map_set
def W2b:=@List.getElem?_toArray
def W2c:=@Classical.choose_spec
def W2d:=@Nat.lt_succ_self
def Ext (w w':World):Prop:=Below w.heap.size w w'
def Ext.refl (w:World):Ext w w:=Below.refl _ _
def Ext.trans {a b c:World} (h:Ext a b) (k:Ext b c):Ext a c:=Below.trans h (Below.mono k h.size)
def Ext.drew (w:World):Ext w w.drew:=(Below.refl _ _).drew
def Ext.of {w w':World} (h:Below w.heap.size w w'):Ext w w':=h
def Ext.al {w a:World} {o:Obj} (h:Ext w a):Ext w (a.alloc o):=Below.alloc h h.size o
def Ext.dr {w a:World} (h:Ext w a):Ext w a.drew:=Below.drew h
def Ext.sc {w a:World} {p:Addr} {u:Value} (hp:w.heap.size<=p.block) (h:Ext w a):Ext w (a.setCell p u):=Below.setCell h hp u
structure Kp (X:Nat->Prop) (w w':World):Prop where
 os:w'.os=w.os
 tape:w'.tape=w.tape
 output:w'.output=w.output
 size:w.heap.size<=w'.heap.size
 block:∀ k,k<w.heap.size->¬X k->w'.heap[k]? = w.heap[k]?
def Kp.refl (X:Nat->Prop) (w:World):Kp X w w:=⟨rfl,rfl,rfl,W0f _,λ_ _ _=>rfl⟩
def Kp.trans {X:Nat->Prop} {a b c:World} (h:Kp X a b) (k:Kp X b c):Kp X a c :=
 ⟨k.os.trans h.os,k.tape.trans h.tape,k.output.trans h.output,W0O h.size k.size,λi hi hx=>(k.block i (W12 hi h.size) hx).trans (h.block i hi hx)⟩
def Ext.kp {X:Nat->Prop} {w w':World} (h:Ext w w'):Kp X w w':=⟨h.os,h.tape,h.output,h.size,λi hi _=>h.block i hi⟩
def Kp.cell {X:Nat->Prop} {w w':World} (h:Kp X w w') {p:Addr} (hp:p.block<w.heap.size) (hx:¬X p.block):w'.cell? p=w.cell? p:=World.cell?_of_block (w:=w) (h.block p.block hp hx)
def Kp.alloc {X:Nat->Prop} (w:World) (o:Obj):Kp X w (w.alloc o):=Ext.kp ((Below.refl _ w).alloc (W0f _) o)
def Kp.drew {X:Nat->Prop} {w w':World} (h:Kp X w w'):Kp X w w'.drew:=⟨h.os,h.tape,h.output,h.size,h.block⟩
def Kp.setCell {X:Nat->Prop} {w w':World} (h:Kp X w w') {p:Addr} (hp:X p.block) (u:Value):Kp X w (w'.setCell p u) :=
 ⟨h.os,h.tape,h.output,by simpa [World.setCell] using h.size,λk hk hx=>by rw[Below.heap_setCell _ _ _ _ (λe=>hx (by rw[e];exact hp))];exact h.block k hk hx⟩
section
variable {P:Program} {ops:Array Oper} {Q:Exit->Act->World->Prop} {X:Nat->Prop}
def Z0 (P:Program) (w:World) (v:Value):Result Next->Prop
 |.ok (.value u) w'=>Ext w w'/\u=v
 |.ok .skip w'=>Ext w w'/\v=undef
 |.ok (.enter f args) w'=>Calls P f args w' (λe w''=>e = .returned v/\Ext w w'')
 |.ok (.row row args) w'=>Rows P row args w' λu w''=>u=v/\Ext w w''
 |_=>False
def Soft (P:Program) (ops:Array Oper) (X:Nat->Prop) (o:Oper) (v:Value) (a:Act) (w:World):Prop :=
 (Region.wanted o (yielded ops a.tmps)=true/\∀ w1,Kp X w w1->Z0 P w1 v ((execOp a.eval o).run P w1)) ∨
 (Region.wanted o (yielded ops a.tmps)=false/\v=undef)
def Soft.later {o:Oper} {v:Value} {a:Act} {w w':World} (hy:Soft P ops X o v a w) (hk:Kp X w w'):Soft P ops X o v a w' :=
 hy.imp (λ⟨h1,h2⟩=>⟨h1,λw1 h=>h2 w1 (hk.trans h)⟩) id
def EPost (a1:Act) (w1:World):Exit->Act->World->Prop
 |.normal,a,w=>a=a1/\Ext w1 w
 |_,_,_=>False
def EPost.intro {a1 a:Act} {w1 w:World} (h:Ext w1 w) (e:a=a1):EPost a1 w1 .normal a w:=⟨e,h⟩
def Z1 {a:Act} {d:Tmp} (hd:d<a.tmps.size) {u v:Value} (h:a.put (some d) u=a.put (some d) v):u=v:=by
 have h1:(a.put (some d) u).tmps[d]? = (a.put (some d) v).tmps[d]?:=(by rw[h]);simpa [Act.put,hd] using h1
def Soft.mk {o:Oper} {v:Value} {a:Act} {w:World} {d:Tmp} (ho:o.dst=some d) (hd:d<a.tmps.size)
  (h:∀ w1,Kp X w w1->wpList P ops (EPost (a.put o.dst v) w1) [o] a w1):Soft P ops X o v a w:=by
 unfold Soft;by_cases hw:Region.wanted o (yielded ops a.tmps)=true
 . refine .inl ⟨hw,λw1 hk=>?_⟩;have h1:=h w1 hk;unfold wpList at h1;simp only[hw,if_true]at h1;rcases h1 with h1 | ⟨_,a',w',h1⟩
   case inr=>exact (h1:False).elim
   unfold Oper.wp at h1;generalize (execOp a.eval o).run P w1=r at *
   cases r with
   | ok n w' =>
     cases n <;> simp only[Oper.upon]at h1 <;> simp only[Z0]
     case value u =>
      obtain ⟨e1,e2⟩:=(h1:_/\_);rw[ho]at e1;exact ⟨e2,Z1 hd e1⟩
     case skip =>
      obtain ⟨e1,e2⟩:=(h1:_/\_);rw[ho]at e1;exact ⟨e2,(Z1 hd e1).symm⟩
     case enter f args =>
      refine h1.mono λe w'' he=>?_
      cases e with
      | returned u =>
        obtain ⟨e1,e2⟩:=(he:_/\_);rw[ho]at e1;exact ⟨by rw[Z1 hd e1],e2⟩
      |panicked c=>exact (he:False).elim
      |outgrown=>obtain ⟨_,_,he⟩:=he;exact (he:False).elim
     case defer dd =>
      obtain ⟨e1,e2⟩:=(h1:_/\_);have:=congrArg Act.defers e1;rw[ho]at this;simp[Act.put]at this
     case row row args =>
      refine h1.mono λu w'' he=>?_
      obtain ⟨e1,e2⟩:=(he:_/\_);rw[ho]at e1;exact ⟨Z1 hd e1,e2⟩
   | halt x w' =>
     cases x <;> simp only[Oper.upon]at h1
     case panic u=>exact (h1:False).elim
 . refine .inr ⟨by simpa using hw,?_⟩;have h1:=h w (Kp.refl X w);unfold wpList at h1;simp only[hw]at h1;obtain ⟨e1,e2⟩:=(h1:_/\_);rw[ho]at e1;exact (Z1 hd e1).symm
end
def Blk (W:World) (b:Nat) (vs:List Value) (t:TypeId):Prop:=W.heap[b]? = some (.cells vs.toArray t (0,0))
def Blk.cell {W:World} {b:Nat} {vs:List Value} {t:TypeId} (h:Blk W b vs t) (i:Nat):W.cell? ⟨b,i,none⟩=vs[i]?:=by
 unfold Blk at h;simp[World.cell?,h]
def Blk.free {W:World} {b:Nat} {vs:List Value} {t:TypeId} (h:Blk W b vs t) (i:Nat):W.frozen? ⟨b,i,none⟩=false:=by
 unfold Blk at h;simp[World.frozen?,h]
def Blk.lt {W:World} {b:Nat} {vs:List Value} {t:TypeId} (h:Blk W b vs t):b<W.heap.size:=(W0c.1 h).1
def Blk.ext {W W':World} {b:Nat} {vs:List Value} {t:TypeId} (h:Blk W b vs t) (hb:Ext W W'):Blk W' b vs t:=(hb.block b h.lt).trans h
def Blk.kp {X:Nat->Prop} {W W':World} {b:Nat} {vs:List Value} {t:TypeId} (h:Blk W b vs t) (hb:Kp X W W') (hx:¬X b):Blk W' b vs t:=(hb.block b h.lt hx).trans h
def Blk.new (W:World) (vs:List Value) (t:TypeId):Blk (W.alloc (.cells vs.toArray t)) W.heap.size vs t:=World.alloc_heap_new W _
def Blk.alloc {W:World} {b:Nat} {vs:List Value} {t:TypeId} (h:Blk W b vs t) (o:Obj):Blk (W.alloc o) b vs t:=(Below.heap_alloc W o b h.lt).trans h
def Blk.drew {W:World} {b:Nat} {vs:List Value} {t:TypeId} (h:Blk W b vs t):Blk W.drew b vs t:=h
def Blk.set {W:World} {b:Nat} {vs:List Value} {t:TypeId} (h:Blk W b vs t) (i:Nat) (v:Value):Blk (W.setCell ⟨b,i,none⟩ v) b (vs.set i v) t:=by
 have hlt:=h.lt;unfold Blk at h;have h':W.heap[b] = .cells vs.toArray t (0,0):=(by simpa [W0n hlt] using h);show (W.heap.modify b _)[b]? = _;rw[W0n (by simpa using hlt),Array.getElem_modify_self,h'];simp
def Blk.one {W:World} {b:Nat} {x:Value} {t:TypeId} (h:Blk W b [x] t) :
 W.cell? ⟨b,0,none⟩=some x/\W.frozen? ⟨b,0,none⟩=false/\b<W.heap.size:=⟨h.cell 0,h.free 0,h.lt⟩
def Blk.two {W:World} {b:Nat} {x y:Value} {t:TypeId} (h:Blk W b [x,y] t) :
  W.cell? ⟨b,0,none⟩=some x/\W.cell? ⟨b,1,none⟩=some y/\W.frozen? ⟨b,0,none⟩=false/\W.frozen? ⟨b,1,none⟩=false/\b<W.heap.size :=
 ⟨h.cell 0,h.cell 1,h.free 0,h.free 1,h.lt⟩
def Blk.three {W:World} {b:Nat} {x y z:Value} {t:TypeId} (h:Blk W b [x,y,z] t) :
  W.cell? ⟨b,0,none⟩=some x/\W.cell? ⟨b,1,none⟩=some y/\W.cell? ⟨b,2,none⟩=some z/\W.frozen? ⟨b,0,none⟩=false/\W.frozen? ⟨b,1,none⟩=false/\W.frozen? ⟨b,2,none⟩=false/\b<W.heap.size :=
 ⟨h.cell 0,h.cell 1,h.cell 2,h.free 0,h.free 1,h.free 2,h.lt⟩
inductive AV where
 |hole
 |undef
 |int (k:IntKind) (n:Int)
 |bool (b:Bool)
 |str (s:ByteArray)
 |nilp
 |nils
 |nilm
 |nilf
 |nes
 |ptr (k off:Nat)
 |eptr (k n i off:Nat)
 |osl (k n:Nat)
 |oss (k n lo hi:Nat)
 |vptr (cells:List AV) (off:Nat)
 |vsl (rows:List (List AV))
 |func (fn:Fn) (first captured:List AV)
 |agg (cells:List AV)
 |tup (vs:List AV)
 |mp (k:Nat)
 |vmap (kvs:List (AV×AV))
 |abool
 |tok (S:Value->Prop)
 |oof (L:List (Nat×Nat))
 deriving Inhabited
inductive PV (M:Nat->Prop) (W:World):AV->Value->Prop
 |hole:PV M W .hole undef
 |int (k:IntKind) (n:Int):PV M W (.int k n) (.int k n)
 |bool (b:Bool):PV M W (.bool b) (.bool b)
 |abool (b:Bool):PV M W .abool (.bool b)
 |str (s:ByteArray):PV M W (.str s) (.string s)
 |nilp:PV M W .nilp (.pointer none)
 |nils:PV M W .nils (.slice none 0 0)
 |nilm:PV M W .nilm (.map none)
 |nilf:PV M W .nilf .nilFunc
 |nes (a:Addr) (cap:Nat) (hmax:cap<=maxLen):PV M W .nes (.slice (some a) 0 cap)
 |tok (S:Value->Prop) (a:Option Addr) (l c:Nat) (h:S (.slice a l c)):PV M W (.tok S) (.slice a l c)
 |vptr (cells:List AV) (off b o:Nat) (f:Nat->Value) (hb:b<W.heap.size) (hM:¬M b)
  (hc:∀ j,j<cells.length->W.cell? ⟨b,o+j,none⟩=some (f j))
  (hr:∀ (j:Nat) (x:AV),cells[j]? = some x->PV M W x (f j)):PV M W (.vptr cells off) (.pointer (some ⟨b,o+off,none⟩))
 |vsl (rows:List (List AV)) (a:Option Addr) (cap sz b o:Nat) (f:Nat->Nat->Value) (hcap:rows.length<=cap) (hmax:cap<=maxLen)
  (ha:rows≠[]->a=some ⟨b,o,none⟩/\b<W.heap.size/\¬M b) (hn:a=none->rows=[]/\cap=0)
  (hs:∀ r∈rows,r.length=sz)
  (hc:∀ i j,i<rows.length->j<sz->W.cell? ⟨b,o+i*sz+j,none⟩=some (f i j))
  (hr:∀ (i j:Nat) (r:List AV) (x:AV),rows[i]? = some r->r[j]? = some x->PV M W x (f i j)):PV M W (.vsl rows) (.slice a rows.length cap)
 |func (fn:Fn) (xs ys:List AV) (us vs:Array Value) (h1:us.size=xs.length) (h2:vs.size=ys.length)
  (hx:∀ (i:Nat) (x:AV) (u:Value),xs[i]? = some x->us[i]? = some u->PV M W x u) (hy:∀ (i:Nat) (x:AV) (u:Value),ys[i]? = some x->vs[i]? = some u->PV M W x u) :
  PV M W (.func fn xs ys) (.func fn us vs)
 |agg (xs:List AV) (us:Array Value) (h1:us.size=xs.length) (hx:∀ (i:Nat) (x:AV) (u:Value),xs[i]? = some x->us[i]? = some u->PV M W x u):PV M W (.agg xs) (.agg us)
 |tup (xs:List AV) (us:Array Value) (h1:us.size=xs.length) (hx:∀ (i:Nat) (x:AV) (u:Value),xs[i]? = some x->us[i]? = some u->PV M W x u):PV M W (.tup xs) (.tuple us)
 |vmap (kvs:List (AV×AV)) (b:Nat) (es:Array MapEntry) (clock:Nat) (hb:b<W.heap.size) (hM:¬M b) (ho:W.heap[b]? = some (.map es clock)) (hs:MapKept.Stamped es clock) (hn:es.size=kvs.length)
  (hk:∀ (i:Nat) (x y:AV) (e:MapEntry),kvs[i]? = some (x,y)->es[i]? = some e->PV M W x e.key)
  (hv:∀ (i:Nat) (x y:AV) (e:MapEntry),kvs[i]? = some (x,y)->es[i]? = some e->PV M W y e.val):PV M W (.vmap kvs) (.map (some b))
def Z2 {W W':World} {b:Nat} (h:W'.heap[b]? = W.heap[b]?) (o:Nat):W'.cell? ⟨b,o,none⟩=W.cell? ⟨b,o,none⟩:=World.cell?_of_block (w:=W) h
def PV.mono {M M':Nat->Prop} {W W':World} (hk:∀ b,b<W.heap.size->¬M b->¬M' b/\W'.heap[b]? = W.heap[b]?) (hz:W.heap.size<=W'.heap.size)
  {x:AV} {v:Value} (h:PV M W x v):PV M' W' x v:=by
 induction h with
 |hole=>exact .hole
 |int k n=>exact .int k n
 |bool b=>exact .bool b
 |abool b=>exact .abool b
 |str s=>exact .str s
 |nilp=>exact .nilp
 |nils=>exact .nils
 |nilm=>exact .nilm
 |nilf=>exact .nilf
 |nes a c h=>exact .nes a c h
 |tok S a l c h=>exact .tok S a l c h
 | vptr cells off b o f hb hM hc hr ih =>
   obtain ⟨h1,h2⟩:=hk b hb hM;exact .vptr cells off b o f (W12 hb hz) h1 (λj hj=>(Z2 h2 _).trans (hc j hj)) ih
 | vsl rows a cap sz b o f hcap hmax ha hn hs hc hr ih =>
   refine .vsl rows a cap sz b o f hcap hmax (λh=>?_) hn hs (λi j hi hj=>?_) ih
   . obtain ⟨h1,h2,h3⟩:=ha h;exact ⟨h1,W12 h2 hz,(hk b h2 h3).1⟩
   . obtain ⟨h1,h2,h3⟩:=ha (by intro h;simp[h]at hi);exact (Z2 (hk b h2 h3).2 _).trans (hc i j hi hj)
 |func fn xs ys us vs h1 h2 hx hy ihx ihy=>exact .func fn xs ys us vs h1 h2 ihx ihy
 |agg xs us h1 hx ih=>exact .agg xs us h1 ih
 |tup xs us h1 hx ih=>exact .tup xs us h1 ih
 | vmap kvs b es clock hb hM ho hs hn hk' hv ihk ihv =>
   obtain ⟨h1,h2⟩:=hk b hb hM;exact .vmap kvs b es clock (W12 hb hz) h1 (h2.trans ho) hs hn ihk ihv
def PV.ext {M:Nat->Prop} {W W':World} {x:AV} {v:Value} (h:PV M W x v) (he:Ext W W'):PV M W' x v :=
 h.mono (λb hb hM=>⟨hM,he.block b hb⟩) he.size
structure Env where
 M:Nat->Prop
 loc:Nat->Option (Nat×Nat)
 row:Nat->Option (Nat×Nat)
inductive VR (E:Env) (W:World):AV->Value->Prop
 |pv {x:AV} {v:Value} (h:PV E.M W x v):VR E W x v
 |undef (v:Value):VR E W .undef v
 |ptr (k off b s:Nat) (h:E.loc k=some (b,s)) (hr:E.row k=none):VR E W (.ptr k off) (.pointer (some ⟨b,s+off,none⟩))
 |eptr (k n i off sz m:Nat) (p:Option Addr) (h:E.row k=some (sz,m)) (hn:n<=m)
  (he:m=n->∃ b s,E.loc k=some (b,s)/\p=some ⟨b,s+i*sz+off,none⟩):VR E W (.eptr k n i off) (.pointer p)
 |osl (k n sz m:Nat) (a:Option Addr) (l c:Nat) (h:E.row k=some (sz,m)) (hn:n<=m)
  (he:m=n->∃ b s cs t,E.loc k=some (b,s)/\a=some ⟨b,s,none⟩/\l=n/\n<=c/\c<=maxLen/\W.heap[b]? = some (.cells cs t (0,0))/\s+c*sz<=cs.size) :
  VR E W (.osl k n) (.slice a l c)
 |oss (k n lo hi sz m:Nat) (a:Option Addr) (l c:Nat) (h:E.row k=some (sz,m)) (hn:n<=m) (he:m=n->∃ b s cs t ad,E.loc k=some (b,s)/\a=some ad/\(0<c->ad=⟨b,s+lo*sz,none⟩)/\l=hi-lo/\lo<=hi/\hi<=n/\n-lo<=c/\c<=maxLen/\W.heap[b]? = some (.cells cs t (0,0))/\s+(lo+c)*sz<=cs.size) :
  VR E W (.oss k n lo hi) (.slice a l c)
 |func (fn:Fn) (xs ys:List AV) (us vs:Array Value) (h1:us.size=xs.length) (h2:vs.size=ys.length)
  (hx:∀ (i:Nat) (x:AV) (u:Value),xs[i]? = some x->us[i]? = some u->VR E W x u) (hy:∀ (i:Nat) (x:AV) (u:Value),ys[i]? = some x->vs[i]? = some u->VR E W x u) :
  VR E W (.func fn xs ys) (.func fn us vs)
 |agg (xs:List AV) (us:Array Value) (h1:us.size=xs.length) (hx:∀ (i:Nat) (x:AV) (u:Value),xs[i]? = some x->us[i]? = some u->VR E W x u):VR E W (.agg xs) (.agg us)
 |tup (xs:List AV) (us:Array Value) (h1:us.size=xs.length) (hx:∀ (i:Nat) (x:AV) (u:Value),xs[i]? = some x->us[i]? = some u->VR E W x u):VR E W (.tup xs) (.tuple us)
 |mp (k b:Nat) (h:E.loc k=some (b,0)) (hr:E.row k=none):VR E W (.mp k) (.map (some b))
 |oof (L:List (Nat×Nat)) (k n:Nat) (a:Option Addr) (l c:Nat) (hm:(k,n)∈L) (h:VR E W (.osl k n) (.slice a l c)):VR E W (.oof L) (.slice a l c)
structure Mono (E:Env) (W:World) (E':Env) (W':World):Prop where
 size:W.heap.size<=W'.heap.size
 imm:∀ b,b<W.heap.size->¬E.M b->¬E'.M b/\W'.heap[b]? = W.heap[b]?
 box:∀ k p,E.loc k=some p->E.row k=none->E'.loc k=some p/\E'.row k=none
 row:∀ k sz m,E.row k=some (sz,m)->∃ m',E'.row k=some (sz,m')/\m<=m' /\
  (m'=m->∀ b s cs t,E.loc k=some (b,s)->E'.loc k=some (b,s)/\(W.heap[b]? = some (.cells cs t (0,0))->∃ cs',W'.heap[b]? = some (.cells cs' t (0,0))/\cs'.size=cs.size))
def Mono.trans {E E' E'':Env} {W W' W'':World} (h:Mono E W E' W') (g:Mono E' W' E'' W''):Mono E W E'' W'':=by
 refine ⟨W0O h.size g.size,λb hb hM=>?_,λk p hk hr=>?_,λk sz m hk=>?_⟩
 . obtain ⟨h1,h2⟩:=h.imm b hb hM;obtain ⟨h3,h4⟩:=g.imm b (W12 hb h.size) h1;exact ⟨h3,h4.trans h2⟩
 . obtain ⟨h1,h2⟩:=h.box k p hk hr;exact g.box k p h1 h2
 . obtain ⟨m1,h1,h2,h3⟩:=h.row k sz m hk;obtain ⟨m2,h4,h5,h6⟩:=g.row k sz m1 h1;refine ⟨m2,h4,by omega,λe b s cs t hl=>?_⟩;obtain ⟨h7,h8⟩:=h3 (by omega) b s cs t hl;refine ⟨(h6 (by omega) b s cs t h7).1,λhw=>?_⟩;obtain ⟨cs',h9,h10⟩:=h8 hw;obtain ⟨cs'',h11,h12⟩:=(h6 (by omega) b s cs' t h7).2 h9;exact ⟨cs'',h11,by omega⟩
def VR.mono {E E':Env} {W W':World} (m:Mono E W E' W') {x:AV} {v:Value} (h:VR E W x v):VR E' W' x v:=by
 induction h with
 |pv h=>exact .pv (h.mono m.imm m.size)
 |undef v=>exact .undef v
 |ptr k off b s h hr=>obtain ⟨h1,h2⟩:=m.box k _ h hr;exact .ptr k off b s h1 h2
 | eptr k n i off sz l p h hn he =>
   obtain ⟨l',h1,h2,h3⟩:=m.row k sz l h;refine .eptr k n i off sz l' p h1 (by omega) λe=>?_
   obtain ⟨b,s,h4,h5⟩:=he (by omega);exact ⟨b,s,(h3 (by omega) b s #[] 0 h4).1,h5⟩
 | osl k n sz l a ll c h hn he =>
   obtain ⟨l',h1,h2,h3⟩:=m.row k sz l h;refine .osl k n sz l' a ll c h1 (by omega) λe=>?_
   obtain ⟨b,s,cs,t,h4,h5,h6,h7,h8,h9,h10⟩:=he (by omega);obtain ⟨g1,g2⟩:=h3 (by omega) b s cs t h4;obtain ⟨cs',g3,g4⟩:=g2 h9;exact ⟨b,s,cs',t,g1,h5,h6,h7,h8,g3,by omega⟩
 | oss k n lo hi sz l a ll c h hn he =>
   obtain ⟨l',h1,h2,h3⟩:=m.row k sz l h;refine .oss k n lo hi sz l' a ll c h1 (by omega) λe=>?_
   obtain ⟨b,s,cs,t,ad,h4,h5,h6,h7,h8,h9,h10,h11,h12,h13⟩:=he (by omega);obtain ⟨g1,g2⟩:=h3 (by omega) b s cs t h4;obtain ⟨cs',g3,g4⟩:=g2 h12;exact ⟨b,s,cs',t,ad,g1,h5,h6,h7,h8,h9,h10,h11,g3,by omega⟩
 |func fn xs ys us vs h1 h2 hx hy ihx ihy=>exact .func fn xs ys us vs h1 h2 ihx ihy
 |agg xs us h1 hx ih=>exact .agg xs us h1 ih
 |tup xs us h1 hx ih=>exact .tup xs us h1 ih
 |mp k b h hr=>obtain ⟨h1,h2⟩:=m.box k _ h hr;exact .mp k b h1 h2
 |oof L k n a l c hm h ih=>exact .oof L k n a l c hm ih
def AV.pure:AV->Bool
 |.undef | .ptr .. | .eptr .. | .osl .. | .oss .. | .mp .. | .oof _=>false
 |.func _ xs ys=>xs.attach.all (λ⟨x,_⟩=>x.pure)&&ys.attach.all (λ⟨x,_⟩=>x.pure)
 |.agg xs | .tup xs=>xs.attach.all (λ⟨x,_⟩=>x.pure)
 |_=>true
def VR.toPV {E:Env} {W:World} {x:AV} {v:Value} (h:VR E W x v):x.pure=true->PV E.M W x v:=by
 induction h with
 |pv h=>exact λ_=>h
 |undef v=>intro h;simp[AV.pure]at h
 |ptr k off b s h hr=>intro h;simp[AV.pure]at h
 |eptr=>intro h;simp[AV.pure]at h
 |osl=>intro h;simp[AV.pure]at h
 |oss=>intro h;simp[AV.pure]at h
 |mp=>intro h;simp[AV.pure]at h
 |oof=>intro h;simp[AV.pure]at h
 | func fn xs ys us vs h1 h2 hx hy ihx ihy =>
   intro h;simp only[AV.pure,W01,W03,W0V,W1x,W1l]at h;exact .func fn xs ys us vs h1 h2 (λi x u hi hu=>ihx i x u hi hu (h.1 x (W0d hi))) (λi x u hi hu=>ihy i x u hi hu (h.2 x (W0d hi)))
 | agg xs us h1 hx ih =>
   intro h;simp only[AV.pure,W03,W0V,W1x,W1l]at h;exact .agg xs us h1 (λi x u hi hu=>ih i x u hi hu (h x (W0d hi)))
 | tup xs us h1 hx ih =>
   intro h;simp only[AV.pure,W03,W0V,W1x,W1l]at h;exact .tup xs us h1 (λi x u hi hu=>ih i x u hi hu (h x (W0d hi)))
inductive AObj where
 |box (cells:List AV)
 |row (sz:Nat) (rows:List (List AV))
 |mp (kvs:List (AV×AV))
 deriving Inhabited
def lk {α:Type}:List (Nat×α)->Nat->Option α
 |[],_=>none
 |(k,x)::r,n=>if k=n then some x else lk r n
def putO {α:Type}:List (Nat×α)->Nat->α->List (Nat×α)
 |[],n,y=>[(n,y)]
 |(k,x)::r,n,y=>if k=n then (k,y)::r else (k,x)::putO r n y
def Z3 {α:Type} (l:List (Nat×α)) (n:Nat) (y:α) (m:Nat):lk (putO l n y) m=if n=m then some y else lk l m:=by
 induction l with
 |nil=>simp[putO,lk]
 | cons p r ih =>
   obtain ⟨k,x⟩:=p;simp only[putO];by_cases h:k=n
   . subst h;by_cases h2:k=m <;> simp[lk,h2]
   . by_cases h2:k=m
     . subst h2;have:¬n=k:=λe=>h e.symm
       simp[lk,h,this]
     . simp[lk,h,h2,ih]
structure St where
 t:List (Nat×AV)
 o:List (Nat×AObj)
def St.tmp (st:St) (n:Nat):Option AV:=lk st.t n
def St.get (st:St) (k:Nat):Option AObj:=lk st.o k
def St.put (st:St) (n:Nat) (x:AV):St:={ st with t:=(n,x)::st.t }
def St.set (st:St) (k:Nat) (x:AObj):St:={ st with o:=putO st.o k x }
def St.tmp_put (st:St) (n:Nat) (x:AV) (m:Nat):(st.put n x).tmp m=if n=m then some x else st.tmp m:=rfl
def St.get_set (st:St) (n:Nat) (x:AObj) (m:Nat):(st.set n x).get m=if n=m then some x else st.get m:=Z3 _ _ _ _
def AObj.dim:AObj->Option (Nat×Nat)
 |.row sz rows=>some (sz,rows.length)
 |_=>none
def St.env (M:Nat->Prop) (κ:Nat->Option (Nat×Nat)) (st:St):Env :=
 { M:=λb=>M b∨∃ k s,κ k=some (b,s),loc:=κ,row:=λk=>(st.get k).bind AObj.dim }
def ObjR (E:Env) (W:World) (b s:Nat):AObj->Prop
 |.box cells=>s=0/\∃ cs t,W.heap[b]? = some (.cells cs t (0,0))/\cs.size=cells.length/\∀ (j:Nat) (x:AV),cells[j]? = some x->∃ v,cs[j]? = some v/\VR E W x v
 |.row sz rows=>(∀ r∈rows,r.length=sz)/\∃ cs t,W.heap[b]? = some (.cells cs t (0,0))/\s+rows.length*sz<=cs.size /\
  ∀ (i j:Nat) (r:List AV) (x:AV),rows[i]? = some r->r[j]? = some x->∃ v,cs[s+i*sz+j]? = some v/\VR E W x v
 |.mp kvs=>s=0/\∃ es clock,W.heap[b]? = some (.map es clock)/\MapKept.Stamped es clock/\es.size=kvs.length/\∀ (i:Nat) (x y:AV),kvs[i]? = some (x,y)->∃ e,es[i]? = some e/\VR E W x e.key/\VR E W y e.val
def ObjR.mono {E E':Env} {W W':World} {b s:Nat} {o:AObj} (m:Mono E W E' W') (h:ObjR E W b s o) (hb:W'.heap[b]? = W.heap[b]?):ObjR E' W' b s o:=by
 cases o with
 | box cells =>
   obtain ⟨h0,cs,t,h1,h2,h3⟩:=h;exact ⟨h0,cs,t,hb.trans h1,h2,λj x hj=>(h3 j x hj).imp λv hv=>⟨hv.1,hv.2.mono m⟩⟩
 | row sz rows =>
   obtain ⟨h0,cs,t,h1,h2,h3⟩:=h;exact ⟨h0,cs,t,hb.trans h1,h2,λi j r x hi hj=>(h3 i j r x hi hj).imp λv hv=>⟨hv.1,hv.2.mono m⟩⟩
 | mp kvs =>
   obtain ⟨h0,es,t,h1,h2,h3,h4⟩:=h;exact ⟨h0,es,t,hb.trans h1,h2,h3,λi x y hi=>(h4 i x y hi).imp λe he=>⟨he.1,he.2.1.mono m,he.2.2.mono m⟩⟩
def GR (G:Nat->Option (List AV)) (M:Nat->Prop) (W:World):Prop:=∀ g cs,G g=some cs->PV M W (.vptr cs 0) (.pointer (some ⟨g,0,none⟩))
def GR.mono {G:Nat->Option (List AV)} {M M':Nat->Prop} {W W':World} (h:GR G M W) (hk:∀ b,b<W.heap.size->¬M b->¬M' b/\W'.heap[b]? = W.heap[b]?) (hz:W.heap.size<=W'.heap.size):GR G M' W' :=
 λg cs hg=>(h g cs hg).mono hk hz
structure Run where
 G:Nat->Option (List AV)
 M:Nat->Prop
 X:Nat->Prop
 W0:World
 N:Nat
 E0:Env
 D:List Deferred:=[]
 rd:Option Nat:=none
 nm:Bool:=false
def coll (c:Nat):Deferred:={ target:=.collected c,args:=#[] }
def Marks (nm:Bool) (D:List Deferred) (n0:Nat) (ds:List Deferred) (W:World):Prop :=
 ∃ cs:List Nat,ds=cs.map coll++D/\cs.Nodup/\(∀ c∈cs,n0<=c/\W.heap[c]? = some (.deferred (some [])))/\(nm=true->cs=[])
def Marks.of {nm:Bool} {D ds:List Deferred} {n0:Nat} {W W':World} (h:Marks nm D n0 ds W) (hk:∀ c:Nat,W.heap[c]? = some (.deferred (some []))->W'.heap[c]? = some (.deferred (some []))):Marks nm D n0 ds W' :=
 h.imp λ_ hc=>⟨hc.1,hc.2.1,λc hm=>⟨(hc.2.2.1 c hm).1,hk c (hc.2.2.1 c hm).2⟩,hc.2.2.2⟩
def Marks.nil (nm:Bool) (D:List Deferred) (n0:Nat) (W:World):Marks nm D n0 D W:=⟨[],rfl,.nil,by simp,λ_=>rfl⟩
def Marks.weak {nm:Bool} {D ds:List Deferred} {n0:Nat} {W:World} (h:Marks nm D n0 ds W):Marks false D n0 ds W:=h.imp λ_ hc=>⟨hc.1,hc.2.1,hc.2.2.1,λh=>by cases h⟩
def Run.Top (R:Run):Prop:=R.rd=none/\R.nm=false
structure SK (R:Run) (st:St) (a:Act) (W:World) (κ:Nat->Option (Nat×Nat)):Prop where
 defers:Marks R.nm R.D R.W0.heap.size a.defers W
 size:a.tmps.size=R.N
 tm:∀ n x,st.tmp n=some x->VR (st.env R.M κ) W x (a.tmps.getD n undef)
 obj:∀ k o,st.get k=some o->∃ b s,κ k=some (b,s)/\b<W.heap.size/\(R.W0.heap.size<=b∨R.X b)/\ObjR (st.env R.M κ) W b s o
 dom:∀ k p,κ k=some p->∃ o,st.get k=some o
 inj:∀ k k' b s s',κ k=some (b,s)->κ k'=some (b,s')->k=k'
 low:∀ b,R.M b->b<R.W0.heap.size
 apart:∀ b,R.M b->¬R.X b
 kp:Kp R.X R.W0 W
 gr:GR R.G (st.env R.M κ).M W
 mono:Mono R.E0 R.W0 (st.env R.M κ) W
 ent:∀ k,k<1000->R.E0.loc k=none/\R.E0.row k=none
def SR (R:Run) (st:St) (a:Act) (W:World):Prop:=∃ κ,SK R st a W κ
abbrev Jg:=Nat->Option (List AV)
def Qex {α:Sort _} (a:α):∃ x,x=a:=⟨a,rfl⟩
inductive RA where
 |t (n:Nat)
 |c (v:AV)
 |g (n:Nat)
 deriving Inhabited
inductive CK where
 |i
 |s
 |b
 deriving DecidableEq,Inhabited
def eq1:CK->AV->AV->Option Bool
 |.i,.int k a,.int k' b=>if k=k' then some (decide (a=b)) else none
 |.b,.bool a,.bool b=>some (a == b)
 |.s,.str a,.str b=>some (a.toList == b.toList)
 |_,_,_=>none
def eqL:List CK->List AV->List AV->Option Bool
 |[],[],[]=>some true
 | k::ks,x::xs,y::ys=>match eq1 k x y,eqL ks xs ys with
   |some b,some c=>some (b&&c)
   |_,_=>none
 |_,_,_=>none
def is1:CK->AV->Bool
 |.i,.int _ _=>true
 |.b,.bool _=>true
 |.s,.str _=>true
 |_,_=>false
def isL:List CK->List AV->Bool
 |[],[]=>true
 |k::ks,x::xs=>is1 k x&&isL ks xs
 |_,_=>false
inductive KK where
 |i (k:IntKind)
 |s
 |b
 |ag (ks:List CK)
 deriving DecidableEq,Inhabited
def KK.is:KK->AV->Bool
 |.i k,.int k' _=>decide (k'=k)
 |.s,.str _=>true
 |.b,.bool _=>true
 |.ag ks,.agg xs=>isL ks xs
 |_,_=>false
def KK.eq:KK->AV->AV->Option Bool
 |.i k,.int k1 a,.int k2 c=>if k1=k/\k2=k then some (decide (a=c)) else none
 |.s,.str a,.str c=>some (a == c)
 |.b,.bool a,.bool c=>some (a == c)
 |.ag ks,.agg xs,.agg ys=>eqL ks xs ys
 |_,_,_=>none
def KK.find (kk:KK) (x:AV):List (AV×AV)->Option (Option Nat)
 |[]=>some none
 | (k,_)::r=>match kk.eq x k with
   |some true=>some (some 0)
   |some false=>(kk.find x r).map (Option.map (· + 1))
   |none=>none
def KK.get (kk:KK) (x:AV) (kvs:List (AV×AV)):Option (Option AV):=if kk.is x=true then match kk.find x kvs with
 |some (some j)=>(kvs[j]?).map λp=>some p.2
 |some none=>some none
 |none=>none
 else none
def KK.put (kk:KK) (x y:AV) (kvs:List (AV×AV)):Option (List (AV×AV)):=if kk.is x=true then match kk.find x kvs with
 |some (some j)=>some (kvs.set j (x,y))
 |some none=>some (kvs++[(x,y)])
 |none=>none
 else none
def KK.del (kk:KK) (x:AV) (kvs:List (AV×AV)):Option (List (AV×AV)):=if kk.is x=true then match kk.find x kvs with
 |some (some j)=>some (kvs.eraseIdx j)
 |some none=>some kvs
 |none=>none
 else none
inductive VOp where
 |aaddr (n sz:Nat)
 |aidx (agg:Bool) (n sz:Nat)
 |sidx
 |beq (neg:Bool)
 |bits (op:BinOp)
 |sh (left:Bool)
 |b2s
 |eqn (neg:Bool)
inductive ROp where
 |mov (x:RA)
 |pick (c a b:RA)
 |nilck (x:RA)
 |bin (op:BinOp) (x y:RA)
 |eqs (neg:Bool) (ks:List CK) (x y:RA)
 |un (op:UnOp) (x:RA)
 |conv (k:IntKind) (x:RA)
 |ext (i:Nat) (x:RA)
 |mkf (fn:Fn) (first caps:List RA)
 |field (agg:Bool) (off n:Nat) (x:RA)
 |faddr (off:Nat) (p:RA)
 |vop (v:VOp) (xs:List RA)
 |iaddr (sz:Nat) (s i:RA)
 |build (zero:List AV) (parts:List (Nat×Nat×RA))
 |len (x:RA)
 |slen (x:RA)
 |mx (great:Bool) (x:RA) (r:List RA)
 |load (agg:Bool) (n:Nat) (p:RA)
 |store (n:Nat) (p v:RA)
 |alloc (cells:List AV)
 |box (x:RA)
 |bsl (own:Bool) (sz len:Nat) (zero:List AV) (parts:List (Nat×RA))
 |slc (sz:Nat) (x:RA) (lo hi:Option RA)
 |sslc (x:RA) (lo hi:Option RA)
 |mksl (sz bytes:Nat) (zero:List AV) (n:RA)
 |app (sz bytes:Nat) (s x:RA)
 |call (f:FuncId) (args:List RA)
 |calln (f:FuncId) (args:List RA)
 |callv (f:RA) (args:List RA)
 |mkmap
 |look (kk:KK) (zero:AV) (ok:Bool) (m k:RA)
 |mupd (kk:KK) (m k v:RA)
 |mdel (kk:KK) (m k:RA)
 |mlen (m:RA)
 |clr (sz:Nat) (zero:List AV) (x:RA)
 deriving Inhabited
def AV.cellsL:AV->List AV
 |.agg xs=>xs
 |x=>[x]
def AV.known:AV->Bool
 |.undef=>false
 |_=>true
def AV.one:AV->Bool
 |.undef | .hole | .agg _ | .tup _=>false
 |_=>true
def Z4 (cs:List AV) (off:Nat) (us:List AV):List AV:=cs.take off++us++cs.drop (off+us.length)
section
variable (G:Jg)
def evA (st:St):RA->AV
 |.t n=>(st.tmp n).getD .undef
 |.c v=>v
 |.g n=>match G n with|some cs=>.vptr cs 0|none=>.undef
def aBin:BinOp->AV->AV->Option AV
 |.add,.int k a,.int k' b=>if k=k' then some (.int k (k.wrap (a+b))) else none
 |.sub,.int k a,.int k' b=>if k=k' then some (.int k (k.wrap (a-b))) else none
 |.mul,.int k a,.int k' b=>if k=k' then some (.int k (k.wrap (a*b))) else none
 |.quo,.int k a,.int k' b=>if k=k' then if b=0 then none else some (.int k (k.wrap (a.tdiv b))) else none
 |.rem,.int k a,.int k' b=>if k=k' then if b=0 then none else some (.int k (a.tmod b)) else none
 |.eql,.int k a,.int k' b=>if k=k' then some (.bool (decide (a=b))) else none
 |.neq,.int k a,.int k' b=>if k=k' then some (.bool (!decide (a=b))) else none
 |.lss,.int k a,.int k' b=>if k=k' then some (.bool (decide (a<b))) else none
 |.leq,.int k a,.int k' b=>if k=k' then some (.bool (decide (a<=b))) else none
 |.gtr,.int k a,.int k' b=>if k=k' then some (.bool (decide (b<a))) else none
 |.geq,.int k a,.int k' b=>if k=k' then some (.bool (decide (b<=a))) else none
 |.eql,.str a,.str b=>some (.bool (a.toList == b.toList))
 |.neq,.str a,.str b=>some (.bool (!(a.toList == b.toList)))
 |.add,.str a,.str b=>if a.size+b.size<=9223372036854775807 then some (.str (a++b)) else none
 |_,_,_=>none
def aUn:UnOp->AV->Option AV
 |.neg,.int k n=>some (.int k (k.wrap (0-n)))
 |.not,.bool b=>some (.bool (!b))
 |_,_=>none
def aFill:List AV->List (Nat×Nat×AV)->Option (List AV)
 |cs,[]=>some cs
 |cs,(off,n,x)::r=>if x.known=true/\x.cellsL.length=n/\off+n<=cs.length then aFill (Z4 cs off x.cellsL) r else none
def Z5 (st:St):AV->Option (List AV×Nat)
 |.vptr cs off=>some (cs,off)
 | .ptr k off=>match st.get k with
   |some (.box cs)=>some (cs,off)
   |_=>none
 | .eptr k n i off=>match st.get k with
   |some (.row _ rows)=>if rows.length=n then (rows[i]?).map λr=>(r,off) else none
   |_=>none
 |_=>none
def cut (agg:Bool) (n:Nat) (cs:List AV) (off:Nat):Option AV :=
 if agg=true then if off+n<=cs.length then some (.agg ((cs.drop off).take n)) else none else cs[off]?
def Z6:List (List AV)->Option (List Int)
 |[]=>some []
 |[.int .u8 n]::r=>(Z6 r).map (n :: ·)
 |_::_=>none
def Z7 {rows:List (List AV)} {ns:List Int} (h:Z6 rows=some ns):rows=ns.map λn=>[AV.int .u8 n]:=by
 induction rows generalizing ns with
 |nil=>simp[Z6]at h;subst h;rfl
 | cons r rows ih =>
   unfold Z6 at h
   split at h
   . rename_i h0;cases h0
   . rename_i n r' h0;simp only[W24]at h0;obtain ⟨rfl,rfl⟩:=h0;simp only[W04]at h;obtain ⟨l,h1,rfl⟩:=h;rw[ih h1];rfl
   . cases h
def vopF:VOp->List AV->Option AV
 |.b2s,[.vsl rows]=>(Z6 rows).map λns=>.str (strOfNums ns)
 |.b2s,[.nils]=>some (.str ByteArray.empty)
 |.eqn neg,[.nils,.nils]=>some (.bool (!neg))
 |.eqn neg,[.nes,.nils]=>some (.bool neg)
 |.eqn neg,[.vsl rows,.nils]=>some (if rows.length=0 then .abool else .bool neg)
 |.aaddr n sz,[.ptr k o,.int _ i]=>if 0<=i/\i<(n:Int) then some (.ptr k (o+i.toNat*sz)) else none
 |.aaddr n sz,[.vptr cs o,.int _ i]=>if 0<=i/\i<(n:Int) then some (.vptr cs (o+i.toNat*sz)) else none
 |.aidx agg n sz,[.agg cs,.int _ i]=>if 0<=i/\i<(n:Int) then cut agg sz cs (i.toNat*sz) else none
 |.beq neg,[.bool a,.bool b]=>some (.bool (if neg=true then !(a == b) else a == b))
 | .bits op,[.int k a,.int k' b]=>if k=k' then match op with
   |.and=>some (.int k (k.wrap ((BitVec.ofInt k.bits a &&& BitVec.ofInt k.bits b).toNat:Int)))
   |.or=>some (.int k (k.wrap ((BitVec.ofInt k.bits a ||| BitVec.ofInt k.bits b).toNat:Int)))
   |.xor=>some (.int k (k.wrap ((BitVec.ofInt k.bits a ^^^ BitVec.ofInt k.bits b).toNat:Int)))
   |_=>none
   else none
 |.sh left,[.int k a,.int _ b]=>if 0<=b then some (.int k (if left=true then k.wrap (a*2 ^ (min b.toNat k.bits)) else a.fdiv (2 ^ (min b.toNat k.bits)))) else none
 |.sidx,[.str s,.int _ i]=>if 0<=i then (s[i.toNat]?).map λb=>.int .u8 (b.toNat:Int) else none
 |_,_=>none
def Z8 (st:St) (us:List AV):AV->Option St
 | .ptr k off=>match st.get k with
   |some (.box cs)=>if off+us.length<=cs.length then some (st.set k (.box (Z4 cs off us))) else none
   |_=>none
 | .eptr k n i off=>match st.get k with
   | some (.row sz rows)=>if rows.length=n then match rows[i]? with
     |some r=>if off+us.length<=r.length then some (st.set k (.row sz (rows.set i (Z4 r off us)))) else none
     |none=>none
     else none
   |_=>none
 |_=>none
def aMx (great:Bool):AV->AV->Option AV
 |.int k a,.int k' b=>if k=k' then some (.int k (if great=true then max a b else min a b)) else none
 |_,_=>none
def aMxs (great:Bool):AV->List AV->Option AV
 |x,[]=>some x
 | x,y::r=>match aMx great x y with
   |some z=>aMxs great z r
   |none=>none
def chunk (sz n:Nat) (cs:List AV):List (List AV):=(List.range n).map λi=>(cs.drop (i*sz)).take sz
def Z9 (st:St) (sz:Nat):AV->Option (List (List AV))
 |.vsl rows=>if rows.all (λr=>r.length == sz)=true then some rows else none
 |.nils=>some []
 |.nes=>some []
 | .osl k n=>match st.get k with
   |some (.row sz' rows)=>if sz'=sz/\rows.length=n then some rows else none
   |_=>none
 | .oss k n lo hi=>match st.get k with
   |some (.row sz' rows)=>if sz'=sz/\rows.length=n then some ((rows.take hi).drop lo) else none
   |_=>none
 |_=>none
def aLen (st:St):AV->Option Nat
 |.vsl rows=>some rows.length
 |.nils=>some 0
 |.nes=>some 0
 | .osl k n=>match st.get k with
   |some (.row _ rows)=>if rows.length=n then some n else none
   |_=>none
 | .oss k n lo hi=>match st.get k with
   |some (.row _ rows)=>if rows.length=n then some (hi-lo) else none
   |_=>none
 |_=>none
def mapOf (st:St):AV->Option (List (AV×AV))
 |.nilm=>some []
 |.vmap kvs=>some kvs
 | .mp k=>match st.get k with
   |some (.mp kvs)=>some kvs
   |_=>none
 |_=>none
def bnd (d:Nat):Option AV->Option Nat
 |none=>some d
 |some (.int _ n)=>if 0<=n then some n.toNat else none
 |_=>none
def rop (st:St) (d:Nat):ROp->Option (AV×St)
 |.mov x=>some (evA G st x,st)
 | .pick c a b=>match evA G st c with
   |.bool true=>some (evA G st a,st)
   |.bool false=>some (evA G st b,st)
   |_=>none
 | .nilck x=>match evA G st x with
   |.ptr k off=>some (.ptr k off,st)
   |.vptr cs off=>some (.vptr cs off,st)
   |.func (.func f) xs ys=>some (.func (.func f) xs ys,st)
   |_=>none
 |.bin op x y=>(aBin op (evA G st x) (evA G st y)).map λv=>(v,st)
 |.un op x=>(aUn op (evA G st x)).map λv=>(v,st)
 | .conv k x=>match evA G st x with
   |.int _ n=>some (.int k (k.wrap n),st)
   |_=>none
 | .ext i x=>match evA G st x with
   |.tup vs=>(vs[i]?).map λv=>(v,st)
   |_=>none
 |.mkf fn first caps=>some (.func fn (first.map (evA G st)) (caps.map (evA G st)),st)
 | .field agg off n x=>match evA G st x with
   |.agg cs=>(cut agg n cs off).map λv=>(v,st)
   |_=>none
 |.vop v xs=>(vopF v (xs.map (evA G st))).map λz=>(z,st)
 | .faddr off p=>match evA G st p with
   |.ptr k o=>some (.ptr k (o+off),st)
   | .eptr k n i o=>match st.get k with
     |some (.row _ rows)=>if rows.length=n then some (.eptr k n i (o+off),st) else none
     |_=>none
   |.vptr cs o=>some (.vptr cs (o+off),st)
   |_=>none
 |.build zero parts=>(aFill zero (parts.map λp=>(p.1,p.2.1,evA G st p.2.2))).map λcs=>(.agg cs,st)
 | .load agg n p=>match Z5 st (evA G st p) with
   |some (cs,off)=>(cut agg n cs off).map λv=>(v,st)
   |none=>none
 |.store n p v=>if (evA G st v).cellsL.length=n/\(evA G st v).cellsL.all AV.one=true then (Z8 st (evA G st v).cellsL (evA G st p)).map λst'=>(.hole,st') else none
 | .alloc cells=>match st.get d with
   |none=>some (.ptr d 0,st.set d (.box cells))
   |some _=>none
 | .box x=>match st.get d with
   |none=>if (evA G st x).known=true then some (.ptr d 0,st.set d (.box (evA G st x).cellsL)) else none
   |some _=>none
 | .eqs neg ks x y=>match evA G st x,evA G st y with
   |.agg xs,.agg ys=>(eqL ks xs ys).map λb=>(.bool (if neg=true then !b else b),st)
   |_,_=>none
 | .iaddr sz s i=>match evA G st i with
   | .int _ n=>if 0<=n then match evA G st s with
     | .vsl rows=>match rows[n.toNat]? with
       |some r=>if r.length=sz then some (.vptr r 0,st) else none
       |none=>none
     | .osl k m=>match st.get k with
       |some (.row sz' rows)=>if sz'=sz/\rows.length=m/\n.toNat<m then some (.eptr k m n.toNat 0,st) else none
       |_=>none
     | .oss k m lo hi=>match st.get k with
       |some (.row sz' rows)=>if sz'=sz/\rows.length=m/\n.toNat<hi-lo then some (.eptr k m (lo+n.toNat) 0,st) else none
       |_=>none
     |_=>none
     else none
   |_=>none
 |.len x=>(aLen st (evA G st x)).map λ(n:Nat)=>(AV.int .i64 (n:Int),st)
 | .slen x=>match evA G st x with
   |.str s=>some (.int .i64 ((s.size:Nat):Int),st)
   |_=>none
 |.mx great x r=>(aMxs great (evA G st x) (r.map (evA G st))).map λv=>(v,st)
 | .bsl own sz n zero parts=>match aFill zero (parts.map λp=>(p.1*sz,sz,evA G st p.2)) with
   | some cs=>if own=true then match st.get d with
     |none=>some (.osl d n,st.set d (.row sz (chunk sz n cs)))
     |some _=>none
    else if cs.all AV.pure=true then some (.vsl (chunk sz n cs),st) else none
   |none=>none
 | .sslc x lo hi=>match evA G st x with
   | .str s=>match bnd 0 (lo.map (evA G st)),bnd s.size (hi.map (evA G st)) with
     |some l,some h=>if l<=h/\h<=s.size then some (.str (s.extract l h),st) else none
     |_,_=>none
   |_=>none
 | .slc sz x lo hi=>match evA G st x with
   | .vsl rows=>match bnd 0 (lo.map (evA G st)),bnd rows.length (hi.map (evA G st)) with
     |some l,some h=>if l<=h/\h<=rows.length/\rows.all (λr=>r.length == sz)=true then some (.vsl ((rows.take h).drop l),st) else none
     |_,_=>none
   | .osl k n=>match st.get k with
     | some (.row sz' rows)=>match bnd 0 (lo.map (evA G st)),bnd n (hi.map (evA G st)) with
       |some l,some h=>if sz'=sz/\rows.length=n/\l<=h/\h<=n then some (.oss k n l h,st) else none
       |_,_=>none
     |_=>none
   |.nils=>if bnd 0 (lo.map (evA G st))=some 0/\bnd 0 (hi.map (evA G st))=some 0 then some (.nils,st) else none
   |_=>none
 | .mksl sz bytes zero n=>match evA G st n with
   | .int _ k=>if 0<=k/\k<=16777216/\bytes<=65536/\zero.length=sz then match st.get d with
     |none=>some (.osl d k.toNat,st.set d (.row sz (List.replicate k.toNat zero)))
     |some _=>none
    else none
   |_=>none
 | .app sz bytes s x=>match Z9 st sz (evA G st x) with
   | some ys=>if ys.all (λr=>r.all AV.one)=true then match evA G st s with
     | .nils=>if ys=[] then some (.nils,st) else if ys.length*bytes<=70368744177664 then match st.get d with
       |none=>some (.osl d ys.length,st.set d (.row sz ys))
       |some _=>none
      else none
     | .osl k n=>match st.get k with
       |some (.row sz' rows)=>if sz'=sz/\rows.length=n/\(n+ys.length)*bytes<=70368744177664 then if ys=[] then some (.osl k n,st) else some (.osl k (n+ys.length),st.set k (.row sz (rows++ys))) else none
       |_=>none
     | .oss k n lo hi=>match st.get k with
       | some (.row sz' rows)=>if sz'=sz/\rows.length=n/\lo=0/\(hi+ys.length)*bytes<=70368744177664 then
         if ys=[] then some (.oss k n lo hi,st)
         else if hi+ys.length<=n then some (.oss k n 0 (hi+ys.length),st.set k (.row sz (rows.take hi++ys++rows.drop (hi+ys.length))))
         else some (.osl k (hi+ys.length),st.set k (.row sz (rows.take hi++ys)))
        else none
       |_=>none
     |_=>none
     else none
   |none=>none
 | .mkmap=>match st.get d with
   |none=>some (.mp d,st.set d (.mp []))
   |some _=>none
 | .look kk zero ok m k=>match mapOf st (evA G st m) with
   | some kvs=>match kk.get (evA G st k) kvs with
     |some (some v)=>some (if ok=true then .tup [v,.bool true] else v,st)
     |some none=>some (if ok=true then .tup [zero,.bool false] else zero,st)
     |none=>none
   |none=>none
 | .mupd kk m k v=>match evA G st m with
   | .mp n=>match st.get n with
     | some (.mp kvs)=>match kk.put (evA G st k) (evA G st v) kvs with
       |some kvs'=>some (.hole,st.set n (.mp kvs'))
       |none=>none
     |_=>none
   |_=>none
 | .mdel kk m k=>match evA G st m with
   | .mp n=>match st.get n with
     | some (.mp kvs)=>match kk.del (evA G st k) kvs with
       |some kvs'=>some (.tup [],st.set n (.mp kvs'))
       |none=>none
     |_=>none
   |_=>none
 |.mlen m=>(mapOf st (evA G st m)).map λkvs=>(AV.int .i64 (kvs.length:Nat),st)
 | .clr sz zero x=>match evA G st x with
   | .oss k n lo hi=>match st.get k with
     |some (.row sz' rows)=>if sz'=sz/\rows.length=n/\lo<=hi/\hi<=n/\zero.length=sz/\zero.all AV.one=true then some (.tup [],st.set k (.row sz (rows.take lo++List.replicate (hi-lo) zero++rows.drop hi))) else none
     |_=>none
   |_=>none
 |.call .. | .callv .. | .calln ..=>none
end
def cstB:Value->AV->Bool
 |.int k n,.int k' n'=>decide (k=k'/\n=n')
 |.bool b,.bool b'=>b == b'
 |.string s,.str s'=>s.data == s'.data
 |.pointer none,.nilp=>true
 |.slice none 0 0,.nils=>true
 |.map none,.nilm=>true
 |.nilFunc,.nilf=>true
 |.func (.func f) ⟨[]⟩ ⟨[]⟩,.func (.func f') [] []=>f == f'
 |_,_=>false
def okA:Operand->RA->Bool
 |.tmp n,.t m=>n == m
 |.const v,.c x=>cstB v x
 |.global g,.g h=>g == h
 |.func f,.c (.func (.func f') [] [])=>f == f'
 |_,_=>false
def okO:Option Operand->Option RA->Bool
 |none,none=>true
 |some l,some l'=>okA l l'
 |_,_=>false
def allB2 {α β:Type} (f:α->β->Bool):List α->List β->Bool
 |[],[]=>true
 |x::xs,y::ys=>f x y&&allB2 f xs ys
 |_,_=>false
def aggB (P:Program) (t:TypeId):Option Bool:=(P.underlying t).map TypeDesc.isRow
def szB (P:Program) (t:TypeId):Option Nat:=(P.info? t).map (·.size)
def Za (P:Program) (t:TypeId):Bool:=match P.underlying t with
 |some (.int _)|some .string|some .bool=>true
 |_=>false
def fldK (fl:TypeId->Option (List CK)):Nat->List Field->Option (List CK)
 |_,[]=>some []
 | off,f::fs=>if f.name ≠ "_" /\ f.offset=off then match fl f.type with
   |some ks=>(fldK fl (off+ks.length) fs).map (ks ++ ·)
   |none=>none
   else none
def flatK (P:Program):Nat->TypeId->Option (List CK)
 |0,_=>none
 | d + 1,t=>match P.underlying t with
   |some (.int _)=>if szB P t=some 1 then some [.i] else none
   |some .string=>if szB P t=some 1 then some [.s] else none
   |some .bool=>if szB P t=some 1 then some [.b] else none
   | some (.struct fs)=>if P.stoodInHeld t=false then match fldK (flatK P d) 0 fs.toList with
     |some ks=>if szB P t=some ks.length then some ks else none
     |none=>none
     else none
   | some (.array n e)=>match flatK P d e with
     |some ks=>if szB P t=some (n*ks.length) then some (List.replicate n ks).flatten else none
     |none=>none
   |_=>none
def kkB (P:Program) (t:TypeId) (kk:KK):Bool:=match P.underlying t,kk with
 |some (.int k),.i k'=>decide (k=k')
 |some .string,.s=>true
 |some .bool,.b=>true
 |some (.struct _),.ag ks=>decide (flatK P 8 t=some ks)
 |some (.array _ _),.ag ks=>decide (flatK P 8 t=some ks)
 |_,_=>false
def cstV (v:Value):AV->Bool
 | .agg xs=>match v with
   |.agg us=>allB2 cstB us.toList xs
   |_=>false
 |x=>cstB v x
def okMk (P:Program) (t:TypeId):Option Operand->Bool
 |none=>true
 |some (.const (.int _ _))=>(match P.underlying t with|some (.map _ _)=>true|_=>false)
 |_=>false
def okV (P:Program) (o:Op) (v:VOp) (xs:List RA):Bool :=
 match o,v,xs with
 | .convert src dst x,.b2s,[y]=>(match P.underlying src,P.underlying dst with
   |some (.slice e),some .string=>(match P.underlying e with|some (.int k)=>decide (k = .u8)|_=>false)
   |_,_=>false)&&okA x y
 | .indexAddr t x i,.aaddr n sz,[y,j]=>(match P.underlying t with
   |some (.array n' e)=>decide (n'=n)&&decide (szB P e=some sz)
   |_=>false)&&okA x y&&okA i j
 | .index t x i,.aidx agg n sz,[y,j]=>(match P.underlying t with
   |some (.array n' e)=>decide (n'=n)&&decide (aggB P e=some agg)&&decide (szB P e=some sz)
   |_=>false)&&okA x y&&okA i j
 | .index t x i,.sidx,[y,j]=>(match P.underlying t with
   |some .string=>true
   |_=>false)&&okA x y&&okA i j
 |.binOp op t x i _,.beq neg,[y,j]=>(match op,neg with | .eql,false | .neq,true=>true|_,_=>false)&&(match P.underlying t with|some .bool=>true|_=>false)&&okA x y&&okA i j
 |.binOp op t x i _,.eqn neg,[y,j]=>(match op,neg with | .eql,false | .neq,true=>true|_,_=>false)&&(match P.underlying t with|some (.slice _)=>true|_=>false)&&okA x y&&okA i j
 |.binOp op _ x i _,.bits op',[y,j]=>decide (op=op')&&(match op with | .and | .or | .xor=>true|_=>false)&&okA x y&&okA i j
 |.binOp op _ x i _,.sh left,[y,j]=>(match op,left with | .shl,true | .shr,false=>true|_,_=>false)&&okA x y&&okA i j
 |_,_,_=>false
def okOp (P:Program) (o:Op) (r:ROp):Bool :=
 match o,r with
 |.move x,.mov y | .assign x,.mov y=>okA x y
 |.pick c a b,.pick c' a' b'=>okA c c'&&okA a a'&&okA b b'
 |.nilCheck x,.nilck y=>okA x y
 |.binOp op t x y _,.bin op' x' y'=>Za P t&&decide (op=op')&&okA x x'&&okA y y' && !(op matches .shl | .shr)
 |.unOp op _ x,.un op' x'=>decide (op=op')&&okA x x'
 |.convert src dst x,.conv k y=>(match P.underlying src,P.underlying dst with|some _,some (.int k')=>decide (k=k')|_,_=>false)&&okA x y
 |.extract x i,.ext j y=>okA x y&&i == j
 |.makeFunc fn a b,.mkf fn' a' b'=>decide (fn=fn')&&allB2 okA a.toList a'&&allB2 okA b.toList b'
 | .field t x i,.field agg off n y=>(match P.underlying t with
   | some (.struct fs)=>match fs[i]? with
     |some f=>f.offset == off&&decide (aggB P f.type=some agg)&&decide (szB P f.type=some n)
     |none=>false
   |_=>false)&&okA x y
 |o,.vop v xs=>okV P o v xs
 | .fieldAddr t x i,.faddr off y=>(match P.underlying t with
   | some (.struct fs)=>match fs[i]? with
     |some f=>f.offset == off&&(match szB P f.type with|some (_+1)=>true|_=>false)
     |none=>false
   |_=>false)&&okA x y
 |.load t x,.load agg n y=>decide (aggB P t=some agg)&&decide (szB P t=some n)&&okA x y
 |.store t x v,.store n y u=>decide (szB P t=some n)&&okA x y&&okA v u
 | .alloc t,.alloc cells=>(match P.info? t with
   | some i=>match i.zero with
     |some z=>allB2 cstB z.cells.toList cells
     |none=>false
   |none=>false)
 |.box _ x,.box y=>okA x y
 | .build t parts,.build zero qs=>(match P.info? t,P.underlying t with
   | some it,some (.struct fs)=>match it.zero,fs.toList.mapM (λf=>(P.info? f.type).map λi=>(f.offset,i.size)) with
     |some z,some places=>allB2 cstB z.cells.toList zero&&allB2 (λ(p:Nat×Operand) (q:Nat×Nat×RA)=>decide (places.toArray[p.1]? = some (q.1,q.2.1))&&okA p.2 q.2.2) parts.toList qs
     |_,_=>false
   | some it,some (.array _ e)=>match it.zero,P.info? e with
     |some z,some ie=>allB2 cstB z.cells.toList zero&&allB2 (λ(p:Nat×Operand) (q:Nat×Nat×RA)=>decide (p.1*ie.size=q.1/\ie.size=q.2.1)&&okA p.2 q.2.2) parts.toList qs
     |_,_=>false
   |_,_=>false)
 | .indexAddr t x i,.iaddr sz y j=>(match P.underlying t with
   |some (.slice e)=>decide (szB P e=some sz)
   |_=>false)&&okA x y&&okA i j
 | .call { callee:=.builtin .len,args:=⟨[x]⟩,argTypes:=⟨t::_⟩ },.len y=>(match P.underlying t with
   |some (.slice _)=>true
   |_=>false)&&okA x y
 | .call { callee:=.builtin .len,args:=⟨[x]⟩,argTypes:=⟨t::_⟩ },.slen y=>(match P.underlying t with
   |some .string=>true
   |_=>false)&&okA x y
 |.call { callee:=.builtin .max,args:=⟨x::xs⟩,.. },.mx true y ys=>okA x y&&allB2 okA xs ys
 |.call { callee:=.builtin .min,args:=⟨x::xs⟩,.. },.mx false y ys=>okA x y&&allB2 okA xs ys
 |.binOp op t x y _,.eqs neg ks x' y'=>(match op,neg with | .eql,false | .neq,true=>true|_,_=>false)&&decide (flatK P 8 t=some ks)&&decide (aggB P t=some true) && !P.eqGuardType P.depth t&&okA x x'&&okA y y'
 | .buildSlice t n parts,.bsl _ sz n' zero qs=>(match P.underlying t with
   | some (.slice e)=>decide (szB P e=some sz)&&(match P.info? e with
     | some ie=>match ie.zero with
       |some z=>allB2 cstB (if n*sz=0 then [] else ((List.range (n*sz)).map λi=>z.cells[i % z.cells.size]!)) zero
       |none=>false
     |none=>false)
   |_=>false)&&n == n'&&decide (n*sz<=16777216)&&decide (n<=16777216)&&allB2 (λ(p:Nat×Operand) (q:Nat×RA)=>p.1 == q.1&&okA p.2 q.2) parts.toList qs
 | .slice t x lo hi none,.slc sz y lo' hi'=>(match P.underlying t with
   |some (.slice e)=>decide (szB P e=some sz)
   |_=>false)&&okA x y&&okO lo lo'&&okO hi hi'
 | .slice t x lo hi none,.sslc y lo' hi'=>(match P.underlying t with
   |some .string=>true
   |_=>false)&&okA x y&&okO lo lo'&&okO hi hi'
 | .makeSlice t n c,.mksl sz bytes zero n'=>(match P.underlying t with
   | some (.slice e)=>(match P.info? e with
     | some ie=>decide (ie.size=sz)&&decide (ie.bytes=bytes)&&(match ie.zero with
       |some z=>allB2 cstB z.cells.toList zero
       |none=>false)
     |none=>false)
   |_=>false)&&okA n n'&&okA c n'
 | .call { callee:=.builtin .append,args:=⟨[s,x]⟩,argTypes:=⟨[t,u]⟩ },.app sz bytes s' x'=>t == u&&(match P.underlying t with
   | some (.slice e)=>(match P.info? e with
     |some ie=>decide (ie.size=sz/\0<sz)&&decide (ie.bytes=bytes/\0<bytes)&&(match ie.zero with|some z=>z.cells.size == sz|none=>false)
     |none=>false)
   |_=>false)&&okA s s'&&okA x x'
 |.makeMap t r,.mkmap=>okMk P t r
 | .lookup t m k ok',.look kk zero ok y j=>(match P.underlying t with
   | some (.map kt e)=>kkB P kt kk&&(match P.info? e with
     |some ie=>(match ie.zero with|some z=>cstV z zero|none=>false)
     |none=>false)
   |_=>false)&&ok == ok'&&okA m y&&okA k j
 | .mapUpdate t m k v,.mupd kk y j u | .insert t m k v,.mupd kk y j u=>(match P.underlying t with
   |some (.map kt _)=>kkB P kt kk
   |_=>false)&&okA m y&&okA k j&&okA v u
 | .call { callee:=.builtin .delete,args:=⟨[m,k]⟩,argTypes:=⟨t::_⟩ },.mdel kk y j=>(match P.underlying t with
   |some (.map kt _)=>kkB P kt kk
   |_=>false)&&okA m y&&okA k j
 | .call { callee:=.builtin .len,args:=⟨[x]⟩,argTypes:=⟨t::_⟩ },.mlen y=>(match P.underlying t with
   |some (.map _ _)=>true
   |_=>false)&&okA x y
 | .call { callee:=.builtin .clear,args:=⟨[x]⟩,argTypes:=⟨t::_⟩ },.clr sz zero y=>(match P.underlying t with
   | some (.slice e)=>(match P.info? e with
     | some ie=>decide (ie.size=sz)&&(match ie.zero with
       |some z=>allB2 cstB z.cells.toList zero
       |none=>false)
     |none=>false)
   |_=>false)&&okA x y
 |_,_=>false
section
variable {E:Env} {W:World} {M:Nat->Prop}
def Zb {v:Value} {x:AV} (h:cstB v x=true):PV M W x v:=by
 unfold cstB at h
 split at h <;> simp only[W05,W0b,W0A]at h
 . obtain ⟨rfl,rfl⟩:=h;exact .int _ _
 . subst h;exact .bool _
 . rename_i s s';have:s=s':=(by cases s;cases s';simp_all);subst this;exact .str _
 . exact .nilp
 . exact .nils
 . exact .nilm
 . exact .nilf
 . subst h;exact .func _ [] [] #[] #[] rfl rfl (by simp) (by simp)
def Zc {α β:Type} {f:α->β->Bool} {xs:List α} {ys:List β} (h:allB2 f xs ys=true):xs.length=ys.length/\∀ (i:Nat) (x:α) (y:β),xs[i]? = some x->ys[i]? = some y->f x y=true:=by
 induction xs generalizing ys with
 | nil=>cases ys with
   |nil=>exact ⟨rfl,by simp⟩
   |cons y ys=>simp[allB2]at h
 | cons x xs ih=>cases ys with
   |nil=>simp[allB2]at h
   | cons y ys =>
     simp only[allB2,W01]at h;obtain ⟨h1,h2⟩:=ih h.2;refine ⟨by simp[h1],λi u v hu hv=>?_⟩
     cases i with
     |zero=>simp at hu hv;subst hu;subst hv;exact h.1
     |succ i=>simp at hu hv;exact h2 i u v hu hv
def CR (E:Env) (W:World) (xs:List AV) (us:List Value):Prop:=us.length=xs.length/\∀ (i:Nat) (x:AV) (u:Value),xs[i]? = some x->us[i]? = some u->VR E W x u
def VR.agg_inv {xs:List AV} {v:Value} (h:VR E W (.agg xs) v):∃ us:Array Value,v = .agg us/\CR E W xs us.toList:=by
 cases h with
 | pv h =>
   cases h with
   |agg _ us h1 hx=>exact ⟨us,rfl,by simpa using h1,λi x u hi hu=>.pv (hx i x u hi (by simpa using hu))⟩
 |agg _ us h1 hx=>exact ⟨us,rfl,by simpa using h1,λi x u hi hu=>hx i x u hi (by simpa using hu)⟩
def VR.tup_inv {xs:List AV} {v:Value} (h:VR E W (.tup xs) v):∃ us:Array Value,v = .tuple us/\CR E W xs us.toList:=by
 cases h with
 | pv h =>
   cases h with
   |tup _ us h1 hx=>exact ⟨us,rfl,by simpa using h1,λi x u hi hu=>.pv (hx i x u hi (by simpa using hu))⟩
 |tup _ us h1 hx=>exact ⟨us,rfl,by simpa using h1,λi x u hi hu=>hx i x u hi (by simpa using hu)⟩
def VR.func_inv {fn:Fn} {xs ys:List AV} {v:Value} (h:VR E W (.func fn xs ys) v):∃ us vs:Array Value,v = .func fn us vs/\CR E W xs us.toList/\CR E W ys vs.toList:=by
 cases h with
 | pv h =>
   cases h with
   |func _ _ _ us vs h1 h2 hx hy=>exact ⟨us,vs,rfl,⟨by simpa using h1,λi x u hi hu=>.pv (hx i x u hi (by simpa using hu))⟩,⟨by simpa using h2,λi x u hi hu=>.pv (hy i x u hi (by simpa using hu))⟩⟩
 |func _ _ _ us vs h1 h2 hx hy=>exact ⟨us,vs,rfl,⟨by simpa using h1,λi x u hi hu=>hx i x u hi (by simpa using hu)⟩,⟨by simpa using h2,λi x u hi hu=>hy i x u hi (by simpa using hu)⟩⟩
def VR.int_inv {k:IntKind} {n:Int} {v:Value} (h:VR E W (.int k n) v):v = .int k n:=by cases h with|pv h=>cases h;rfl
def VR.bool_inv {b:Bool} {v:Value} (h:VR E W (.bool b) v):v = .bool b:=by cases h with|pv h=>cases h;rfl
def VR.str_inv {s:ByteArray} {v:Value} (h:VR E W (.str s) v):v = .string s:=by cases h with|pv h=>cases h;rfl
def VR.hole_inv {v:Value} (h:VR E W .hole v):v=Go.undef:=by cases h with|pv h=>cases h;rfl
def VR.ptr_inv {k off:Nat} {v:Value} (h:VR E W (.ptr k off) v):∃ b s,E.loc k=some (b,s)/\E.row k=none/\v = .pointer (some ⟨b,s+off,none⟩):=by
 cases h with
 |pv h=>cases h
 |ptr k off b s h hr=>exact ⟨b,s,h,hr,rfl⟩
def VR.vptr_inv {cs:List AV} {off:Nat} {v:Value} (h:VR E W (.vptr cs off) v):PV E.M W (.vptr cs off) v:=by cases h with|pv h=>exact h
def VR.eptr_inv {k n i off:Nat} {v:Value} (h:VR E W (.eptr k n i off) v):∃ sz m p,E.row k=some (sz,m)/\n<=m/\v = .pointer p/\(m=n->∃ b s,E.loc k=some (b,s)/\p=some ⟨b,s+i*sz+off,none⟩):=by
 cases h with
 |pv h=>cases h
 |eptr k n i off sz m p h hn he=>exact ⟨sz,m,p,h,hn,rfl,he⟩
def VR.mp_inv {k:Nat} {v:Value} (h:VR E W (.mp k) v):∃ b,E.loc k=some (b,0)/\E.row k=none/\v = .map (some b):=by
 cases h with
 |pv h=>cases h
 |mp k b h hr=>exact ⟨b,h,hr,rfl⟩
def VR.agg_of {xs:List AV} {us:List Value} (h:CR E W xs us):VR E W (.agg xs) (.agg us.toArray):=.agg xs _ (by simpa using h.1) λi x u hi hu=>h.2 i x u hi (by simpa using hu)
def VR.cells {x:AV} {v:Value} (h:VR E W x v) (hk:x.known=true):CR E W x.cellsL v.cells.toList:=by
 have one:∀ {v:Value},VR E W x v->x.cellsL=[x]->v.cells = #[v]->CR E W x.cellsL v.cells.toList:=λ{v} h h1 h2=>by
  rw[h1,h2];exact ⟨rfl,λi y u hi hu=>by cases i <;> simp_all⟩
 cases x <;> try (simp[AV.known]at hk;done)
 case agg xs=>obtain ⟨us,rfl,h1⟩:=h.agg_inv;exact h1
 case tup xs=>obtain ⟨us,rfl,h1⟩:=h.tup_inv;exact one h rfl rfl
 case func fn xs ys=>obtain ⟨us,vs,rfl,h1⟩:=h.func_inv;exact one h rfl rfl
 all_goals
  refine one h rfl ?_
  cases h with
  |pv h=>cases h <;> rfl
  |_=>rfl
def VR.oneCell {x:AV} {v:Value} (h:VR E W x v) (hk:x.one=true):v.oneCell'=true:=by
 cases x <;> try (simp[AV.one]at hk;done)
 case func fn xs ys=>obtain ⟨us,vs,rfl,h1⟩:=h.func_inv;rfl
 all_goals
  cases h with
  |pv h=>cases h <;> rfl
  |_=>rfl
end
section
variable {P:Program} {R:Run} {st:St} {a:Act} {W:World} {κ:Nat->Option (Nat×Nat)}
def SK.ev (h:SK R st a W κ) {x:Operand} {y:RA} (hk:okA x y=true):VR (st.env R.M κ) W (evA R.G st y) (a.eval x):=by
 unfold okA at hk
 split at hk
 . rename_i n m;simp only[W0A]at hk;subst hk
   cases hl:st.tmp n with
   |none=>simp only[evA,hl,W1T];exact .undef _
   |some x=>simp only[evA,hl,W0P];exact h.tm n x hl
 . exact .pv (Zb hk)
 . rename_i g k;simp only[W0A]at hk;subst hk
   cases hg:R.G g with
   |none=>simp only[evA,hg];exact .undef _
   |some cs=>simp only[evA,hg];exact .pv (h.gr g cs hg)
 . rename_i f f';simp only[W0A]at hk;subst hk;exact .pv (.func _ [] [] #[] #[] rfl rfl (by simp) (by simp))
 . simp at hk
def SK.evs (h:SK R st a W κ) {xs:List Operand} {ys:List RA} (hk:allB2 okA xs ys=true):CR (st.env R.M κ) W (ys.map (evA R.G st)) (xs.map a.eval):=by
 obtain ⟨h1,h2⟩:=Zc hk;refine ⟨by simp[h1],λi x u hx hu=>?_⟩;simp only[W09,W04]at hx hu;obtain ⟨y,hy,rfl⟩:=hx;obtain ⟨z,hz,rfl⟩:=hu;exact h.ev (h2 i z y hz hy)
def Sim (P:Program) (R:Run) (a:Act) (W:World) (o:Oper) (x:AV) (st':St):Prop :=
 ∃ v W' κ',((execOp a.eval o).run P W = .ok (.value v) W'∨(execOp a.eval o).run P W = .ok .skip W'/\v=Go.undef)/\SK R st' a W' κ'/\VR (st'.env R.M κ') W' x v
def Sim.val (h:SK R st a W κ) {o:Oper} {x:AV} {v:Value} (hr:(execOp a.eval o).run P W = .ok (.value v) W) (hv:VR (st.env R.M κ) W x v):Sim P R a W o x st :=
 ⟨v,W,κ,.inl hr,h,hv⟩
def Zd (h:SK R st a W κ) {o:Oper} {x:Operand} {y:RA} (ho:o.op = .move x∨o.op = .assign x) (hk:okA x y=true):Sim P R a W o (evA R.G st y) st :=
 .val h (by rcases ho with ho|ho <;> simp[execOp,ho]) (h.ev hk)
def Ze (h:SK R st a W κ) {o:Oper} {c x y:Operand} {c' x' y':RA} (ho:o.op = .pick c x y) (hc:okA c c'=true) (hx:okA x x'=true) (hy:okA y y'=true)
  {z:AV} {st':St} {d:Nat} (hr:rop R.G st d (.pick c' x' y')=some (z,st')):Sim P R a W o z st':=by
 have h1:=h.ev hc;simp only[rop]at hr
 split at hr <;> simp only[W00,W06,reduceCtorEq]at hr
 . rename_i e;obtain ⟨rfl,rfl⟩:=hr;rw[e]at h1;exact .val h (by simp[execOp,ho,h1.bool_inv,asBool,Sem.run_bind]) (h.ev hx)
 . rename_i e;obtain ⟨rfl,rfl⟩:=hr;rw[e]at h1;exact .val h (by simp[execOp,ho,h1.bool_inv,asBool,Sem.run_bind]) (h.ev hy)
def Zf (h:SK R st a W κ) {o:Oper} {x:Operand} {y:RA} (ho:o.op = .nilCheck x) (hk:okA x y=true)
  {z:AV} {st':St} {d:Nat} (hr:rop R.G st d (.nilck y)=some (z,st')):Sim P R a W o z st':=by
 have h1:=h.ev hk;simp only[rop]at hr
 split at hr <;> simp only[W00,W06,reduceCtorEq]at hr
 . rename_i e;obtain ⟨rfl,rfl⟩:=hr;rw[e]at h1;obtain ⟨b,s,-,-,hv⟩:=h1.ptr_inv;exact .val h (by simp[execOp,ho,hv]) h1
 . rename_i e;obtain ⟨rfl,rfl⟩:=hr;rw[e]at h1;have h2:=h1.vptr_inv;generalize hv:a.eval x=v at *
   cases h2
   exact .val h (by simp[execOp,ho,hv]) h1
 . rename_i e;obtain ⟨rfl,rfl⟩:=hr;rw[e]at h1;obtain ⟨us,vs,hv,-⟩:=h1.func_inv;exact .val h (by simp[execOp,ho,hv]) h1
def Zg (h:SK R st a W κ) {o:Oper} {op:UnOp} {t:TypeId} {x:Operand} {y:RA} (ho:o.op = .unOp op t x) (hk:okA x y=true)
  {z:AV} {st':St} {d:Nat} (hr:rop R.G st d (.un op y)=some (z,st')):Sim P R a W o z st':=by
 have h1:=h.ev hk;simp only[rop,W04,W06]at hr;obtain ⟨u,hu,rfl,rfl⟩:=hr;unfold aUn at hu
 split at hu <;> simp only[W00,reduceCtorEq]at hu
 . subst hu;rename_i e;rw[e]at h1;exact .val h (by simp[execOp,ho,h1.int_inv,Op.unary,Op.intArith,Sem.run_bind]) (.pv (.int _ _))
 . subst hu;rename_i e;rw[e]at h1;exact .val h (by simp[execOp,ho,h1.bool_inv,Op.unary,Sem.run_bind]) (.pv (.bool _))
def Zh (h:SK R st a W κ) {o:Oper} {src dst:TypeId} {k:IntKind} {x:Operand} {y:RA} (ho:o.op = .convert src dst x) (hd:P.underlying dst=some (.int k))
  (hs:∃ s,P.underlying src=some s) (hk:okA x y=true)
  {z:AV} {st':St} {d:Nat} (hr:rop R.G st d (.conv k y)=some (z,st')):Sim P R a W o z st':=by
 have h1:=h.ev hk;simp only[rop]at hr
 split at hr <;> simp only[W00,W06,reduceCtorEq]at hr
 rename_i e;obtain ⟨rfl,rfl⟩:=hr;rw[e]at h1;obtain ⟨s,hs⟩:=hs;refine .val h ?_ (.pv (.int _ _));simp only[execOp,ho,h1.int_inv,convert,Sem.run_bind,run_underlying hs,run_underlying hd,Result.andThen_ok]
 cases s <;> simp[Conv.intToInt,Sem.run_bind] <;> rfl
def Zi (h:SK R st a W κ) {o:Oper} {i:Nat} {x:Operand} {y:RA} (ho:o.op = .extract x i) (hk:okA x y=true)
  {z:AV} {st':St} {d:Nat} (hr:rop R.G st d (.ext i y)=some (z,st')):Sim P R a W o z st':=by
 have h1:=h.ev hk;simp only[rop]at hr
 split at hr <;> simp only[W04,W06,reduceCtorEq]at hr
 rename_i vs e;obtain ⟨u,hu,rfl,rfl⟩:=hr;rw[e]at h1;obtain ⟨us,hv,h2,h3⟩:=h1.tup_inv
 have hlt:i<us.size:=by
  have:=(W02.1 hu).1;simp at h2;omega
 have hg:us[i]? = some us[i]:=(by simp[hlt]);refine .val (v:=us[i]) h ?_ (h3 i u _ hu (by simp[hlt]));simp[execOp,ho,hv,Instr.extract,hg,Sem.run_bind]
def Zj (h:SK R st a W κ) {o:Oper} {fn:Fn} {xs ys:Array Operand} {xs' ys':List RA} (ho:o.op = .makeFunc fn xs ys) (hx:allB2 okA xs.toList xs'=true) (hy:allB2 okA ys.toList ys'=true) :
  Sim P R a W o (.func fn (xs'.map (evA R.G st)) (ys'.map (evA R.G st))) st:=by
 have h1:=h.evs hx;have h2:=h.evs hy;refine .val (v:=.func fn (xs.map a.eval) (ys.map a.eval)) h (by simp[execOp,ho,Instr.makeFunc,Sem.run_bind]) (.func _ _ _ _ _ (by simpa using h1.1) (by simpa using h2.1) ?_ ?_)
 . intro i x u hi hu;exact h1.2 i x u hi (by simpa using hu)
 . intro i x u hi hu;exact h2.2 i x u hi (by simpa using hu)
def Zk {op:BinOp} {x y z:AV} {t:TypeId} {u v:Value} {E:Env} {x' y':Operand} (hs:Za P t=true) (hx:VR E W x u) (hy:VR E W y v) (hb:aBin op x y=some z) :
  ∃ r,(do eqGuard op t x' y' u v;binOp op t u v:Sem Value).run P W = .ok r W/\VR E W z r:=by
 unfold aBin at hb
 split at hb
 all_goals try (simp at hb;done)
 all_goals try (
  split at hb
  case isFalse=>simp at hb
  case isTrue e =>
   subst e;rw[hx.int_inv,hy.int_inv]
   first
    | (simp only[W00]at hb
       subst hb;refine ⟨_,?_,.pv (by first|exact .int _ _|exact .bool _)⟩;simp[eqGuard,binOp,Op.intArith,Op.intCmp,Sem.run_bind];done)
    | (simp only[W00]at hb
       subst hb;refine ⟨_,?_,.pv (.bool _)⟩;simp[eqGuard,binOp,Op.intArith,Op.intCmp,Sem.run_bind];rfl)
    | (split at hb
       . simp at hb
       . rename_i hz;simp only[W00]at hb;subst hb;refine ⟨_,?_,.pv (.int _ _)⟩;simp[eqGuard,binOp,Op.intDiv,Sem.run_bind,hz]))
 . rw[hx.str_inv,hy.str_inv];simp only[W00]at hb;subst hb;exact ⟨_,by simp[eqGuard,binOp,Op.stringOp,Sem.run_bind],.pv (.bool _)⟩
 . rw[hx.str_inv,hy.str_inv];simp only[W00]at hb;subst hb;exact ⟨_,by simp[eqGuard,binOp,Op.stringOp,Sem.run_bind],.pv (.bool _)⟩
 . rename_i a b;rw[hx.str_inv,hy.str_inv]
   split at hb
   . rename_i hz;simp only[W00]at hb;subst hb;have hz2:¬((IntKind.i64.max:Int)<((a.size+b.size:Nat):Int)):=(by have:IntKind.i64.max=9223372036854775807:=rfl;omega);refine ⟨_,?_,.pv (.str _)⟩;simp only[eqGuard,binOp,Op.stringOp,Sem.run_bind];rw[if_neg hz2];rfl
   . simp at hb
end
section
variable {P:Program} {R:Run} {st:St} {a:Act} {W W':World} {κ:Nat->Option (Nat×Nat)}
def SK.owned_lt (h:SK R st a W κ) {b:Nat} (hb:(st.env R.M κ).M b):b<W.heap.size:=by
 rcases hb with hb | ⟨k,s,hk⟩
 . exact W12 (h.low b hb) h.kp.size
 . obtain ⟨o,ho⟩:=h.dom k _ hk;obtain ⟨b',s',h1,h2,-⟩:=h.obj k o ho;rw[hk]at h1;simp only[W00,W06]at h1;rw[h1.1];exact h2
def Mono.grow {E:Env} (he:Ext W W') (ho:∀ k b s,E.loc k=some (b,s)->b<W.heap.size):Mono E W E W' where
 size:=he.size
 imm b hb hM:=⟨hM,he.block b hb⟩
 box k p h hr:=⟨h,hr⟩
 row k sz m h:=⟨m,h,W0f _,λ_ b s cs t hl=>⟨hl,λhw=>⟨cs,(he.block b (ho k b s hl)).trans hw,rfl⟩⟩⟩
def SK.loc_lt (h:SK R st a W κ) {k b s:Nat} (hk:κ k=some (b,s)):b<W.heap.size:=h.owned_lt (.inr ⟨k,s,hk⟩)
def Marks.ext {nm:Bool} {D ds:List Deferred} {n0:Nat} (h:Marks nm D n0 ds W) (he:Ext W W'):Marks nm D n0 ds W':=h.of λc hc=>(he.block c (W0c.1 hc).1).trans hc
def SK.grow (h:SK R st a W κ) (he:Ext W W'):SK R st a W' κ:=by
 have m:Mono (st.env R.M κ) W (st.env R.M κ) W':=.grow he (λk b s hk=>h.loc_lt hk);refine ⟨h.defers.ext he,h.size,λn x hx=>(h.tm n x hx).mono m,λk o ho=>?_,h.dom,h.inj,h.low,h.apart,h.kp.trans he.kp,h.gr.mono m.imm m.size,h.mono.trans m,h.ent⟩;obtain ⟨b,s,h1,h2,h3,h4⟩:=h.obj k o ho;exact ⟨b,s,h1,W12 h2 he.size,h3,h4.mono m (he.block b h2)⟩
def Odd:Obj->Prop
 |.cells .. | .map ..=>False
 |_=>True
def Dfr (W W':World):Prop:=W.heap.size=W'.heap.size/\∀ b:Nat,W'.heap[b]? = W.heap[b]? ∨ ∃ o,W.heap[b]? = some o/\Odd o
def Dfr.same (h:Dfr W W') {b:Nat} {o:Obj} (hb:W.heap[b]? = some o) (ho:¬Odd o):W'.heap[b]? = some o:=by
 rcases h.2 b with e | ⟨o',e,e2⟩
 . rw[e,hb]
 . rw[hb]at e;cases e;exact absurd e2 ho
def Dfr.cell (h:Dfr W W') {b o:Nat} {v:Value} (hc:W.cell? ⟨b,o,none⟩=some v):W'.cell? ⟨b,o,none⟩=some v:=by
 rcases h.2 b with e | ⟨o',e,e2⟩
 . rw[Z2 e];exact hc
 . cases o' <;> first|exact e2.elim|simp[World.cell?,e]at hc
def PV.dfr {M:Nat->Prop} {x:AV} {v:Value} (hd:Dfr W W') (h:PV M W x v):PV M W' x v:=by
 induction h with
 |hole=>exact .hole
 |int k n=>exact .int k n
 |bool b=>exact .bool b
 |abool b=>exact .abool b
 |str s=>exact .str s
 |nilp=>exact .nilp
 |nils=>exact .nils
 |nilm=>exact .nilm
 |nilf=>exact .nilf
 |nes a c h=>exact .nes a c h
 |tok S a l c h=>exact .tok S a l c h
 |vptr cells off b o f hb hM hc hr ih=>exact .vptr cells off b o f (hd.1 ▸ hb) hM (λj hj=>hd.cell (hc j hj)) ih
 |vsl rows a cap sz b o f hcap hmax ha hn hs hc hr ih=>exact .vsl rows a cap sz b o f hcap hmax (λh=>⟨(ha h).1,hd.1 ▸ (ha h).2.1,(ha h).2.2⟩) hn hs (λi j hi hj=>hd.cell (hc i j hi hj)) ih
 |func fn xs ys us vs h1 h2 hx hy ihx ihy=>exact .func fn xs ys us vs h1 h2 ihx ihy
 |agg xs us h1 hx ih=>exact .agg xs us h1 ih
 |tup xs us h1 hx ih=>exact .tup xs us h1 ih
 |vmap kvs b es clock hb hM ho hs hn hk' hv ihk ihv=>exact .vmap kvs b es clock (hd.1 ▸ hb) hM (hd.same ho (λe=>e)) hs hn ihk ihv
def VR.dfr {E:Env} {x:AV} {v:Value} (hd:Dfr W W') (h:VR E W x v):VR E W' x v:=by
 induction h with
 |pv h=>exact .pv (h.dfr hd)
 |undef v=>exact .undef v
 |ptr k off b s h hr=>exact .ptr k off b s h hr
 |eptr k n i off sz l p h hn he=>exact .eptr k n i off sz l p h hn he
 | osl k n sz l a ll c h hn he =>
   refine .osl k n sz l a ll c h hn λe=>?_
   obtain ⟨b,s,cs,t,h4,h5,h6,h7,h8,h9,h10⟩:=he e;exact ⟨b,s,cs,t,h4,h5,h6,h7,h8,hd.same h9 (λe=>e),h10⟩
 | oss k n lo hi sz l a ll c h hn he =>
   refine .oss k n lo hi sz l a ll c h hn λe=>?_
   obtain ⟨b,s,cs,t,ad,h4,h5,h6,h7,h8,h9,h10,h11,h12,h13⟩:=he e;exact ⟨b,s,cs,t,ad,h4,h5,h6,h7,h8,h9,h10,h11,hd.same h12 (λe=>e),h13⟩
 |func fn xs ys us vs h1 h2 hx hy ihx ihy=>exact .func fn xs ys us vs h1 h2 ihx ihy
 |agg xs us h1 hx ih=>exact .agg xs us h1 ih
 |tup xs us h1 hx ih=>exact .tup xs us h1 ih
 |mp k b h hr=>exact .mp k b h hr
 |oof L k n a l c hm h ih=>exact .oof L k n a l c hm ih
def PV.odd {M:Nat->Prop} {x:AV} {v:Value} (h:PV M W x v) (hd:Dfr W W'):PV M W' x v:=h.dfr hd
def SK.odd (h:SK R st a W κ) (hd:Dfr W W') (hos:W'.os=W.os) (hta:W'.tape=W.tape) (hou:W'.output=W.output) (hlow:∀ b:Nat,b<R.W0.heap.size->W'.heap[b]? = W.heap[b]?) {a':Act} (ha:a'.tmps=a.tmps) (hm:Marks R.nm R.D R.W0.heap.size a'.defers W'):SK R st a' W' κ:=by
 have hsz:=hd.1;refine ⟨hm,by rw[ha];exact h.size,λn x hx=>by rw[ha];exact (h.tm n x hx).dfr hd,λk o hk=>?_,h.dom,h.inj,h.low,h.apart,?_,λg cs hg=>(h.gr g cs hg).dfr hd,?_,h.ent⟩
 . obtain ⟨b,s,h1,h2,h3,h4⟩:=h.obj k o hk;refine ⟨b,s,h1,by omega,h3,?_⟩
   cases o with
   | box cells =>
     obtain ⟨h0,cs,t,h5,h6,h7⟩:=h4;exact ⟨h0,cs,t,hd.same h5 (λe=>e),h6,λj x hj=>(h7 j x hj).imp λv hv=>⟨hv.1,hv.2.dfr hd⟩⟩
   | row sz rows =>
     obtain ⟨h0,cs,t,h5,h6,h7⟩:=h4;exact ⟨h0,cs,t,hd.same h5 (λe=>e),h6,λi j r x hi hj=>(h7 i j r x hi hj).imp λv hv=>⟨hv.1,hv.2.dfr hd⟩⟩
   | mp kvs =>
     obtain ⟨h0,es,t,h5,h6,h7,h8⟩:=h4;exact ⟨h0,es,t,hd.same h5 (λe=>e),h6,h7,λi x y hi=>(h8 i x y hi).imp λe he=>⟨he.1,he.2.1.dfr hd,he.2.2.dfr hd⟩⟩
 . exact ⟨hos.trans h.kp.os,hta.trans h.kp.tape,hou.trans h.kp.output,by have:=h.kp.size;omega,λi hi hx=>(hlow i hi).trans (h.kp.block i hi hx)⟩
 . refine ⟨by have:=h.mono.size;omega,λb hb hM=>⟨(h.mono.imm b hb hM).1,(hlow b hb).trans (h.mono.imm b hb hM).2⟩,h.mono.box,λk sz m hk=>?_⟩;obtain ⟨m',g1,g2,g3⟩:=h.mono.row k sz m hk;refine ⟨m',g1,g2,λe b s cs t hl=>⟨(g3 e b s cs t hl).1,λhw=>?_⟩⟩;obtain ⟨cs',g4,g5⟩:=(g3 e b s cs t hl).2 hw;exact ⟨cs',hd.same g4 (λe=>e),g5⟩
def Dfr.put {l:Nat} {o o':Obj} (hl:W.heap[l]? = some o) (ho:Odd o):Dfr W (W.putObj l o'):=⟨by simp,λb=>by
 by_cases e:b=l
 . subst e;exact .inr ⟨_,hl,ho⟩
 . exact .inl (World.putObj_heap_other e)⟩
def SK.take (h:SK R st a W κ) {c:Nat} {cs:List Nat} (hc:W.heap[c]? = some (.deferred (some []))) (hc0:R.W0.heap.size<=c) (hcs:∀ x∈cs,x≠c/\R.W0.heap.size<=x/\W.heap[x]? = some (.deferred (some []))) (hnd:cs.Nodup) (hnm:R.nm=true->cs=[]) :
  SK R st { a with defers:=cs.map coll++R.D } (W.putObj c (.deferred none)) κ :=
 h.odd (.put hc trivial) rfl rfl rfl (λb hb=>World.putObj_heap_other (by omega)) rfl ⟨cs,rfl,hnd,λx hx=>⟨(hcs x hx).2.1,(World.putObj_heap_other (hcs x hx).1).trans (hcs x hx).2.2⟩,hnm⟩
def SK.put (h:SK R st a W κ) {d:Nat} (hd:d<R.N) {x:AV} {v:Value} (hv:VR (st.env R.M κ) W x v):SK R (st.put d x) (a.put (some d) v) W κ:=by
 refine ⟨h.defers,by simpa [Act.put] using h.size,λn y hy=>?_,h.obj,h.dom,h.inj,h.low,h.apart,h.kp,h.gr,h.mono,h.ent⟩;show VR (st.env R.M κ) W y ((a.tmps.setIfInBounds d v).getD n Go.undef);rw[St.tmp_put]at hy;have hd':d<a.tmps.size:=(by rw[h.size];exact hd);by_cases e:d=n
 . subst e;simp at hy;subst hy;simpa [Array.getD,hd'] using hv
 . simp only[e,if_false]at hy;have h2:=h.tm n y hy
   have h3:(a.tmps.setIfInBounds d v).getD n Go.undef=a.tmps.getD n Go.undef:=by
    simp only[W0a,W0p,if_neg e]
   rw[h3];exact h2
def SK.sub (h:SK R st a W κ) {t':List (Nat×AV)} (ht:∀ n x,lk t' n=some x->lk st.t n=some x):SK R { st with t:=t' } a W κ :=
 ⟨h.defers,h.size,λn x hx=>h.tm n x (ht n x hx),h.obj,h.dom,h.inj,h.low,h.apart,h.kp,h.gr,h.mono,h.ent⟩
def RowOk (E:Env) (W:World) (cs:Array Value) (s:Nat):AObj->Prop
 |.box cells=>cs.size=cells.length/\s=0/\∀ (j:Nat) (x:AV),cells[j]? = some x->∃ v,cs[j]? = some v/\VR E W x v
 | .row sz rows=>(∀ r∈rows,r.length=sz)/\s+rows.length*sz<=cs.size /\
   ∀ (i j:Nat) (r:List AV) (x:AV),rows[i]? = some r->r[j]? = some x->∃ v,cs[s+i*sz+j]? = some v/\VR E W x v
 |.mp _=>False
def ObOk (E:Env) (W:World) (ob:Obj) (s:Nat):AObj->Prop
 |.mp kvs=>s=0/\∃ es clock,ob = .map es clock/\MapKept.Stamped es clock/\es.size=kvs.length/\∀ (i:Nat) (x y:AV),kvs[i]? = some (x,y)->∃ e,es[i]? = some e/\VR E W x e.key/\VR E W y e.val
 |o=>∃ cs t,ob = .cells cs t (0,0)/\RowOk E W cs s o
def ObOk.obj {E E':Env} {b s:Nat} {ob:Obj} {o:AObj} (ho:ObOk E W ob s o) (m:Mono E W E' W') (hw:W'.heap[b]? = some ob):ObjR E' W' b s o:=by
 cases o with
 | box cells =>
   obtain ⟨cs,t,rfl,ho⟩:=ho;exact ⟨ho.2.1,cs,t,hw,ho.1,λj x hj=>(ho.2.2 j x hj).imp λv hv=>⟨hv.1,hv.2.mono m⟩⟩
 | row sz rows =>
   obtain ⟨cs,t,rfl,ho⟩:=ho;exact ⟨ho.1,cs,t,hw,ho.2.1,λi j r x hi hj=>(ho.2.2 i j r x hi hj).imp λv hv=>⟨hv.1,hv.2.mono m⟩⟩
 | mp kvs =>
   obtain ⟨h0,es,t,rfl,h2,h3,h4⟩:=ho;exact ⟨h0,es,t,hw,h2,h3,λi x y hi=>(h4 i x y hi).imp λe he=>⟨he.1,he.2.1.mono m,he.2.2.mono m⟩⟩
def SK.newO (h:SK R st a W κ) {d:Nat} (hd:st.get d=none) {obj:AObj} {ob:Obj}
  (ho:ObOk (st.env R.M κ) W ob 0 obj) :
  SK R (st.set d obj) a (W.alloc ob) (λk=>if k=d then some (W.heap.size,0) else κ k):=by
 have hnd:κ d=none:=by
  cases e:κ d with
  |none=>rfl
  |some p=>obtain ⟨o,ho⟩:=h.dom d p e;rw[hd]at ho;cases ho
 have he:Ext W (W.alloc ob):=Ext.al (Ext.refl W)
 have m:Mono (st.env R.M κ) W ((st.set d obj).env R.M (λk=>if k=d then some (W.heap.size,0) else κ k)) (W.alloc ob):=by
  refine ⟨he.size,λb hb hM=>⟨?_,he.block b hb⟩,λk p hk hr=>?_,λk sz m hk=>⟨m,?_,W0f _,λ_ b s cs' t' hl=>?_⟩⟩
  . rintro (h1 | ⟨k,s,h1⟩)
    . exact hM (.inl h1)
    . by_cases e:k=d
      . simp only[e,if_true,W00,W06]at h1;omega
      . simp only[e,if_false]at h1;exact hM (.inr ⟨k,s,h1⟩)
  . have e:¬k=d:=(by rintro rfl;rw[show (st.env R.M κ).loc k=κ k from rfl,hnd]at hk;cases hk);refine ⟨by simp only[St.env,e,if_false];exact hk,?_⟩;simp only[St.env,St.get_set];rw[if_neg (λe2=>e e2.symm)];exact hr
  . have e:¬k=d:=(by rintro rfl;simp[St.env,hd]at hk);simp only[St.env,St.get_set];rw[if_neg (λe2=>e e2.symm)];exact hk
  . have e:¬k=d:=(by rintro rfl;rw[show (st.env R.M κ).loc k=κ k from rfl,hnd]at hl;cases hl);exact ⟨by simp only[St.env,e,if_false];exact hl,λhw=>⟨cs',(he.block b (h.loc_lt hl)).trans hw,rfl⟩⟩
 refine ⟨h.defers.ext he,h.size,λn x hx=>(h.tm n x hx).mono m,λk o hk=>?_,λk p hk=>?_,λk k' b s s' hk hk'=>?_,h.low,h.apart,h.kp.trans he.kp,h.gr.mono m.imm m.size,h.mono.trans m,h.ent⟩
 . rw[St.get_set]at hk;by_cases e:k=d
   . subst e;simp only[if_true,W00]at hk;subst hk;refine ⟨W.heap.size,0,by simp,by simp,.inl h.kp.size,?_⟩;exact ho.obj m (World.alloc_heap_new _ _)
   . rw[if_neg (λe2=>e e2.symm)]at hk;obtain ⟨b,s,h1,h2,h3,h4⟩:=h.obj k o hk;exact ⟨b,s,by simp only[e,if_false];exact h1,W12 h2 he.size,h3,h4.mono m (he.block b h2)⟩
 . rw[St.get_set];by_cases e:k=d
   . exact ⟨obj,by rw[if_pos e.symm]⟩
   . simp only[e,if_false]at hk;rw[if_neg (λe2=>e e2.symm)];exact h.dom k p hk
 . by_cases e:k=d <;> by_cases e':k'=d
   . rw[e,e']
   . simp only[e,e',if_true,if_false,W00,W06]at hk hk';have:=h.loc_lt hk';omega
   . simp only[e,e',if_true,if_false,W00,W06]at hk hk';have:=h.loc_lt hk;omega
   . simp only[e,e',if_false]at hk hk';exact h.inj k k' b s s' hk hk'
def SK.newX (h:SK R st a W κ) {W':World} (he:Ext W W') {b0 s0:Nat} (hb0:W.heap.size<=b0) (hb1:b0<W'.heap.size) {d:Nat} (hd:st.get d=none) {obj:AObj}
  (ho:∀ E:Env,ObjR E W' b0 s0 obj) :
  SK R (st.set d obj) a W' (λk=>if k=d then some (b0,s0) else κ k):=by
 have hnd:κ d=none:=by
  cases e:κ d with
  |none=>rfl
  |some p=>obtain ⟨o,ho⟩:=h.dom d p e;rw[hd]at ho;cases ho
 have m:Mono (st.env R.M κ) W ((st.set d obj).env R.M (λk=>if k=d then some (b0,s0) else κ k)) W':=by
  refine ⟨he.size,λb hb hM=>⟨?_,he.block b hb⟩,λk p hk hr=>?_,λk sz m hk=>⟨m,?_,W0f _,λ_ b s cs' t' hl=>?_⟩⟩
  . rintro (h1 | ⟨k,s,h1⟩)
    . exact hM (.inl h1)
    . by_cases e:k=d
      . simp only[e,if_true,W00,W06]at h1;omega
      . simp only[e,if_false]at h1;exact hM (.inr ⟨k,s,h1⟩)
  . have e:¬k=d:=(by rintro rfl;rw[show (st.env R.M κ).loc k=κ k from rfl,hnd]at hk;cases hk);refine ⟨by simp only[St.env,e,if_false];exact hk,?_⟩;simp only[St.env,St.get_set];rw[if_neg (λe2=>e e2.symm)];exact hr
  . have e:¬k=d:=(by rintro rfl;simp[St.env,hd]at hk);simp only[St.env,St.get_set];rw[if_neg (λe2=>e e2.symm)];exact hk
  . have e:¬k=d:=(by rintro rfl;rw[show (st.env R.M κ).loc k=κ k from rfl,hnd]at hl;cases hl);exact ⟨by simp only[St.env,e,if_false];exact hl,λhw=>⟨cs',(he.block b (h.loc_lt hl)).trans hw,rfl⟩⟩
 refine ⟨h.defers.ext he,h.size,λn x hx=>(h.tm n x hx).mono m,λk o hk=>?_,λk p hk=>?_,λk k' b s s' hk hk'=>?_,h.low,h.apart,h.kp.trans he.kp,h.gr.mono m.imm m.size,h.mono.trans m,h.ent⟩
 . rw[St.get_set]at hk;by_cases e:k=d
   . subst e;simp only[if_true,W00]at hk;subst hk;exact ⟨b0,s0,by simp,hb1,.inl (W0O h.kp.size hb0),ho _⟩
   . rw[if_neg (λe2=>e e2.symm)]at hk;obtain ⟨b,s,h1,h2,h3,h4⟩:=h.obj k o hk;exact ⟨b,s,by simp only[e,if_false];exact h1,W12 h2 he.size,h3,h4.mono m (he.block b h2)⟩
 . rw[St.get_set];by_cases e:k=d
   . exact ⟨obj,by rw[if_pos e.symm]⟩
   . simp only[e,if_false]at hk;rw[if_neg (λe2=>e e2.symm)];exact h.dom k p hk
 . by_cases e:k=d <;> by_cases e':k'=d
   . rw[e,e']
   . simp only[e,e',if_true,if_false,W00,W06]at hk hk';have:=h.loc_lt hk';omega
   . simp only[e,e',if_true,if_false,W00,W06]at hk hk';have:=h.loc_lt hk;omega
   . simp only[e,e',if_false]at hk hk';exact h.inj k k' b s s' hk hk'
def SK.new (h:SK R st a W κ) {d:Nat} (hd:st.get d=none) {obj:AObj} {cs:Array Value} {t:TypeId}
  (ho:RowOk (st.env R.M κ) W cs 0 obj) :
  SK R (st.set d obj) a (W.alloc (.cells cs t)) (λk=>if k=d then some (W.heap.size,0) else κ k) :=
 h.newO hd (by cases obj <;> first|exact ⟨cs,t,rfl,ho⟩|exact ho.elim)
def SK.changeO (h:SK R st a W κ) {k b s:Nat} {o o':AObj} {ob ob':Obj} (hg:st.get k=some o) (hk:κ k=some (b,s)) (hb:W.heap[b]? = some ob) (hdf:ob≠.deferred (some []))
  (hd:o'.dim=o.dim) (hsz:∀ cs t,ob = .cells cs t (0,0)->∃ cs',ob' = .cells cs' t (0,0)/\cs'.size=cs.size) (hz:W'.heap.size=W.heap.size) (hw:W'.heap[b]? = some ob') (hot:∀ i,i<W.heap.size->i≠b->W'.heap[i]? = W.heap[i]?)
  (hos:W'.os=W.os) (hta:W'.tape=W.tape) (hou:W'.output=W.output)
  (ho:ObOk (st.env R.M κ) W ob' s o') :
  SK R (st.set k o') a W' κ:=by
 have henv:(st.set k o').env R.M κ=st.env R.M κ:=by
  unfold St.env
  congr 1
  funext j
  rw[St.get_set];by_cases e:k=j
  . subst e;rw[if_pos rfl,hg];simp[hd]
  . rw[if_neg e]
 have m:Mono (st.env R.M κ) W (st.env R.M κ) W':=by
  refine ⟨by omega,λi hi hM=>⟨hM,hot i hi (λe=>hM (.inr ⟨k,s,by rw[e];exact hk⟩))⟩,λ_ _ h1 h2=>⟨h1,h2⟩,λk' sz m hk'=>⟨m,hk',W0f _,λ_ b' s' cs2 t2 hl=>⟨hl,λhw2=>?_⟩⟩⟩;by_cases e:b'=b
  . subst e;rw[hb]at hw2;simp only[W00]at hw2;obtain ⟨cs',g1,g2⟩:=hsz _ _ hw2;exact ⟨cs',hw.trans (congrArg _ g1),g2⟩
  . exact ⟨cs2,(hot b' (h.loc_lt hl) e).trans hw2,rfl⟩
 obtain ⟨b1,s1,g1,g2,g3,g4⟩:=h.obj k o hg;rw[hk]at g1;simp only[W00,W06]at g1;obtain ⟨rfl,rfl⟩:=g1
 have hkp:Kp R.X R.W0 W':=by
  refine ⟨hos.trans h.kp.os,hta.trans h.kp.tape,hou.trans h.kp.output,by have:=h.kp.size;omega,λi hi hx=>?_⟩
  rw [hot i (Nat.lt_of_lt_of_le hi h.kp.size) (by rintro rfl;rcases g3 with g3|g3;· omega
                                                  . exact hx g3)]
  exact h.kp.block i hi hx
 refine ⟨h.defers.of λc hc=>(hot c (W0c.1 hc).1 (by rintro rfl;rw[hb]at hc;exact hdf (W1G hc))).trans hc,h.size,λn x hx=>by rw[henv];exact (h.tm n x hx).mono m,λk' o2 hk2=>?_,λk' p hk'=>?_,h.inj,h.low,h.apart,hkp,by rw[henv];exact h.gr.mono m.imm m.size,by rw[henv];exact h.mono.trans m,h.ent⟩
 . rw[St.get_set]at hk2;by_cases e:k=k'
   . subst e;rw[if_pos rfl]at hk2;simp only[W00]at hk2;subst hk2;refine ⟨b,s,hk,by omega,g3,?_⟩;rw[henv];exact ho.obj m hw
   . rw[if_neg e]at hk2;obtain ⟨b2,s2,h1,h2,h3,h4⟩:=h.obj k' o2 hk2;have hne:b2≠b:=λe2=>e (h.inj k k' b s s2 hk (by rw[<- e2];exact h1))
     exact ⟨b2,s2,h1,by omega,h3,by rw[henv];exact h4.mono m (hot b2 h2 hne)⟩
 . rw[St.get_set];by_cases e:k=k'
   . exact ⟨o',by rw[if_pos e]⟩
   . rw[if_neg e];exact h.dom k' p hk'
def SK.change (h:SK R st a W κ) {k b s:Nat} {o o':AObj} {cs cs':Array Value} {t:TypeId} (hg:st.get k=some o) (hk:κ k=some (b,s)) (hb:W.heap[b]? = some (.cells cs t (0,0)))
  (hd:o'.dim=o.dim) (hsz:cs'.size=cs.size) (hz:W'.heap.size=W.heap.size) (hw:W'.heap[b]? = some (.cells cs' t (0,0))) (hot:∀ i,i<W.heap.size->i≠b->W'.heap[i]? = W.heap[i]?)
  (hos:W'.os=W.os) (hta:W'.tape=W.tape) (hou:W'.output=W.output)
  (ho:RowOk (st.env R.M κ) W cs' s o') :
  SK R (st.set k o') a W' κ :=
 h.changeO hg hk hb (λe=>by cases e) hd (λcs2 t2 e=>by cases e;exact ⟨cs',rfl,hsz⟩) hz hw hot hos hta hou (by cases o' <;> first|exact ⟨cs',t,rfl,ho⟩|exact ho.elim)
def SK.notdf (h:SK R st a W κ) {k b s:Nat} (hk:κ k=some (b,s)) {ds:Option (List Deferred)}:W.heap[b]? ≠ some (.deferred ds):=by
 intro e;obtain ⟨o,ho⟩:=h.dom k _ hk;obtain ⟨b',s',h1,h2,h3,h4⟩:=h.obj k o ho;rw[hk]at h1;simp only[W00,W06]at h1;obtain ⟨rfl,rfl⟩:=h1
 cases o with
 |box cells=>obtain ⟨-,cs,t,q,-⟩:=h4;rw[q]at e;cases e
 |row sz rows=>obtain ⟨-,cs,t,q,-⟩:=h4;rw[q]at e;cases e
 |mp kvs=>obtain ⟨-,cs,t,q,-⟩:=h4;rw[q]at e;cases e
def SK.cellsAt (h:SK R st a W κ) {p:AV} {v:Value} (hp:VR (st.env R.M κ) W p v) {cs:List AV} {off:Nat} (hc:Z5 st p=some (cs,off)) :
  ∃ b o,v = .pointer (some ⟨b,o+off,none⟩)/\∀ (j:Nat) (x:AV),cs[j]? = some x->∃ u,W.cell? ⟨b,o+j,none⟩=some u/\VR (st.env R.M κ) W x u:=by
 unfold Go.Proofs.YthlcppdbldkldaaDoor.Z5 at hc
 split at hc
 . simp only[W00,W06]at hc;obtain ⟨rfl,rfl⟩:=hc
   cases hp with
   | pv hp =>
     cases hp with
     |vptr _ _ b o f hb hM hc hr=>exact ⟨b,o,rfl,λj x hj=>⟨f j,hc j (W02.1 hj).1,.pv (hr j x hj)⟩⟩
 . rename_i k off'
   split at hc <;> simp only[W00,W06,reduceCtorEq]at hc
   rename_i cs' hg;obtain ⟨rfl,rfl⟩:=hc;obtain ⟨b,s,h1,-,hv⟩:=hp.ptr_inv;obtain ⟨b',s',h2,h3,h4,h5,us,t,h6,h7,h8⟩:=h.obj k _ hg;rw[show (st.env R.M κ).loc k=κ k from rfl,h2]at h1;simp only[W00,W06]at h1;obtain ⟨rfl,rfl⟩:=h1;subst h5;refine ⟨b',0,hv,λj x hj=>?_⟩;obtain ⟨u,hu,hr⟩:=h8 j x hj;exact ⟨u,by simp[World.cell?,h6,hu],hr⟩
 . rename_i k n i off'
   split at hc <;> try (simp at hc;done)
   rename_i sz rows hg
   split at hc <;> simp only[W04,W06,reduceCtorEq]at hc
   rename_i hn;obtain ⟨r,hr,rfl,rfl⟩:=hc;obtain ⟨sz',m,p,h1,h2,hv,he⟩:=hp.eptr_inv;simp only[St.env,hg,W1m,AObj.dim,W00,W06]at h1;obtain ⟨rfl,rfl⟩:=h1;obtain ⟨b,s,hl,rfl⟩:=he hn;obtain ⟨b',s',g2,g3,g4,g5,us,t,g6,g7,g8⟩:=h.obj k _ hg;rw[show (st.env R.M κ).loc k=κ k from rfl,g2]at hl;simp only[W00,W06]at hl;obtain ⟨rfl,rfl⟩:=hl;refine ⟨b',s'+i*sz,hv,λj x hj=>?_⟩;obtain ⟨u,hu,hx⟩:=g8 i j r x hr hj;exact ⟨u,by simp[World.cell?,g6,hu],hx⟩
 . simp at hc
def Zl {t:TypeId} {b:Bool} (h:aggB P t=some b):∃ d,P.underlying t=some d/\d.isRow=b:=by
 exact W04.1 h
def Zm {t:TypeId} {n:Nat} (h:szB P t=some n):∃ i,P.info? t=some i/\i.size=n:=W04.1 h
def Zn {t:TypeId} {b:Bool} (h:aggB P t=some b) (W:World):(isAgg t).run P W = .ok b W:=by
 obtain ⟨d,h1,h2⟩:=Zl h;simp only[isAgg,Sem.run_bind,run_underlying h1,Result.andThen_ok]
 cases d <;> simp_all [TypeDesc.isRow]
def Zo {t:TypeId} {n:Nat} (h:szB P t=some n) (W:World):(sizeOf t).run P W = .ok n W:=by
 obtain ⟨i,h1,h2⟩:=Zm h;simp[sizeOf,typeInfo,h1,h2,Sem.run_bind]
def Zp {t:TypeId} {agg:Bool} {n b o off:Nat} {cs:List AV} {E:Env} {z:AV} (ha:aggB P t=some agg) (hn:szB P t=some n)
  (hc:∀ (j:Nat) (x:AV),cs[j]? = some x->∃ u,W.cell? ⟨b,o+j,none⟩=some u/\VR E W x u) (hz:cut agg n cs off=some z) :
  ∃ v,(Instr.loadAt t (.pointer (some ⟨b,o+off,none⟩))).run P W = .ok v W/\VR E W z v:=by
 unfold cut at hz
 cases agg with
 | true =>
   simp only[if_true]at hz
   split at hz <;> simp only[W00,reduceCtorEq]at hz
   rename_i hle;subst hz;obtain ⟨d,h1,h2⟩:=Zl ha
   have hf:∀ j,j<n->∃ u,W.cell? ⟨b,o+off+j,none⟩=some u/\∀ x,cs[off+j]? = some x->VR E W x u:=λj hj=>by
    obtain ⟨u,h3,h4⟩:=hc (off+j) cs[off+j] (by simp[show off+j<cs.length by omega]);refine ⟨u,by rw[<- h3,W1s],λx hx=>?_⟩;rw[W07 (by omega)]at hx;simp only[W00]at hx;rw[<- hx];exact h4
   have hg:∃ f:Nat->Value,∀ j,j<n->W.cell? ⟨b,o+off+j,none⟩=some (f j)/\∀ x,cs[off+j]? = some x->VR E W x (f j):=by
    refine ⟨λj=>(W.cell? ⟨b,o+off+j,none⟩).getD Go.undef,λj hj=>?_⟩;obtain ⟨u,h3,h4⟩:=hf j hj;simp only[h3,W0P,true_and];exact h4
   obtain ⟨f,hf⟩:=hg;have hl:((List.range n).map f).length=n:=(by simp);refine ⟨_,run_loadAt_mid W b (o+off) t ((List.range n).map f) d (λj v hv=>?_) h1 h2 (by obtain ⟨i,h5,h6⟩:=Zm hn;simp[h5,h6]),?_⟩
   . have hj:j<n:=(by have:=(W02.1 hv).1;simpa using this);rw[(hf j hj).1];simpa [hj] using hv
   . refine VR.agg_of ⟨by simp;omega,λi x u hi hu=>?_⟩;have hi':i<n:=(by have:=(W02.1 hi).1;simp at this;omega);simp[W1k,hi',W13]at hi;simp[hi']at hu;subst hu;exact (hf i hi').2 x hi
 | false =>
   simp only[W05,if_false]at hz;obtain ⟨u,h1,h2⟩:=hc off z hz;refine ⟨u,?_,h2⟩;simp only[Instr.loadAt,Instr.sureAddr,Sem.run_bind,Sem.run_pure,Result.andThen_ok,loadVar,Zn ha];simp[load,Sem.run,h1]
def Zq (h:SK R st a W κ) {o:Oper} {t:TypeId} {agg:Bool} {n:Nat} {x:Operand} {y:RA} (ho:o.op = .load t x) (ha:aggB P t=some agg) (hn:szB P t=some n) (hk:okA x y=true)
  {z:AV} {st':St} {d:Nat} (hr:rop R.G st d (.load agg n y)=some (z,st')):Sim P R a W o z st':=by
 have h1:=h.ev hk;simp only[rop]at hr
 split at hr <;> simp only[W04,W06,reduceCtorEq]at hr
 rename_i cs off e;obtain ⟨u,hu,rfl,rfl⟩:=hr;obtain ⟨b,o',hv,hc⟩:=h.cellsAt h1 e;obtain ⟨v,h2,h3⟩:=Zp (P:=P) ha hn hc hu;exact .val h (by simp only[execOp,ho,hv,Sem.run_bind,h2,Result.andThen_ok,Sem.run_pure]) h3
def Zr (h:SK R st a W κ) {o:Oper} {t:TypeId} {i:Nat} {fs:Array Field} {f:Field} {agg:Bool} {n:Nat} {x:Operand} {y:RA} (ho:o.op = .field t x i)
  (hu:P.underlying t=some (.struct fs)) (hf:fs[i]? = some f) (ha:aggB P f.type=some agg) (hn:szB P f.type=some n) (hk:okA x y=true)
  {z:AV} {st':St} {d:Nat} (hr:rop R.G st d (.field agg f.offset n y)=some (z,st')):Sim P R a W o z st':=by
 have h1:=h.ev hk;simp only[rop]at hr
 split at hr <;> simp only[W04,W06,reduceCtorEq]at hr
 rename_i cs e;obtain ⟨u,hc,rfl,rfl⟩:=hr;rw[e]at h1;obtain ⟨us,hv,h2,h3⟩:=h1.agg_inv;unfold cut at hc
 cases agg with
 | true =>
   simp only[if_true]at hc
   split at hc <;> simp only[W00,reduceCtorEq]at hc
   rename_i hle;subst hc;refine .val (v:=.agg (us.extract f.offset (f.offset+n))) h ?_ (.agg _ _ ?_ ?_)
   . simp[execOp,ho,hv,Instr.field,Sem.run_bind,run_underlying hu,hf,part,asAgg,Zn ha,Zo hn]
   . simp at h2 ⊢;omega
   . intro j x u hx hu;have hj:j<n:=(by have:=(W02.1 hx).1;simp at this;omega);simp[W1k,hj,W13]at hx;refine h3 (f.offset+j) x u hx ?_;rw[Array.getElem?_extract]at hu
     split at hu
     . simpa using hu
     . cases hu
 | false =>
   simp only[W05,if_false]at hc
   have hlt:f.offset<us.size:=by
    have:=(W02.1 hc).1;simp at h2;omega
   have hg:us[f.offset]? = some us[f.offset]:=(by simp[hlt]);refine .val (v:=us[f.offset]) h ?_ (h3 _ _ _ hc (by simp[hlt]));simp[execOp,ho,hv,Instr.field,Sem.run_bind,run_underlying hu,hf,part,asAgg,Zn ha,hg]
def Zs {t:TypeId} (hu:P.underlying t=some .bool) (a b:Bool):(Op.equal t (.bool a) (.bool b)).run P W = .ok (a == b) W:=by
 show (Op.equalIn (Op.maxDepth-1+1) t (.bool a) (.bool b)).run P W=_;rw[Op.equalIn];simp[Sem.run_bind,run_underlying hu]
def Zt {t:TypeId} {x y:Operand} (hu:P.underlying t=some .bool) (a b:Bool):(do eqGuard .eql t x y (.bool a) (.bool b);binOp .eql t (.bool a) (.bool b):Sem Value).run P W = .ok (.bool (a == b)) W:=by
 have e:binOp .eql t (.bool a) (.bool b)=(do pure (.bool (<- Op.equal t (.bool a) (.bool b)))):=rfl;rw[e];simp[eqGuard,Sem.run_bind,Zs hu]
def Zu {t:TypeId} {x y:Operand} (hu:P.underlying t=some .bool) (a b:Bool):(do eqGuard .neq t x y (.bool a) (.bool b);binOp .neq t (.bool a) (.bool b):Sem Value).run P W = .ok (.bool (!(a == b))) W:=by
 have e:binOp .neq t (.bool a) (.bool b)=(do pure (.bool (!(<- Op.equal t (.bool a) (.bool b))))):=rfl;rw[e];simp[eqGuard,Sem.run_bind,Zs hu]
def Zv {t e:TypeId} (hu:P.underlying t=some (.slice e)) (ad:Option Addr) (n c:Nat):(Op.equal t (.slice ad n c) (.slice none 0 0)).run P W = .ok ad.isNone W:=by
 show (Op.equalIn (Op.maxDepth-1+1) t (.slice ad n c) (.slice none 0 0)).run P W=_;rw[Op.equalIn]
 cases ad <;> simp[Sem.run_bind,run_underlying hu]
def Zw {t e:TypeId} {x y:Operand} (hu:P.underlying t=some (.slice e)) (ad:Option Addr) (n c:Nat):(do eqGuard .eql t x y (.slice ad n c) (.slice none 0 0);binOp .eql t (.slice ad n c) (.slice none 0 0):Sem Value).run P W = .ok (.bool ad.isNone) W:=by
 have e:binOp .eql t (.slice ad n c) (.slice none 0 0)=(do pure (.bool (<- Op.equal t (.slice ad n c) (.slice none 0 0)))):=rfl;rw[e];simp[eqGuard,Sem.run_bind,Zv hu]
def Zx {t e:TypeId} {x y:Operand} (hu:P.underlying t=some (.slice e)) (ad:Option Addr) (n c:Nat):(do eqGuard .neq t x y (.slice ad n c) (.slice none 0 0);binOp .neq t (.slice ad n c) (.slice none 0 0):Sem Value).run P W = .ok (.bool (!ad.isNone)) W:=by
 have e:binOp .neq t (.slice ad n c) (.slice none 0 0)=(do pure (.bool (!(<- Op.equal t (.slice ad n c) (.slice none 0 0))))):=rfl;rw[e];simp[eqGuard,Sem.run_bind,Zv hu]
def Zy (h:SK R st a W κ) {o:Oper} {op:Op} {v:VOp} {xs:List RA} (ho:o.op=op) (hk:okV P op v xs=true)
  {z:AV} {st':St} {d:Nat} (hr:rop R.G st d (.vop v xs)=some (z,st')):Sim P R a W o z st':=by
 simp only[rop,W04,W06]at hr;obtain ⟨z',hz,rfl,rfl⟩:=hr;unfold okV at hk
 split at hk
 . rename_i src dst x y;simp only[W01]at hk;obtain ⟨h1,h2⟩:=hk
   split at h1 <;> try (simp at h1;done)
   rename_i e hu1 hu2
   split at h1 <;> simp only[W05,W0b]at h1
   rename_i k hu3;subst h1;have v1:=h.ev h2;simp only[W0F,W1c]at hz;generalize e1:evA R.G st y=Y at hz v1
   cases Y <;> try (simp[vopF]at hz;done)
   . simp only[vopF,W00]at hz;subst hz;generalize hv:a.eval x=v at v1
     cases v1 with
     | pv v1 =>
       cases v1 with
       |nils=>exact .val h (by simp only[execOp,ho,hv,Sem.run_bind];rw[run_convert_bytes_nil W src e hu1 hu3 0 0 dst hu2];rfl) (.pv (.str _))
   . rename_i rows;simp only[vopF,W04]at hz;obtain ⟨ns,hns,rfl⟩:=hz;have hrows:=Z7 hns;generalize hv:a.eval x=v at v1
     cases v1 with
     | pv v1 =>
       cases v1 with
       | vsl _ ad cap sz b o f hcap hmax ha hn hs hc hr =>
         have run:(convert src dst (.slice ad rows.length cap)).run P W = .ok (.string (strOfNums ns)) W:=by
          by_cases e0:rows=[]
          . subst e0;simp[Z6]at hns;subst hns;rw[run_convert_bytes_string W src dst e _ _ cap hu1 hu3 hu2]
            cases ad <;> simp[Conv.bytesToString,loadCells]
            all_goals rfl
          . obtain ⟨rfl,-,-⟩:=ha e0
            have hsz:sz=1:=by
             cases rows with
             |nil=>exact absurd rfl e0
             | cons r rs =>
               have:=hs r (W0H ..)
               cases ns with
               |nil=>simp at hrows
               |cons n ns=>simp at hrows;rw[hrows.1]at this;simpa using this.symm
            subst hsz;refine run_convert_bytes_arg W src e hu1 hu3 b o _ cap ns (by rw[hrows];simp) (λi hi=>?_) dst hu2;have h3:=hc i 0 hi (by omega);have hi2:i<ns.length:=(by rw[hrows]at hi;simpa using hi);have h4:=hr i 0 [AV.int .u8 ns[i]] (AV.int .u8 ns[i]) (by rw[hrows];simp[hi2]) rfl;generalize f i 0=q at h3 h4
            cases h4
            simp only[Nat.mul_one,W1Q]at h3;rw[h3];simp[List.getD,hi2]
         exact .val h (by simp only[execOp,ho,hv,Sem.run_bind];rw[run];rfl) (.pv (.str _))
 . rename_i t x i n sz y j;simp only[W01]at hk;obtain ⟨⟨h1,h2⟩,h3⟩:=hk
   split at h1 <;> simp only[W05,W01,W0b]at h1
   rename_i n' e hu;obtain ⟨rfl,hn⟩:=h1;have v1:=h.ev h2;have v2:=h.ev h3;simp only[W0F,W1c]at hz
   have run:∀ k m b off,0<=m->m<(n':Int)->(Instr.indexAt t (.pointer (some ⟨b,off,none⟩)) (.int k m)).run P W = .ok (.pointer (some ⟨b,off+m.toNat*sz,none⟩)) W:=λk m b off g1 g2=>by
    simp only[Instr.indexAt,asIntOf,Instr.sureAddr,Sem.run_bind,Sem.run_pure,Result.andThen_ok,run_underlying hu,Zo hn];rw[if_pos ⟨g1,g2⟩];simp[Sem.run_bind,Zo hn,Addr.add_mid]
   generalize e1:evA R.G st y=Y at hz v1;generalize e2:evA R.G st j=J at hz v2
   cases J <;> try (simp[vopF]at hz;done)
   cases Y <;> try (simp[vopF]at hz;done)
   . rename_i k o';simp only[vopF]at hz
     split at hz <;> simp only[W00,reduceCtorEq]at hz
     rename_i g;subst hz;obtain ⟨b,s,g2,g3,hv⟩:=v1.ptr_inv;exact .val h (by simp only[execOp,ho,hv,v2.int_inv,Sem.run_bind,run _ _ _ _ g.1 g.2,Result.andThen_ok,Sem.run_pure];rfl) (by rw[W1s];exact .ptr k _ b s g2 g3)
   . rename_i cs o';simp only[vopF]at hz
     split at hz <;> simp only[W00,reduceCtorEq]at hz
     rename_i g;subst hz
     cases v1 with
     | pv v1 =>
       generalize hv:a.eval x=X at v1
       cases v1 with
       | vptr _ _ b o f hb hM hc hr =>
         exact .val h (by simp only[execOp,ho,hv,v2.int_inv,Sem.run_bind,run _ _ _ _ g.1 g.2,Result.andThen_ok,Sem.run_pure];rfl) (.pv (by rw[W1s];exact .vptr cs _ b o f hb hM hc hr))
 . rename_i t x i agg n sz y j;simp only[W01]at hk;obtain ⟨⟨h1,h2⟩,h3⟩:=hk
   split at h1 <;> simp only[W05,W01,W0b]at h1
   rename_i n' e hu;obtain ⟨⟨rfl,ha⟩,hn⟩:=h1;have v1:=h.ev h2;have v2:=h.ev h3;simp only[W0F,W1c]at hz;generalize e1:evA R.G st y=Y at hz v1;generalize e2:evA R.G st j=J at hz v2
   cases J <;> try (simp[vopF]at hz;done)
   cases Y <;> try (simp[vopF]at hz;done)
   rename_i k m cs;simp only[vopF]at hz
   split at hz <;> try (simp at hz;done)
   rename_i g;obtain ⟨us,hv,g2,g3⟩:=v1.agg_inv;unfold cut at hz
   cases agg with
   | true =>
     simp only[if_true]at hz
     split at hz <;> simp only[W00,reduceCtorEq]at hz
     rename_i hle;subst hz;refine .val (v:=.agg (us.extract (m.toNat*sz) (m.toNat*sz+sz))) h ?_ (.agg _ _ ?_ ?_)
     . simp only[execOp,ho,hv,v2.int_inv,Instr.index,asIntOf,Sem.run_bind,Sem.run_pure,run_underlying hu,Result.andThen_ok,Zo hn];rw[if_pos g];simp[part,asAgg,Zn ha,Zo hn,Sem.run_bind]
     . simp at g2 ⊢;omega
     . intro j x u hx hu;have hj:j<sz:=(by have:=(W02.1 hx).1;simp at this;omega);simp[W1k,hj,W13]at hx;refine g3 (m.toNat*sz+j) x u hx ?_;rw[Array.getElem?_extract]at hu
       split at hu
       . simpa using hu
       . cases hu
   | false =>
     simp only[W05,if_false]at hz
     have hlt:m.toNat*sz<us.size:=by
      have:=(W02.1 hz).1;simp at g2;omega
     have hg:us[m.toNat*sz]? = some us[m.toNat*sz]:=(by simp[hlt]);refine .val (v:=us[m.toNat*sz]) h ?_ (g3 _ _ _ hz (by simp[hlt]));simp only[execOp,ho,hv,v2.int_inv,Instr.index,asIntOf,Sem.run_bind,Sem.run_pure,run_underlying hu,Result.andThen_ok,Zo hn];rw[if_pos g];simp[part,asAgg,Zn ha,Zo hn,Sem.run_bind,hg]
 . rename_i t x i y j;simp only[W01]at hk;obtain ⟨⟨h1,h2⟩,h3⟩:=hk
   split at h1 <;> simp only[W05]at h1
   rename_i hu;have v1:=h.ev h2;have v2:=h.ev h3;simp only[W0F,W1c]at hz;generalize e1:evA R.G st y=Y at hz v1;generalize e2:evA R.G st j=J at hz v2
   cases J <;> try (simp[vopF]at hz;done)
   cases Y <;> try (simp[vopF]at hz;done)
   rename_i k m s;simp only[vopF]at hz
   split at hz <;> try (simp at hz;done)
   rename_i g;simp only[W04]at hz;obtain ⟨b,hb,rfl⟩:=hz;refine .val (v:=.int .u8 b.toNat) h ?_ (.pv (.int _ _));simp only[execOp,ho,v1.str_inv,v2.int_inv,Instr.index,asIntOf,Sem.run_bind,Sem.run_pure,run_underlying hu,Result.andThen_ok];simp[g,hb,Sem.run_bind]
 . rename_i op t x i at' neg y j;simp only[W01]at hk;obtain ⟨⟨⟨h0,h1⟩,h2⟩,h3⟩:=hk
   split at h1 <;> simp only[W05]at h1
   rename_i hu;have v1:=h.ev h2;have v2:=h.ev h3;simp only[W0F,W1c]at hz;generalize e1:evA R.G st y=Y at hz v1;generalize e2:evA R.G st j=J at hz v2
   cases J <;> try (simp[vopF]at hz;done)
   cases Y <;> try (simp[vopF]at hz;done)
   rename_i b a';simp only[vopF,W00]at hz;subst hz
   split at h0 <;> try (simp at h0;done)
   . refine .val (v:=.bool (a' == b)) h ?_ (.pv (.bool _));have hr:=Zt (P:=P) (W:=W) (x:=x) (y:=i) hu a' b;rw[Sem.run_bind]at hr;simp only[execOp,ho,v1.bool_inv,v2.bool_inv,Sem.run_bind];rw[hr];rfl
   . refine .val (v:=.bool (!(a' == b))) h ?_ (.pv (.bool _));have hr:=Zu (P:=P) (W:=W) (x:=x) (y:=i) hu a' b;rw[Sem.run_bind]at hr;simp only[execOp,ho,v1.bool_inv,v2.bool_inv,Sem.run_bind];rw[hr];rfl
 . rename_i op t x i at' neg y j;simp only[W01]at hk;obtain ⟨⟨⟨h0,h1⟩,h2⟩,h3⟩:=hk
   split at h1 <;> simp only[W05]at h1
   rename_i e hu;have v1:=h.ev h2;have v2:=h.ev h3;simp only[W0F,W1c]at hz;generalize e1:evA R.G st y=Y at hz v1;generalize e2:evA R.G st j=J at hz v2
   have fin:∀ (ad:Option Addr) (n c:Nat),a.eval x = .slice ad n c->a.eval i = .slice none 0 0->(∃ b:Bool,b=(if neg=true then !ad.isNone else ad.isNone)/\VR (st.env R.M κ) W z' (.bool b))->Sim P R a W o z' st:=λad n c q1 q2 ⟨b,q3,q4⟩=>by
    subst q3;refine .val h ?_ q4
    split at h0 <;> try (simp at h0;done)
    . have hr:=Zw (P:=P) (W:=W) (x:=x) (y:=i) hu ad n c;rw[Sem.run_bind]at hr;simp only[execOp,ho,q1,q2,Sem.run_bind];rw[hr];rfl
    . have hr:=Zx (P:=P) (W:=W) (x:=x) (y:=i) hu ad n c;rw[Sem.run_bind]at hr;simp only[execOp,ho,q1,q2,Sem.run_bind];rw[hr];rfl
   cases J <;> try (cases Y <;> simp[vopF]at hz;done)
   have q2:a.eval i = .slice none 0 0:=by
    cases v2 with
    |pv v2=>generalize hv:a.eval i=v at v2;cases v2;rfl
   cases Y <;> try (simp[vopF]at hz;done)
   . simp only[vopF,W00]at hz;subst hz
     have q1:a.eval x = .slice none 0 0:=by
      cases v1 with
      |pv v1=>generalize hv:a.eval x=v at v1;cases v1;rfl
     exact fin none 0 0 q1 q2 ⟨_,rfl,by cases neg <;> exact .pv (.bool _)⟩
   . simp only[vopF,W00]at hz;subst hz
     cases v1 with
     | pv v1 =>
       generalize hv:a.eval x=v at v1
       cases v1 with
       |nes ad cap hm=>exact fin (some ad) 0 cap hv q2 ⟨_,rfl,by cases neg <;> exact .pv (.bool _)⟩
   . rename_i rows;simp only[vopF,W00]at hz;subst hz
     cases v1 with
     | pv v1 =>
       generalize hv:a.eval x=v at v1
       cases v1 with
       | vsl _ ad cap sz b off f hcap hmax ha hn hs hc hr =>
         refine fin ad rows.length cap hv q2 ⟨_,rfl,?_⟩;by_cases e0:rows=[]
         . rw[if_pos (by simp[e0])];exact .pv (.abool _)
         . rw[if_neg (by simpa using e0),(ha e0).1]
           cases neg <;> exact .pv (.bool _)
 . rename_i op t x i at' op' y j;simp only[W01,W0b]at hk;obtain ⟨⟨⟨rfl,h1⟩,h2⟩,h3⟩:=hk;have v1:=h.ev h2;have v2:=h.ev h3;simp only[W0F,W1c]at hz;generalize e1:evA R.G st y=Y at hz v1;generalize e2:evA R.G st j=J at hz v2
   cases J <;> try (simp[vopF]at hz;done)
   cases Y <;> try (simp[vopF]at hz;done)
   simp only[vopF]at hz
   split at hz <;> try (simp at hz;done)
   rename_i hkk;subst hkk
   split at hz <;> simp only[W00,reduceCtorEq]at hz
   all_goals
    subst hz;refine .val h ?_ (.pv (.int _ _));simp only[execOp,ho,v1.int_inv,v2.int_inv];simp[eqGuard,binOp,Op.intBits,Sem.run_bind]
 . rename_i op t x i at' left y j;simp only[W01]at hk;obtain ⟨⟨h1,h2⟩,h3⟩:=hk;have v1:=h.ev h2;have v2:=h.ev h3;simp only[W0F,W1c]at hz;generalize e1:evA R.G st y=Y at hz v1;generalize e2:evA R.G st j=J at hz v2
   cases J <;> try (simp[vopF]at hz;done)
   cases Y <;> try (simp[vopF]at hz;done)
   rename_i kb b ka a';simp only[vopF]at hz
   split at hz <;> simp only[W00,reduceCtorEq]at hz
   rename_i hp;have hp':¬b<0:=(by omega);subst hz
   split at h1 <;> try (simp at h1;done)
   all_goals
    refine .val h ?_ (.pv (.int _ _));simp only[execOp,ho,v1.int_inv,v2.int_inv];simp[eqGuard,binOp,Op.shift,Sem.run_bind,hp']
 . simp at hk
def Zz (h:SK R st a W κ) {o:Oper} {t:TypeId} {i:Nat} {fs:Array Field} {f:Field} {n:Nat} {x:Operand} {y:RA} (ho:o.op = .fieldAddr t x i)
  (hu:P.underlying t=some (.struct fs)) (hf:fs[i]? = some f) (hn:szB P f.type=some (n+1)) (hk:okA x y=true)
  {z:AV} {st':St} {d:Nat} (hr:rop R.G st d (.faddr f.offset y)=some (z,st')):Sim P R a W o z st':=by
 have h1:=h.ev hk
 have run:∀ b off,(Instr.fieldAt t (.pointer (some ⟨b,off,none⟩)) i).run P W = .ok (.pointer (some ⟨b,off+f.offset,none⟩)) W:=λb off=>by
  simp[Instr.fieldAt,Instr.sureAddr,Sem.run_bind,run_underlying hu,hf,fieldPlace,Zo hn,Addr.add_mid]
 simp only[rop]at hr
 split at hr
 . rename_i k off e;simp only[W00,W06]at hr;obtain ⟨rfl,rfl⟩:=hr;rw[e]at h1;obtain ⟨b,s,h2,h3,hv⟩:=h1.ptr_inv;exact .val h (by simp only[execOp,ho,hv,Sem.run_bind,run,Result.andThen_ok,Sem.run_pure];rfl) (by rw[W1s];exact .ptr k _ b s h2 h3)
 . rename_i k m j off e
   split at hr <;> try (simp at hr;done)
   rename_i sz rows hg
   split at hr <;> simp only[W00,W06,reduceCtorEq]at hr
   rename_i hlen;obtain ⟨rfl,rfl⟩:=hr;rw[e]at h1;obtain ⟨sz',m',p,h2,h3,hv,h4⟩:=h1.eptr_inv
   have hm:m'=m:=by
    simp only[St.env,hg,W1m,AObj.dim,W00,W06]at h2;omega
   obtain ⟨b,s,h5,rfl⟩:=h4 hm;exact .val h (by simp only[execOp,ho,hv,Sem.run_bind,run,Result.andThen_ok,Sem.run_pure];rfl) (.eptr k m j _ sz' m' _ h2 h3 (λ_=>⟨b,s,h5,by rw[W1s]⟩))
 . rename_i cs off e;simp only[W00,W06]at hr;obtain ⟨rfl,rfl⟩:=hr;rw[e]at h1;have h2:=h1.vptr_inv;generalize hv:a.eval x=v at *
   cases h2 with
   |vptr _ _ b o' ff hb hM hc hr'=>exact .val h (by simp only[execOp,ho,hv,Sem.run_bind,run,Result.andThen_ok,Sem.run_pure];rfl) (.pv (by rw[W1s];exact .vptr cs _ b o' ff hb hM hc hr'))
 . simp at hr
end
section
variable {P:Program} {R:Run} {st:St} {a:Act} {W W':World} {κ:Nat->Option (Nat×Nat)}
def SK.box (h:SK R st a W κ) {d:Nat} (hd:st.get d=none) {cells:List AV} {us:Array Value} (hc:CR (st.env R.M κ) W cells us.toList) (t:TypeId) :
  SK R (st.set d (.box cells)) a (W.alloc (.cells us t)) (λk=>if k=d then some (W.heap.size,0) else κ k) /\
   VR ((st.set d (.box cells)).env R.M (λk=>if k=d then some (W.heap.size,0) else κ k)) (W.alloc (.cells us t)) (.ptr d 0) (.pointer (some ⟨W.heap.size,0,none⟩)):=by
 refine ⟨h.new hd ⟨by simpa using hc.1,rfl,λj x hj=>?_⟩,.ptr d 0 W.heap.size 0 (by simp[St.env]) (by simp[St.env,St.get_set,AObj.dim])⟩;have hlt:j<us.size:=(by have:=(W02.1 hj).1;have:=hc.1;simp at this;omega);exact ⟨us[j],by simp[hlt],hc.2 j x _ hj (by simp[hlt])⟩
def ZA (h:SK R st a W κ) {o:Oper} {t:TypeId} {x:Operand} {y:RA} (ho:o.op = .box t x) (hk:okA x y=true)
  {z:AV} {st':St} {d:Nat} (hr:rop R.G st d (.box y)=some (z,st')):Sim P R a W o z st':=by
 have h1:=h.ev hk;simp only[rop]at hr
 split at hr <;> try (simp at hr;done)
 rename_i hd
 split at hr <;> simp only[W00,W06,reduceCtorEq]at hr
 rename_i hkn;obtain ⟨rfl,rfl⟩:=hr;obtain ⟨g1,g2⟩:=h.box hd (h1.cells hkn) t;exact ⟨_,_,_,.inl (by simp[execOp,ho,Instr.box,newVar,newRow,Sem.run_bind]),g1,g2⟩
def ZB {vs:List Value} {xs:List AV} {E:Env} (h:allB2 cstB vs xs=true):CR E W xs vs:=by
 obtain ⟨h1,h2⟩:=Zc h;exact ⟨h1,λi x u hx hu=>.pv (Zb (h2 i u x hu hx))⟩
def ZC (h:SK R st a W κ) {o:Oper} {t:TypeId} {i:TypeInfo} {zv:Value} {cells:List AV} (ho:o.op = .alloc t) (hi:P.info? t=some i) (hz:i.zero=some zv) (hc:allB2 cstB zv.cells.toList cells=true)
  {z:AV} {st':St} {d:Nat} (hr:rop R.G st d (.alloc cells)=some (z,st')):Sim P R a W o z st':=by
 simp only[rop]at hr
 split at hr <;> simp only[W00,W06,reduceCtorEq]at hr
 rename_i hd;obtain ⟨rfl,rfl⟩:=hr;obtain ⟨g1,g2⟩:=h.box hd (ZB hc) t;exact ⟨_,_,_,.inl (by simp[execOp,ho,Instr.alloc,newVar,newRow,Sem.run_bind,zeroValue,typeInfo,hi,hz]),g1,g2⟩
def ZD (b:Nat):∀ (us:List Value) (off:Nat) (W:World) (cs:Array Value) (t:TypeId),W.heap[b]? = some (.cells cs t (0,0))->off+us.length<=cs.size ->
  ∃ cs',(W.setCells b off us).heap[b]? = some (.cells cs' t (0,0))/\cs'.size=cs.size/\(∀ j:Nat,(j<off∨off+us.length<=j)->cs'[j]? = cs[j]?)/\(∀ (j:Nat) (u:Value),us[j]? = some u->cs'[off+j]? = some u)
 |[],off,W,cs,t,h,_=>⟨cs,h,rfl,λ_ _=>rfl,by simp⟩
 | u :: us,off,W,cs,t,h,hle=>by
   simp only[W1n]at hle;have hlt:b<W.heap.size:=(W0c.1 h).1
   have h1:(W.setCell ⟨b,off,none⟩ u).heap[b]? = some (.cells (cs.setIfInBounds off u) t (0,0)):=by
    have h':W.heap[b] = .cells cs t (0,0):=(by simpa [W0n hlt] using h);show (W.heap.modify b _)[b]? = _;rw[W0n (by simpa using hlt),Array.getElem_modify_self,h'];simp
   obtain ⟨cs',g1,g2,g3,g4⟩:=ZD b us (off+1) _ _ t h1 (by simp;omega);refine ⟨cs',g1,by simpa using g2,λj hj=>?_,λj v hv=>?_⟩
   . rw[g3 j (by simp at hj;omega),W0p,if_neg (by simp at hj;omega)]
   . cases j with
     | zero =>
       simp at hv;subst hv;rw[W1Q,g3 off (by omega),W0p,if_pos rfl,if_pos (by omega)]
     | succ j =>
       simp at hv;rw[show off+(j+1)=off+1+j by omega];exact g4 j v hv
def ZE (b:Nat):∀ (us:List Value) (off:Nat) (W:World),(W.setCells b off us).heap.size=W.heap.size
 |[],_,_=>rfl
 |_::us,off,W=>by rw[World.setCells,ZE b us];simp
def ZF (b:Nat):∀ (us:List Value) (off:Nat) (W:World),(W.setCells b off us).tape=W.tape
 |[],_,_=>rfl
 |_::us,off,W=>by rw[World.setCells,ZF b us];rfl
def ZG {cs us:List AV} {off:Nat} (h:off+us.length<=cs.length) (j:Nat):(Z4 cs off us)[j]? = if j<off then cs[j]? else if j<off+us.length then us[j-off]? else cs[j]?:=by
 unfold Z4;by_cases h1:j<off
 . rw[if_pos h1,W0U,W0E (by simp;omega),W1k,if_pos h1]
 . rw[if_neg h1,W0U,W0o (by simp;omega)];have hl:(cs.take off).length=off:=(by simp;omega);rw[hl];by_cases h2:j<off+us.length
   . rw[if_pos h2,W0E (by omega)]
   . rw[if_neg h2,W0o (by omega),W13]
     congr 1;omega
def ZH {cs us:List AV} {off:Nat} (h:off+us.length<=cs.length):(Z4 cs off us).length=cs.length:=by
 unfold Z4;simp;omega
def ZI {t:TypeId} {b o:Nat} {v:Value} (ht:W.there b o v.cells.size) (hi:szB P t=some v.cells.size) (h1:∀ x∈v.cells.toList,x.oneCell'=true) :
  (Instr.storeAt t (.pointer (some ⟨b,o,none⟩)) v).run P W = .ok () (W.setCells b o v.cells.toList):=by
 have h2:=run_storeCells_cells (P:=P) b o v.cells.toList 0 W (λj hj=>by simpa using (ht j (by simpa using hj)).1) (λj hj=>by simpa using (ht j (by simpa using hj)).2) h1;simp only[W1Q]at h2;simp[Instr.storeAt,Instr.sureAddr,storeVar,Sem.run_bind,Zo hi,h2]
def SK.store (h:SK R st a W κ) {p:AV} {v:Value} (hp:VR (st.env R.M κ) W p v) {xs:List AV} {us:List Value} (hx:CR (st.env R.M κ) W xs us) {st':St} (hs:Go.Proofs.YthlcppdbldkldaaDoor.Z8 st xs p=some st') :
  ∃ b o,v = .pointer (some ⟨b,o,none⟩)/\W.there b o us.length/\SK R st' a (W.setCells b o us) κ:=by
 have key:∀ {k b s off:Nat} {obj obj':AObj} {cs:Array Value} {t:TypeId},st.get k=some obj->κ k=some (b,s)->W.heap[b]? = some (.cells cs t (0,0))->obj'.dim=obj.dim->off+us.length<=cs.size ->
   (∀ cs':Array Value,cs'.size=cs.size->(∀ j:Nat,(j<off∨off+us.length<=j)->cs'[j]? = cs[j]?)->(∀ (j:Nat) (u:Value),us[j]? = some u->cs'[off+j]? = some u) ->
    RowOk (st.env R.M κ) W cs' s obj') ->
   W.there b off us.length/\SK R (st.set k obj') a (W.setCells b off us) κ:=by
  intro k b s off obj obj' cs t hg hk hb hd hle ho;obtain ⟨cs',g1,g2,g3,g4⟩:=ZD b us off W cs t hb hle;refine ⟨λj hj=>⟨by simp[World.cell?,hb];omega,by simp[World.frozen?,hb]⟩,?_⟩;exact h.change hg hk hb hd g2 (ZE b us off W) g1 (λi hi hne=>World.heap_setCells_other W b off us hi hne) (World.os_setCells W b off us) (ZF b us off W) (World.output_setCells W b off us) (ho cs' g2 g3 g4)
 unfold Go.Proofs.YthlcppdbldkldaaDoor.Z8 at hs
 split at hs <;> try (simp at hs;done)
 . rename_i k off
   split at hs <;> try (simp at hs;done)
   rename_i cells hg
   split at hs <;> simp only[W00,reduceCtorEq]at hs
   rename_i hle;subst hs;obtain ⟨b,s,h1,-,hv⟩:=hp.ptr_inv;obtain ⟨b',s',h2,h3,h4,h5,cs,t,h6,h7,h8⟩:=h.obj k _ hg;rw[show (st.env R.M κ).loc k=κ k from rfl,h2]at h1;simp only[W00,W06]at h1;obtain ⟨rfl,rfl⟩:=h1;subst h5;have hlen:=hx.1
   obtain ⟨k1,k2⟩:=key (obj':=.box (Z4 cells off xs)) (off:=off) hg h2 h6 rfl (by omega) (λcs' e1 e2 e3=>by
    refine ⟨by rw[ZH hle,e1,h7],rfl,λj x hj=>?_⟩;rw[ZG hle]at hj
    split at hj
    . obtain ⟨u,hu,hr⟩:=h8 j x hj;exact ⟨u,(e2 j (by omega)).trans hu,hr⟩
    . split at hj
      . have hlt:j-off<us.length:=(by omega);refine ⟨us[j-off],?_,hx.2 _ _ _ hj (by simp[hlt])⟩;have:=e3 (j-off) us[j-off] (by simp[hlt])
        rwa [show off+(j-off)=j by omega]at this
      . obtain ⟨u,hu,hr⟩:=h8 j x hj;exact ⟨u,(e2 j (by omega)).trans hu,hr⟩)
   exact ⟨b',off,by rw[hv];simp,k1,k2⟩
 . rename_i k n i off
   split at hs <;> try (simp at hs;done)
   rename_i sz rows hg
   split at hs <;> try (simp at hs;done)
   rename_i hn
   split at hs <;> try (simp at hs;done)
   rename_i r hr
   split at hs <;> simp only[W00,reduceCtorEq]at hs
   rename_i hle;subst hs;obtain ⟨sz',m,p,h1,h2,hv,he⟩:=hp.eptr_inv;simp only[St.env,hg,W1m,AObj.dim,W00,W06]at h1;obtain ⟨rfl,rfl⟩:=h1;obtain ⟨b,s,hl,rfl⟩:=he hn;obtain ⟨b',s',g2,g3,g4,g5,cs,t,g6,g7,g8⟩:=h.obj k _ hg;rw[show (st.env R.M κ).loc k=κ k from rfl,g2]at hl;simp only[W00,W06]at hl;obtain ⟨rfl,rfl⟩:=hl;have hlen:=hx.1;have hi:i<rows.length:=(W02.1 hr).1;have hrl:r.length=sz:=g5 r (W0d hr)
   have hmul:i*sz+sz<=rows.length*sz:=by
    have:=W0I sz (show i+1<=rows.length by omega);rw[W0Z]at this;omega
   obtain ⟨k1,k2⟩:=key (obj':=.row sz (rows.set i (Z4 r off xs))) (off:=s'+i*sz+off) hg g2 g6 (by simp[AObj.dim]) (by omega) (λcs' e1 e2 e3=>by
    refine ⟨λq hq=>?_,by simp;omega,λi2 j r2 x hi2 hj=>?_⟩
    . rcases List.mem_or_eq_of_mem_set hq with hq|rfl
      . exact g5 q hq
      . rw[ZH hle,hrl]
    . rw [W28]at hi2
      split at hi2
      . rename_i e;subst e
        try rw[if_pos hi]at hi2
        simp only[W00]at hi2;subst hi2;rw[ZG hle]at hj
        split at hj
        . obtain ⟨u,hu,hq⟩:=g8 i j r x hr hj;exact ⟨u,(e2 _ (by omega)).trans hu,hq⟩
        . split at hj
          . have hlt:j-off<us.length:=(by omega);refine ⟨us[j-off],?_,hx.2 _ _ _ hj (by simp[hlt])⟩;have:=e3 (j-off) us[j-off] (by simp[hlt])
            rwa [show s'+i*sz+off+(j-off)=s'+i*sz+j by omega]at this
          . obtain ⟨u,hu,hq⟩:=g8 i j r x hr hj;exact ⟨u,(e2 _ (by omega)).trans hu,hq⟩
      . rename_i hne;obtain ⟨u,hu,hq⟩:=g8 i2 j r2 x hi2 hj
        have hj2:j<sz:=by
         have:=(W02.1 hj).1;rw[g5 r2 (W0d hi2)]at this;exact this
        refine ⟨u,(e2 _ ?_).trans hu,hq⟩;rcases Nat.lt_or_gt_of_ne hne with h'|h'
        . have:=W0I sz (show i+1<=i2 by omega);rw[W0Z]at this;omega
        . have:=W0I sz (show i2+1<=i by omega);rw[W0Z]at this;omega)
   exact ⟨b',s'+i*sz+off,by rw[hv],k1,k2⟩
def ZJ (h:SK R st a W κ) {o:Oper} {t:TypeId} {n:Nat} {x w:Operand} {y u:RA} (ho:o.op = .store t x w) (hn:szB P t=some n) (hk:okA x y=true) (hw:okA w u=true)
  {z:AV} {st':St} {d:Nat} (hr:rop R.G st d (.store n y u)=some (z,st')):Sim P R a W o z st':=by
 have h1:=h.ev hk;have h2:=h.ev hw;simp only[rop]at hr
 split at hr <;> simp only[W04,W06,reduceCtorEq]at hr
 rename_i hc;obtain ⟨hlen,hone⟩:=hc;obtain ⟨st2,hs,rfl,rfl⟩:=hr
 have hkn:(evA R.G st u).known=true:=by
  cases e:evA R.G st u <;> simp_all [AV.known,AV.cellsL,AV.one]
 have hcr:=h2.cells hkn;obtain ⟨b,off,hv,ht,g⟩:=h.store h1 hcr hs;have hsz:(a.eval w).cells.size=n:=(by have:=hcr.1;simp at this;omega);refine ⟨Go.undef,_,κ,.inr ⟨?_,rfl⟩,g,.pv .hole⟩
 have hrun:=ZI (P:=P) (v:=a.eval w) (t:=t) (by simpa using ht) (by rw[hn,hsz]) (λx hx=>by
  obtain ⟨i,hi⟩:=W1E hx;have hlt:i<(evA R.G st u).cellsL.length:=(by have:=(W02.1 hi).1;have:=hcr.1;omega);exact (hcr.2 i _ x (W07 hlt) hi).oneCell (W03.1 hone _ (W0e hlt)))
 simp only[execOp,ho,hv,Sem.run_bind,hrun,Result.andThen_ok,Sem.run_pure]
def ZK (l:List Value) (off:Nat):∀ (k:Nat) (cs:Array Value),off+k+l.length<=cs.size ->
  (List.foldl (λ(cs:Array Value) (p:Value×Nat)=>cs.setIfInBounds (off+p.2) p.1) cs (l.zipIdx k)).size=cs.size /\
  ∀ j:Nat,(List.foldl (λ(cs:Array Value) (p:Value×Nat)=>cs.setIfInBounds (off+p.2) p.1) cs (l.zipIdx k))[j]? = if j<off+k then cs[j]? else if j<off+k+l.length then l[j-(off+k)]? else cs[j]?:=by
 induction l with
 |nil=>intro k cs h;exact ⟨rfl,λj=>by by_cases c:j<off+k <;> simp[c]⟩
 | cons v l ih =>
   intro k cs h;simp only[W1n]at h;obtain ⟨h1,h2⟩:=ih (k+1) (cs.setIfInBounds (off+k) v) (by simp;omega);refine ⟨by simpa using h1,λj=>?_⟩;simp only[List.zipIdx_cons,W23];rw[h2 j];simp only[W1n];by_cases c1:j<off+k
   . rw[if_pos (by omega),if_pos c1,W0p,if_neg (by omega)]
   . rw[if_neg c1];by_cases c2:j=off+k
     . subst c2;rw[if_pos (by omega),if_pos (by omega),W0p,if_pos rfl,if_pos (by omega)];simp
     . rw[if_neg (by omega)];by_cases c3:j<off+(k+1)+l.length
       . rw[if_pos c3,if_pos (by omega),show j-(off+k)=(j-(off+(k+1)))+1 by omega,List.getElem?_cons_succ]
       . rw[if_neg c3,if_neg (by omega),W0p,if_neg (by omega)]
def CR.splice {E:Env} {xs ys:List AV} {us vs:Array Value} {off:Nat} (h:CR E W xs us.toList) (k:CR E W ys vs.toList) (hle:off+ys.length<=xs.length) :
  CR E W (Z4 xs off ys) (vs.zipIdx.foldl (λcs (c,j)=>cs.setIfInBounds (off+j) c) us).toList:=by
 have e:vs.zipIdx.foldl (λcs (c,j)=>cs.setIfInBounds (off+j) c) us=List.foldl (λ(cs:Array Value) (p:Value×Nat)=>cs.setIfInBounds (off+p.2) p.1) us (vs.toList.zipIdx 0):=by
  rw[<- Array.foldl_toList,Array.toList_zipIdx]
 have h1:=h.1;have k1:=k.1;simp at h1 k1;obtain ⟨f1,f2⟩:=ZK vs.toList off 0 us (by simp;omega);rw[e];refine ⟨by rw[ZH hle,W1S,f1];exact h1,λi x u hx hu=>?_⟩;rw[W1f,f2 i]at hu;rw[ZG hle]at hx;simp only[W1Q,W1S,W1f]at hu;by_cases c1:i<off
 . rw[if_pos c1]at hx hu;exact h.2 i x u hx (by simpa using hu)
 . rw[if_neg c1]at hx hu;by_cases c2:i<off+ys.length
   . rw[if_pos c2]at hx;rw[if_pos (by omega)]at hu;exact k.2 _ x u hx (by simpa using hu)
   . rw[if_neg c2]at hx;rw[if_neg (by omega)]at hu;exact h.2 i x u hx (by simpa using hu)
def ZL {E:Env} {place:Nat->Option (Nat×Nat)}:∀ (ps:List (Nat×Value)) (qs:List (Nat×Nat×AV)) (us:Array Value) (xs zs:List AV),CR E W xs us.toList ->
  ps.length=qs.length->(∀ (i:Nat) (p:Nat×Value) (q:Nat×Nat×AV),ps[i]? = some p->qs[i]? = some q->place p.1=some (q.1,q.2.1)/\VR E W q.2.2 p.2)->aFill xs qs=some zs ->
  ∃ vs,Instr.fill place us ps=some vs/\CR E W zs vs.toList
 |[],[],us,xs,zs,h,_,_,hf=>by simp only[aFill,W00]at hf;subst hf;exact ⟨us,rfl,h⟩
 |[],_::_,_,_,_,_,hl,_,_=>by simp at hl
 |_::_,[],_,_,_,_,hl,_,_=>by simp at hl
 | (i,v)::ps,(off,n,x)::qs,us,xs,zs,h,hl,hp,hf=>by
   simp only[aFill]at hf
   split at hf <;> try (simp at hf;done)
   rename_i hc;obtain ⟨c1,c2,c3⟩:=hc;obtain ⟨p1,p2⟩:=hp 0 (i,v) (off,n,x) rfl rfl;have hcr:=p2.cells c1;have hv:v.cells.size=n:=(by have:=hcr.1;simp at this;omega);have hu:us.size=xs.length:=(by simpa using h.1);simp only[Instr.fill,p1,hv];rw[if_neg (by simp;omega)];exact ZL ps qs _ _ zs (h.splice hcr (show off+x.cellsL.length<=xs.length by have c4:x.cellsL.length=n:=c2;omega)) (by simpa using hl) (λi p q h1 h2=>hp (i+1) p q (by simpa using h1) (by simpa using h2)) hf
end
end Go.Proofs.YthlcppdbldkldaaDoor
