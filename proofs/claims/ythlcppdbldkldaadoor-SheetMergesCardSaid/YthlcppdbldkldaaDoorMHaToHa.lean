/-
  A list with room: what slices.Grow gives for nil.
-/
import Derived.Test.YthlcppdbldkldaaDoorMAmLToAmXb
import Derived.Test.YthlcppdbldkldaaDoorProg
import Derived.Lib.AppendZeros
set_option linter.all false
set_option maxHeartbeats 8000000
namespace Go.Proofs.YthlcppdbldkldaaDoor
open Tryd (prog)
open IntKind (i64)
open Go.RowKit
def Z6s {P:Program} {o:Oper} {a:Act} {K:Act->World->Prop} {Q:Exit->Act->World->Prop} {r r':Result Next} (h:r=r') (g:Oper.upon P o a K Q r'):Oper.upon P o a K Q r:=by rw[h];exact g
section
variable {G:Jg}
set_option maxRecDepth 100000 in
def Z6t (n:Nat) (h0:0<n) (h1:n<=1000) (W:World):Calls prog 66 #[.slice none 0 0,.int .i64 n] W λe W' =>
  ∃ b s cs t c,e = .returned (.slice (some ⟨b,s,none⟩) 0 c)/\Ext W W'/\W.heap.size<=b/\b<W'.heap.size/\c<=maxLen/\W'.heap[b]? = some (.cells cs t (0,0))/\s+c*5<=cs.size:=by
 have k1:¬(n:Int)<0:=(by omega);have k2:decide ((n:Int)<0)=false:=W0S k1;have k3:decide ((0:Int)<(n:Int))=true:=W0M (by omega);have w0:i64.wrap (n:Int)=n:=by rw[IntKind.wrap_i64];omega
 go_enter Tryd.func66,Tryd.ntmps66
 go_wp2_with fail
 refine Z6s (r':=.ok (.value (.int .i64 0)) W) (by simp[execOp,resolve,invoke,builtin,Builtin.cap_,Sem.run_bind,Act.eval,run_underlying Tryd.underlying22,goInt]) ?_;rw[Oper.upon_value]
 go_wp2_with fail
 refine Z6s (r':=.ok (.value (.int .i64 0)) W) (by simp[execOp,resolve,invoke,builtin,Builtin.cap_,Sem.run_bind,Act.eval,run_underlying Tryd.underlying22,goInt]) ?_;rw[Oper.upon_value];obtain ⟨ie,hie⟩ : ∃ ie,prog.info? 42=some ie:=⟨_,rfl⟩;have hz:ie.zero=some (ie.zero.getD undef):=(by revert hie;rintro ⟨⟩;rfl);have hsz:ie.size=5:=(by revert hie;rintro ⟨⟩;rfl);have hby:ie.bytes=72:=(by revert hie;rintro ⟨⟩;rfl);have hzc:(ie.zero.getD undef).cells.size=5:=(by revert hie;rintro ⟨⟩;rfl);generalize ie.zero.getD undef=zv at *;have hrun:=λty=>Lib.run_append_nil_zeros (P:=prog) W 22 3 ty 42 ie zv .i64 .i64 Tryd.underlying22 Tryd.underlying3 hie hz n h0 (by omega) (by omega) (by rw[hby];omega)
 have hge:=grownCap_ge W n 0 42;have hcm:grownCap W n 0 42<=maxLen:=grownCap_le_maxLen W n 0 42 (by unfold maxLen;omega);generalize grownCap W n 0 42=gc at *
 have hsl:∀ w:World,(Instr.sliceAt 22 (.slice (some ⟨W.heap.size,0,none⟩) n gc) none (some (.int .i64 0)) none).run prog w = .ok (.slice (some ⟨W.heap.size,0,none⟩) 0 gc) w:=λw=>by
  have hg0:¬gc=0:=(by omega);have hbd:=Z15 (P:=prog) (W:=w) (k:=.i64) (n:=0) (y:=gc) (c:=.sliceAcap) (by omega);simp[Instr.sliceAt,Instr.slice,Instr.sliceBounds,Sem.run_bind,run_underlying Tryd.underlying22,sizeOf,typeInfo,hie,Instr.sliceBound,asIntOf,hg0,Addr.add_mid]
 go_wp2_with fail
 refine Z6s (r':=.ok (.value (.slice none 0 0)) W) (by simp[Instr.sliceAt,Instr.slice,Instr.sliceBounds,Sem.run_bind,run_underlying Tryd.underlying22,sizeOf,typeInfo,hie,Instr.sliceBound,asIntOf]) ?_;rw[Oper.upon_value]
 go_wp2_with (at_builtin;refine Lib.wpList_append_run _ rfl _ _ _ _ rfl _ _ rfl rfl _ _ (hrun _) ?_)
 case h_2 hno =>
  exact absurd hzc (by intro h5;cases zv <;> first|exact hno _ rfl|simp[Value.cells]at h5)
 case h_1 cs =>
  refine bodyPost_ret (v:=.slice (some ⟨W.heap.size,0,none⟩) 0 gc) ?_ rfl ⟨W.heap.size,0,(Builtin.zeroCells cs n++Builtin.zeroCells cs (gc-n)),42,gc,rfl,Ext.dr (Ext.al (Ext.refl W)),W0f _,?_,hcm,?_,?_⟩
  . simp[results,Tryd.results66,go_sem]
  . show W.heap.size<(W.heap.push _).size;rw[Array.size_push];exact W2d _
  . show (W.heap.push _)[W.heap.size]? = _;exact Array.getElem?_push_size
  . have hz5:cs.size=5:=hzc;rw[Array.size_append,size_zeroCells,size_zeroCells,hz5,<- W0Z,Nat.add_sub_cancel' hge];omega
def Z6u (n:Nat) (h0:0<n) (h1:n<=1000):PN prog G 66 [.nils,.int .i64 n] 5 []:=by
 refine ⟨by kernel_rfl,?_⟩;intro M W vs _ _ hs hv;obtain ⟨l⟩:=vs
 match l,hs,hv with
 | [x0,x1],_,hv =>
   have q0:x0 = .slice none 0 0:=by
    have p0:=hv 0 _ x0 rfl rfl
    cases p0;rfl
   have q1:x1 = .int .i64 n:=by
    have p1:=hv 1 _ x1 rfl rfl
    cases p1;rfl
   rw[q0,q1];refine (Z6t n h0 h1 W).mono ?_;rintro e W' ⟨b,s,cs,t,c,rfl,hE,hb,hb',hc,hat,hle⟩;exact ⟨b,s,cs,t,c,rfl,hE,hb,hb',W1e _,hc,hat,hle,λE=>⟨λr hr=>absurd hr (W0Q),cs,t,hat,by simp at *;omega,λi j r x hi=>absurd hi (by simp)⟩⟩
end
end Go.Proofs.YthlcppdbldkldaaDoor

