/-
  What the iterator over a drawing's issues yields: the walk.
-/
import Derived.Test.YtjogcghofinemaaGreatDoorJRcWToEc
import Derived.Test.YtjogcghofinemaaGreatDoorJAmLToAmR
import Derived.Test.YtjogcghofinemaaGreatDoorProg
set_option linter.all false
set_option linter.unusedSimpArgs false
set_option linter.unusedVariables false
set_option linter.unusedSectionVars false
namespace Go.Proofs.YtjogcghofinemaaGreatDoor
open Go.RowKit
theorem ZcB {P:Program} {R:Run} {st:St} {a:Act} {W:World} {κ:Nat->Option (Nat×Nat)} {rd:Option Nat} {m:Nat} {ops:Array Oper} {r:ROper} {j l:Nat} {o:Oper} {f y:RA} {K:Act->World->Prop} {Q:Exit->Act->World->Prop}
  (hr:r.op = .callv f [y]) (hf:evA R.G st f = .func (.yield l) [] []) (hw:wants st r.guard=some true) (ho:ops[j]? = some o) (hk:Z1z P R.N ops o r=true) (hκ:SK R st a W κ)
  (hc:∀ u,VR (st.env R.M κ) W (evA R.G st y) u->YieldAt (FW rd) (m-1) P l #[u] W fun
   |.returned v,W'=>K (a.put o.dst v) W'
   |.panicked ch,W'=>Q (.panic ch) a W'
   |.outgrown,_=>LetsOut Q):wpOpIn (FW rd) m P ops Q j K a W:=by
 simp only[Z1z,Bool.and_eq_true,decide_eq_true_eq]at hk;obtain ⟨⟨⟨hd,hdn⟩,hop⟩,hg⟩:=hk;unfold wpOpIn;simp only[ho];rw[if_pos (Z20 hκ hg hw)];rw[hr]at hop;simp only[Z1y,if_true,Z1x]at hop
 split at hop <;> try (simp at hop;done)
 . simp_all
 . simp_all
 . rename_i r0 x xs ats y' ys e1 e2;simp only[Bool.and_eq_true]at hop;simp only[ROp.callv.injEq]at e2;obtain ⟨rfl,rfl⟩:=e2;have hx:=hκ.ev hop.1;rw[hf]at hx;obtain ⟨us,vs,hv1,hv2,hv3⟩:=hx.func_inv
   obtain rfl:us = #[]:=by
    have:=hv2.1;rw[<- Array.toList_inj];exact List.length_eq_zero_iff.1 (by simpa using this)
   obtain rfl:vs = #[]:=by
    have:=hv3.1;rw[<- Array.toList_inj];exact List.length_eq_zero_iff.1 (by simpa using this)
   cases xs with
   |nil=>simp[allB2]at hop
   | cons z xs =>
     cases xs with
     |cons _ _=>simp[allB2]at hop
     | nil =>
       have hz:=hκ.ev (show okA z y=true by simpa [allB2] using hop.2);obtain ⟨fn,tmps,assign,body,h1,h2⟩:=hc _ hz;refine ⟨λ_ _=>trivial,?_⟩;rw[Oper.semAt_eq _ _ _ (λc e=>by rw[e1]at e;cases e)]
       have:(execOp a.eval o).run P W = .ok (.round l fn tmps assign body) W:=by
        rw[<- h1];simp[execOp,e1,resolve,hv1,Deferred.ofValue,invoke,Sem.run_bind]
       rw[this];exact ⟨Z24,h2⟩
def elsOf (r:List Iss) (n:Int):List AV:=(r.filter (λx=>decide (x.d=n))).map (λx=>.agg (isa x))
theorem ZcC {n:Int}:∀ (l:List Iss),(l.map (·.d)).Pairwise (· <= ·)->(∀ x∈l,n<=x.d) ->
  (l.filter (λx=>decide (x.d=n))).length<=l.length/\(∀ i,i<(l.filter (λx=>decide (x.d=n))).length->(l.filter (λx=>decide (x.d=n)))[i]? = l[i]? /\ ∀ x,l[i]? = some x->x.d=n) /\
   ∀ x,l[(l.filter (λx=>decide (x.d=n))).length]? = some x->x.d≠n
 |[],_,_=>by simp
 | y :: l,hs,hg=>by
   simp only[List.map_cons,List.pairwise_cons]at hs;obtain ⟨h1,h2,h3⟩:=ZcC l hs.2 λx hx=>hg x (List.mem_cons_of_mem _ hx)
   by_cases hy:y.d=n
   . have e:(y::l).filter (λx=>decide (x.d=n))=y::l.filter (λx=>decide (x.d=n)):=(by simp[hy]);rw[e];refine ⟨by simpa using h1,λi hi=>?_,λx hx=>h3 x (by simpa using hx)⟩
     cases i with
     |zero=>exact ⟨rfl,λx hx=>by simp at hx;subst hx;exact hy⟩
     |succ i=>exact ⟨by simpa using (h2 i (by simpa using hi)).1,λx hx=>(h2 i (by simpa using hi)).2 x (by simpa using hx)⟩
   . have gt:n<y.d:=by have:=hg y (List.mem_cons_self ..);omega
     have e:(y::l).filter (λx=>decide (x.d=n))=[]:=by
      rw[List.filter_eq_nil_iff];intro x hx;rcases List.mem_cons.1 hx with rfl|hx
      . simpa using hy
      . have:=hs.1 x.d (List.mem_map.2 ⟨x,hx,rfl⟩);simp;omega
     rw[e];refine ⟨by simp,by simp,λx hx=>?_⟩;simp at hx;subst hx;exact hy
theorem ZcD {r:List Iss} {n:Int} (hs:(r.map (·.d)).Pairwise (· <= ·)):∃ cnt,cnt=(r.filter (λx=>decide (x.d=n))).length/\cnt<=(r.drop (lowB (r.map (·.d)) n)).length /\
  (∀ i,i<cnt->(r.filter (λx=>decide (x.d=n)))[i]? = (r.drop (lowB (r.map (·.d)) n))[i]? /\ ∀ x,(r.drop (lowB (r.map (·.d)) n))[i]? = some x->x.d=n)/\(∀ x,(r.drop (lowB (r.map (·.d)) n))[cnt]? = some x->x.d≠n):=by
 have e:r.filter (λx=>decide (x.d=n))=(r.drop (lowB (r.map (·.d)) n)).filter (λx=>decide (x.d=n)):=by
  conv=>lhs;rw[<- List.take_append_drop (lowB (r.map (·.d)) n) r]
  rw[List.filter_append]
  have:(r.take (lowB (r.map (·.d)) n)).filter (λx=>decide (x.d=n))=[]:=by
   rw[List.filter_eq_nil_iff];intro x hx;obtain ⟨i,hi,rfl⟩:=List.getElem_of_mem hx;simp only[List.length_take]at hi;have:=(Zck hs n i (by simp;omega)).1 (by omega);simp only[List.getElem_map]at this;simp only[List.getElem_take];simp;omega
  rw[this,List.nil_append]
 refine ⟨_,rfl,?_⟩;rw[e];refine ZcC _ ?_ λx hx=>?_
 . rw[List.map_drop];exact hs.sublist (List.drop_sublist _ _)
 . obtain ⟨i,hi,rfl⟩:=List.getElem_of_mem hx;simp only[List.length_drop]at hi;have q:=Zck hs n (lowB (r.map (·.d)) n+i) (by simp;omega);simp only[List.getElem_map]at q;simp only[List.getElem_drop];by_cases h:r[lowB (r.map (·.d)) n+i].d<n
   . have:=q.2 h;omega
   . omega
section
variable {G:Nat->Option (List AV)}
theorem ZcE (a b:Int):PC Tryz.prog G 114 [.int .i64 a,.int .i64 b] (.int .i64 (if a<b then -1 else if b<a then 1 else 0)):=by
 (refine Z9W rfl λR hG hrd=>Qga ?_;subst hG)
 by_cases h1:a<b
 . simp -implicitDefEqProofs[Z9U,Z9V];refine Qco (Zco a) (by simp) ?_;simp -implicitDefEqProofs[];refine Qco (Zco b) (by simp) ?_;simp -implicitDefEqProofs[h1]
 . by_cases h2:b<a
   . simp -implicitDefEqProofs[Z9U,Z9V];refine Qco (Zco a) (by simp) ?_;simp -implicitDefEqProofs[];refine Qco (Zco b) (by simp) ?_;simp -implicitDefEqProofs[h1,h2]
   . simp -implicitDefEqProofs[Z9U,Z9V];refine Qco (Zco a) (by simp) ?_;simp -implicitDefEqProofs[];refine Qco (Zco b) (by simp) ?_;simp -implicitDefEqProofs[h1,h2]
theorem ZcF (x:Iss) (n:Int):PC Tryz.prog G 160 [.agg (isa x),.int .i64 n] (.int .i64 (if x.d<n then -1 else if n<x.d then 1 else 0)):=by
 (refine Za5 rfl λR hG hrd=>Qga ?_;subst hG)
 simp -implicitDefEqProofs[Za3,Za4,isa];refine Qco (ZcE _ _) (by simp) ?_;simp -implicitDefEqProofs[]
theorem ZcG (r:List Iss) (n:Int) (hs:(r.map (·.d)).Pairwise (· <= ·)) (hl:Sml r):∃ b,PC Tryz.prog G 159 [.vsl (r.map isa),.int .i64 n,.func (.func 160) [] []] (.tup [.int .i64 (lowB (r.map (·.d)) n),.bool b]):=by
 have hle:=Zcj (r.map (·.d)) n;simp only[List.length_map]at hle;refine ⟨if h:lowB (r.map (·.d)) n<r.length then decide ((if r[lowB (r.map (·.d)) n].d<n then (-1:Int) else if n<r[lowB (r.map (·.d)) n].d then 1 else 0)=0) else false,?_⟩
 (refine Z9Z rfl λR hG hrd=>Qga ?_;subst hG)
 unfold Sml at hl;simp -implicitDefEqProofs[Z9X,Z9Y];refine Z1Q (λp:Nat×Nat=>⟨[(10,.int .i64 p.2),(9,.int .i64 p.1),(8,.int .i64 r.length),(0,.vsl (r.map isa)),(1,.int .i64 n),(2,.func (.func 160) [] [])],[]⟩) (λp=>p.1<=lowB (r.map (·.d)) n/\lowB (r.map (·.d)) n<=p.2/\p.2<=r.length) (λp=>p.2-p.1) (0,r.length) (by (first|exact Yn.tm (by simp[lk])|exact Yn.sub (by simp[lk,Ya,AV.keys]) (by simp[lk,Yd,Ya,AV.keys]))) ⟨by omega,hle,Nat.le_refl _⟩ ?_;rintro ⟨lo,hi⟩ ⟨h1,h2,h3⟩;simp only at h1 h2 h3;refine Qga ?_;by_cases h4:lo<hi
 . obtain ⟨m,hm⟩ : ∃ m,m=(lo+hi) / 2:=⟨_,rfl⟩;have hw:=Zcn (i:=lo) (j:=hi) (by omega);rw[<- hm]at hw;have m1:m<r.length:=(by omega);have w1:IntKind.i64.wrap ((m:Int)+1)=((m+1:Nat):Int):=Yg (by omega) (by omega);have hb:=Zck hs n m (by simpa using m1);simp only[List.getElem_map]at hb;by_cases h5:r[m].d<n
   . have c1:(-1:Int)<0:=(by omega);simp -implicitDefEqProofs[h4,hw,m1,isa];refine Qco (ZcF r[m] n) (by simp) ?_;simp -implicitDefEqProofs[h5,w1];exact ⟨(m+1,hi),(by (first|exact Yn.tm (by simp[lk])|exact Yn.sub (by simp[lk,Ya,AV.keys]) (by simp[lk,Yd,Ya,AV.keys]))),⟨by have:=hb.2 h5;show m+1<=_;omega,h2,h3⟩,by show hi-(m+1)<hi-lo;omega⟩
   . simp -implicitDefEqProofs[h4,hw,m1,isa];refine Qco (ZcF r[m] n) (by simp) ?_;by_cases h6:n<r[m].d
     . simp -implicitDefEqProofs[h5,h6];exact ⟨(lo,m),(by (first|exact Yn.tm (by simp[lk])|exact Yn.sub (by simp[lk,Ya,AV.keys]) (by simp[lk,Yd,Ya,AV.keys]))),⟨h1,by have:¬m<lowB (r.map (·.d)) n:=λh=>h5 (hb.1 h);show _<=m;omega,by show m<=_;omega⟩,by show m-lo<hi-lo;omega⟩
     . simp -implicitDefEqProofs[h5,h6];exact ⟨(lo,m),(by (first|exact Yn.tm (by simp[lk])|exact Yn.sub (by simp[lk,Ya,AV.keys]) (by simp[lk,Yd,Ya,AV.keys]))),⟨h1,by have:¬m<lowB (r.map (·.d)) n:=λh=>h5 (hb.1 h);show _<=m;omega,by show m<=_;omega⟩,by show m-lo<hi-lo;omega⟩
 . obtain rfl:lo=lowB (r.map (·.d)) n:=(by omega);by_cases h5:lowB (r.map (·.d)) n<r.length
   . simp -implicitDefEqProofs[h4];refine Qgr ?_;simp -implicitDefEqProofs[h5,isa];refine Qco (ZcF r[lowB (r.map (·.d)) n] n) (by simp) ?_;simp -implicitDefEqProofs[]
   . simp -implicitDefEqProofs[h4];refine Qgr ?_;simp -implicitDefEqProofs[h5]
def issA:RCode->RCode
 |.seq a _=>a
 |c=>c
def ZcH:RCode->RCode
 |.seq _ b=>b
 |c=>c
def issB1 (c:RCode):RCode:=issA (ZcH c)
def issB2 (c:RCode):RCode:=ZcH (ZcH c)
def issB3 (c:RCode):RCode:=match issB2 c with
 |.block _ b=>b
 |c=>c
def issL (c:RCode):RCode:=match issB3 c with
 |.loop b=>b
 |c=>c
def issBk:RCode->RCode
 |.block _ b=>b
 |c=>c
def ZcI:RCode->List ROper
 |.reg _ _ l=>l
 |_=>[]
def itS (seg:List Iss) (bk:AV) (n:Int) (l i:Nat):List (Nat×AV) :=
 [(26,.int .i64 i),(25,.int .i64 seg.length),(24,.vsl (seg.map isa)),(2,.vptr [.int .i64 n] 0),(1,.vptr [bk] 0),(0,.func (.yield l) [] [])]
theorem ZcJ (r:List Iss) (n:Int) (ds:AV) (hs:(r.map (·.d)).Pairwise (· <= ·)) (hl:Sml r):IterP Tryz.prog 158 [.vptr [.vptr [.vsl (r.map isa),ds] 0] 0,.vptr [.int .i64 n] 0] (elsOf r n):=by
 refine ⟨by kernel_rfl,?_⟩;intro n' l lb J K M W hn hJe hKe hJM hC hY h0;obtain ⟨cnt,hcnt,hc1,hc2,hc3⟩:=ZcD (n:=n) hs;generalize hseg:r.drop (lowB (r.map (·.d)) n)=seg at hc1 hc2 hc3;have hsl:seg.length<=16777216:=(by rw[<- hseg];simp;unfold Sml at hl;omega);have hle:=Zcj (r.map (·.d)) n;simp only[List.length_map]at hle;unfold Sml at hl;have hel:(elsOf r n).length=cnt:=(by rw[hcnt];simp[elsOf]);obtain ⟨c,hc,hok⟩ : ∃ c,Tryz.f158.body=some c/\Z1A Tryz.prog Tryz.f158.ntmps c Zcs=true:=⟨_,rfl,by kernel_rfl⟩;obtain ⟨N,hN⟩ : ∃ N,N=Tryz.f158.ntmps:=⟨_,rfl⟩;have hN3:3<=N:=(by rw[hN];decide);rw[<- hN]at hok;refine callsIn_of_wp (F:=Fence.wide) Tryz.func158 hc trivial ?_ rfl
 have hres:∀ (tm:Array Value) (W':World),(results Tryz.f158 tm).run Tryz.prog W' = .ok (.tuple #[]) W':=λtm W'=>by
  have e:Tryz.f158.results = #[]:=rfl;simp[results,e,Sem.run_bind]
 obtain ⟨Q,hQ⟩ : ∃ Q,Q=bodyPost Tryz.prog Tryz.f158 (λe W'=>(∃ v,e = .returned v)/\((∃ M,J (elsOf r n).length M W')∨K W')):=⟨_,rfl⟩
 have hfin:∀ (a:Act) (W':World),a.defers=[]->((∃ M,J (elsOf r n).length M W')∨K W')->Q .ret a W'/\Q .normal a W':=λa W' hd h=>by
  rw[hQ];exact ⟨⟨hd,_,hres _ _,⟨_,rfl⟩,h⟩,⟨hd,_,hres _ _,⟨_,rfl⟩,h⟩⟩
 rw[<- hQ];have hwide:Fence.wide=FW none:=rfl;rw[hwide];obtain ⟨cA,c1,rfl,okA',ok1⟩:=Zct (a:=issA Zcs) (b:=ZcH Zcs) hok;obtain ⟨cB,c2,rfl,okB',ok2⟩:=Zct (a:=issB1 Zcs) (b:=issB2 Zcs) ok1;obtain ⟨c3,rfl,ok3⟩:=Zcu (id:=0) (a:=issB3 Zcs) ok2;obtain ⟨c4,rfl,ok4⟩:=Zcv (a:=issL Zcs) ok3
 have hbk:∃ v1 v2,lb = #[v1,v2]/\PV M W (.vptr [.vptr [.vsl (r.map isa),ds] 0] 0) v1/\PV M W (.vptr [.int .i64 n] 0) v2:=by
  obtain ⟨h1,h2⟩:=hC
  match lb,h1,h2 with
  | ⟨[v1,v2]⟩,_,h2=>exact ⟨v1,v2,rfl,h2 0 _ v1 rfl rfl,h2 1 _ v2 rfl rfl⟩
 obtain ⟨v1,v2,rfl,hv1,hv2⟩:=hbk;obtain ⟨bk,hbk⟩ : ∃ bk,bk=AV.vptr [.vsl (r.map isa),ds] 0:=⟨_,rfl⟩;rw[<- hbk]at hv1
 have start:SR (Zcy M W N none) ⟨[(2,.vptr [.int .i64 n] 0),(1,.vptr [bk] 0),(0,.func (.yield l) [] [])],[]⟩ { tmps:=(#[.func (.yield l) #[] #[]] ++ #[v1,v2]:Array Value)++Array.replicate (N-3) Go.undef,defers:=[] } W:=by
  refine Zcz (hJM 0 M W h0) rfl (by simp;omega) λk x hx=>?_
  have g0:((#[.func (.yield l) #[] #[]] ++ #[v1,v2]:Array Value)++Array.replicate (N-3) Go.undef).getD 0 Go.undef = .func (.yield l) #[] #[]:=(by simp[Array.getD]);have g1:((#[.func (.yield l) #[] #[]] ++ #[v1,v2]:Array Value)++Array.replicate (N-3) Go.undef).getD 1 Go.undef=v1:=(by simp[Array.getD];omega);have g2:((#[.func (.yield l) #[] #[]] ++ #[v1,v2]:Array Value)++Array.replicate (N-3) Go.undef).getD 2 Go.undef=v2:=(by simp[Array.getD];omega);simp only[lk]at hx
  split at hx
  . rename_i e;subst e;cases hx;rw[g2];exact hv2
  . split at hx
    . rename_i e;subst e;cases hx;rw[g1];exact hv1
    . split at hx
      . rename_i e;subst e;cases hx;rw[g0];exact .func _ [] [] #[] #[] rfl rfl (by simp) (by simp)
      . cases hx
 have hact:({ tmps:=(#[.func (.yield l) #[] #[]] ++ #[v1,v2]:Array Value)++Array.replicate (Tryz.f158.ntmps-(#[.func (.yield l) #[] #[]] ++ #[v1,v2]:Array Value).size) Go.undef,defers:=[] }:Act)={ tmps:=(#[.func (.yield l) #[] #[]] ++ #[v1,v2]:Array Value)++Array.replicate (N-3) Go.undef,defers:=[] }:=(by rw[hN];rfl);rw[hact]
 have arA:AR Tryz.prog (Zcy M W N none) (issA Zcs) ⟨[(2,.vptr [.int .i64 n] 0),(1,.vptr [bk] 0),(0,.func (.yield l) [] [])],[]⟩ (λe s=>e = .normal/\Yn s ⟨[(4,.int .i64 (lowB (r.map (·.d)) n)),(2,.vptr [.int .i64 n] 0),(1,.vptr [bk] 0),(0,.func (.yield l) [] [])],[]⟩):=by
  obtain ⟨b,hb⟩:=ZcG (G:=λ_=>none) r n hs hl;refine Qga ?_;simp -implicitDefEqProofs[issA,Zcs,hbk];refine Yf.of hb (by simp[AV.pure]) ?_;simp -implicitDefEqProofs[];exact ⟨rfl,(by (first|exact Yn.tm (by simp[lk])|exact Yn.sub (by simp[lk,Ya,AV.keys]) (by simp[lk,Yd,Ya,AV.keys])))⟩
 have hdr:List.drop (lowB (r.map (·.d)) n) (r.map isa)=seg.map isa:=(by rw[<- List.map_drop,hseg]);have hsg:seg.length=r.length-lowB (r.map (·.d)) n:=(by rw[<- hseg];simp);have htk:List.take r.length (r.map isa)=r.map isa:=List.take_of_length_le (by simp);have k5:(r.map isa).all (λr=>r.length == 5)=true:=by simp[isa]
 have arB:∀ R':Run,AR Tryz.prog R' (issB1 Zcs) ⟨[(4,.int .i64 (lowB (r.map (·.d)) n)),(2,.vptr [.int .i64 n] 0),(1,.vptr [bk] 0),(0,.func (.yield l) [] [])],[]⟩ (λe s=>e = .normal/\Yn s ⟨itS seg bk n l 0,[]⟩):=λR'=>by
  refine Qga ?_;simp -implicitDefEqProofs[issA,issB1,ZcH,Zcs,hbk,hle,k5,hdr];exact (by (first|exact Yn.tm (by simp[lk,itS,hsg,htk,hdr])|exact Yn.sub (by simp[lk,Ya,AV.keys,itS,hsg,htk,hdr]) (by simp[lk,Yd,Ya,AV.keys,itS,hsg,htk,hdr])))
 refine wpIn_seq (wpIn_mono (arA cA okA' _ _ W start) ?_);rintro e a1 W1 ⟨s1,⟨rfl,hw1⟩,hs1⟩;refine wpIn_seq (wpIn_mono (arB _ cB okB' _ a1 W1 (hw1 _ _ _ hs1)) ?_);rintro e a2 W2 ⟨s2,⟨rfl,hw2⟩,hs2⟩;obtain ⟨d2,n2,t2,e2⟩:=ZcA hs2 hw2 (by simp[itS,AV.pure,hbk]);have hJ2:=hJe _ _ _ _ h0 e2;clear hs2 hw2 hs1 hw1 arA arB start hact;refine wpIn_block ?_;refine wpIn_loop_ghost (λm a A=>∃ i M,i<=cnt/\m=seg.length-i/\J i M A/\a.defers=[]/\a.tmps.size=N/\TT' M A (itS seg bk n l i) a) seg.length ⟨0,M,Nat.zero_le _,by simp,hJ2,d2,n2,t2⟩ ?_;clear hJ2 d2 n2 t2 e2 h0 hv1 hv2 hC;rintro m a A ⟨i,M,hi,rfl,hJ,hd,hn2,ht⟩;have hfr:SR (Zcy M A N none) ⟨itS seg bk n l i,[]⟩ a A:=Zcz (hJM i M A hJ) hd hn2 ht;by_cases hlt:i<seg.length
 case neg =>
  have hic:i=cnt:=(by omega);subst hic
  have ar:∀ R':Run,AR Tryz.prog R' (issL Zcs) ⟨itS seg bk n l i,[]⟩ (λe s=>e = .exit 0/\Yn s ⟨[],[]⟩):=λR'=>by
   refine Qga ?_;simp -implicitDefEqProofs[issL,issB3,issB2,ZcH,Zcs,itS,hlt];exact (by (first|exact Yn.tm (by simp[lk])|exact Yn.sub (by simp[lk,Ya,AV.keys]) (by simp[lk,Yd,Ya,AV.keys])))
  refine wpIn_mono (ar _ c4 ok4 _ a A hfr) ?_;rintro e a3 A3 ⟨s3,⟨rfl,hw3⟩,hs3⟩;obtain ⟨d3,-,-,e3⟩:=ZcA hs3 hw3 (by simp);refine (hfin a3 A3 d3 (.inl ⟨M,?_⟩)).2;rw[hel];exact hJe _ _ _ _ hJ e3
 by_cases hd2:seg[i].d=n
 case neg =>
  have hic:i=cnt:=by
   by_cases e:i<cnt
   . exact absurd ((hc2 i e).2 _ (List.getElem?_eq_getElem hlt)) hd2
   . omega
  subst hic
  have ar:∀ R':Run,AR Tryz.prog R' (issL Zcs) ⟨itS seg bk n l i,[]⟩ (λe s=>e = .ret/\Yn s ⟨[],[]⟩):=λR'=>by
   refine Qga ?_;simp -implicitDefEqProofs[issL,issB3,issB2,ZcH,Zcs,itS,hlt,isa,hd2];exact (by (first|exact Yn.tm (by simp[lk])|exact Yn.sub (by simp[lk,Ya,AV.keys]) (by simp[lk,Yd,Ya,AV.keys])))
  refine wpIn_mono (ar _ c4 ok4 _ a A hfr) ?_;rintro e a3 A3 ⟨s3,⟨rfl,hw3⟩,hs3⟩;obtain ⟨d3,-,-,e3⟩:=ZcA hs3 hw3 (by simp);refine (hfin a3 A3 d3 (.inl ⟨M,?_⟩)).1;rw[hel];exact hJe _ _ _ _ hJ e3
 have hic:i<cnt:=by
  by_cases e:i<cnt
  . exact e
  . exact absurd hd2 (hc3 _ (by rw[show cnt=i by omega];exact List.getElem?_eq_getElem hlt))
 have helt:(elsOf r n)[i]? = some (.agg (isa seg[i])):=by
  simp only[elsOf,List.getElem?_map,(hc2 i hic).1,List.getElem?_eq_getElem hlt,Option.map_some]
 obtain ⟨L,hL⟩ : ∃ L,L=issL Zcs:=⟨_,rfl⟩;obtain ⟨r2,q1,rfl,okr2,okq1⟩:=Zct (a:=issA (issL Zcs)) (b:=ZcH (issL Zcs)) ok4;obtain ⟨k1,q2,rfl,okk1,okq2⟩:=Zct (a:=issA (ZcH (issL Zcs))) (b:=ZcH (ZcH (issL Zcs))) okq1;obtain ⟨q3,r5,rfl,okq3,okr5⟩:=Zct (a:=issA (ZcH (ZcH (issL Zcs)))) (b:=ZcH (ZcH (ZcH (issL Zcs)))) okq2;obtain ⟨q4,rfl,okq4⟩:=Zcu (id:=1) (a:=issBk (issA (ZcH (ZcH (issL Zcs))))) okq3;obtain ⟨r3,q5,rfl,okr3,okq5⟩:=Zct (a:=issA (issBk (issA (ZcH (ZcH (issL Zcs)))))) (b:=ZcH (issBk (issA (ZcH (ZcH (issL Zcs)))))) okq4;obtain ⟨r4,k2,rfl,okr4,okk2⟩:=Zct (a:=issA (ZcH (issBk (issA (ZcH (ZcH (issL Zcs))))))) (b:=ZcH (ZcH (issBk (issA (ZcH (ZcH (issL Zcs))))))) okq5;obtain ⟨ops,rfl,hops⟩:=Zcw (id:=4) (rs:=ZcI (issA (ZcH (issBk (issA (ZcH (ZcH (issL Zcs)))))))) okr4;obtain ⟨hol,hoo⟩:=Zc hops;have hol:ops.size=10:=hol
 have ar2:AR Tryz.prog (Zcy M A N none) (issA (issL Zcs)) ⟨itS seg bk n l i,[]⟩ (λe s=>e = .normal/\Yn s ⟨(27,.bool true)::itS seg bk n l i,[]⟩):=by
  refine Qga ?_;simp -implicitDefEqProofs[issL,issB3,issB2,issA,ZcH,Zcs,itS,hlt];exact (by (first|exact Yn.tm (by simp[lk])|exact Yn.sub (by simp[lk,Ya,AV.keys]) (by simp[lk,Yd,Ya,AV.keys])))
 refine wpIn_seq (wpIn_mono (ar2 r2 okr2 _ a A hfr) ?_);rintro e b1 B1 ⟨s1,⟨rfl,w1⟩,hs1⟩
 have ark:AR Tryz.prog (Zcy M A N none) (issA (ZcH (issL Zcs))) ⟨(27,.bool true)::itS seg bk n l i,[]⟩ (λe s=>e = .normal/\Yn s ⟨itS seg bk n l i,[]⟩):=by
  refine Qga ?_;simp -implicitDefEqProofs[issL,issB3,issB2,issA,ZcH,Zcs,itS];exact (by (first|exact Yn.tm (by simp[lk])|exact Yn.sub (by simp[lk,Ya,AV.keys]) (by simp[lk,Yd,Ya,AV.keys])))
 refine wpIn_seq (wpIn_mono (ark k1 okk1 _ b1 B1 (w1 _ _ _ hs1)) ?_);rintro e b2 B2 ⟨s2,⟨rfl,w2⟩,hs2⟩;refine wpIn_seq (wpIn_block ?_)
 have ar3:AR Tryz.prog (Zcy M A N none) (issA (issBk (issA (ZcH (ZcH (issL Zcs)))))) ⟨itS seg bk n l i,[]⟩ (λe s=>e = .normal/\Yn s ⟨(7,.ptr 7 0)::itS seg bk n l i,[(7,.box (isa seg[i]))]⟩):=by
  refine Qga ?_;simp -implicitDefEqProofs[issL,issB3,issB2,issA,ZcH,issBk,Zcs,itS,hlt,isa];exact (by (first|exact Yn.tm (by simp[lk])|exact Yn.sub (by simp[lk,Ya,AV.keys]) (by simp[lk,Yd,Ya,AV.keys])))
 refine wpIn_seq (wpIn_mono (ar3 r3 okr3 _ b2 B2 (w2 _ _ _ hs2)) ?_);rintro e b3 B3 ⟨s3,⟨rfl,w3⟩,hs3⟩;have hs3:=w3 _ _ _ hs3;clear hs1 hs2 w1 w2 w3 ar2 ark ar3;refine wpIn_seq (wpIn_region ?_);have hrg:List.range ops.size=[0,1,2,3,4,5,6]++[7,8,9]:=(by rw[hol];rfl);rw[hrg]
 have okAt:∀ (k:Nat) (r:ROper),(ZcI (issA (ZcH (issBk (issA (ZcH (ZcH (issL Zcs))))))))[k]? = some r->∃ o,ops[k]? = some o/\Z1z Tryz.prog N ops o r=true:=λk r hk=>by
  have hlt:k<ops.size:=by
   have:=(List.getElem?_eq_some_iff.1 hk).1;rw[hol];exact this
  exact ⟨ops[k],by simp[hlt],hoo k _ r (by simp[hlt]) hk⟩
 refine Zcx (R:=Zcy M A N none) [7,8,9] _ ((ZcI (issA (ZcH (issBk (issA (ZcH (ZcH (issL Zcs)))))))).take 7) ⟨(7,.ptr 7 0)::itS seg bk n l i,[(7,.box (isa seg[i]))]⟩
  (λs=>Yn s ⟨(36,.agg (isa seg[i]))::(35,.func (.yield l) [] [])::(34,.bool false)::itS seg bk n l i,[]⟩) b3 B3 ?_ rfl ?_ ?_ hs3
 . intro k r hk;rw[List.getElem?_take]at hk
   split at hk
   . rename_i h7;obtain ⟨o,h1,h2⟩:=okAt k r hk;refine ⟨k,o,?_,h1,h2⟩
     match k,h7 with
     |0,_|1,_|2,_|3,_|4,_|5,_|6,_=>rfl
   . cases hk
 . intro s4 b4 B4 w4 hs4;obtain ⟨κ4,hk4⟩:=w4 _ _ _ hs4;obtain ⟨d4,n4,t4,e4⟩:=ZcA hs4 w4 (by simp[itS,AV.pure,hbk,isa]);obtain ⟨o7,ho7,hk7⟩:=okAt 7 _ rfl;rw[wpOpsIn_cons];refine ZcB (R:=Zcy M A N none) (l:=l) (f:=.t 35) (y:=.t 36) rfl (by simp[evA,St.tmp,lk]) (by simp[wants,St.tmp,lk]) ho7 hk7 hk4 λu hu=>?_
   have hpu:PV M B4 (.agg (isa seg[i])) u:=by
    have h36:evA (Zcy M A N none).G ⟨(36,.agg (isa seg[i]))::(35,.func (.yield l) [] [])::(34,.bool false)::itS seg bk n l i,[]⟩ (.t 36) = .agg (isa seg[i]):=(by simp[evA,St.tmp,lk]);rw[h36]at hu;exact (hu.toPV (by simp[AV.pure,isa])).mono (λb _ hb=>⟨λh=>hb (.inl h),rfl⟩) (Nat.le_refl _)
   have hdst:o7.dst=some 37:=by
    simp only[Z1z,Bool.and_eq_true,decide_eq_true_eq]at hk7;exact hk7.1.1.1
   have h34:b4.tmps.getD 34 Go.undef = .bool false:=by
    have:=t4 34 (.bool false) (by simp[lk]);generalize b4.tmps.getD 34 Go.undef=v at this
    cases this;rfl
   have suffix:∀ (b:Bool) (T:List (Nat×AV)) (M':Nat->Prop) (A':World),(T=itS seg bk n l i∨T=[])->(∀ x,M' x->x<A'.heap.size)->TT' M' A' T b4->∀ (Qx:Exit->Act->World->Prop),
     (∀ a5 A5,SR (Zcy M' A' N none) ⟨(39,.bool (!b))::T,[]⟩ a5 A5->Qx .normal a5 A5)->wpOpsIn (FW none) n' Tryz.prog ops Qx [8,9] (b4.put (some 37) (.bool b)) A':=by
    intro b T M' A' hTT hM' hT Qx hQx;have n37:37<N:=by rw[hN];decide
    have hsr:SR (Zcy M' A' N none) ⟨(37,.bool b)::(34,.bool false)::T,[]⟩ (b4.put (some 37) (.bool b)) A':=by
     refine Zcz hM' d4 (by simpa [Act.put] using n4) λk x hx=>?_
     show PV M' A' x ((b4.tmps.setIfInBounds 37 (.bool b)).getD k Go.undef);simp only[lk]at hx
     split at hx
     . rename_i e;subst e
       cases hx
       have:(b4.tmps.setIfInBounds 37 (.bool b)).getD 37 Go.undef = .bool b:=(by simp[Array.getD,n4,n37]);rw[this];exact .bool b
     . rename_i e
       have h3:(b4.tmps.setIfInBounds 37 (.bool b)).getD k Go.undef=b4.tmps.getD k Go.undef:=by
        simp only[Array.getD_eq_getD_getElem?,Array.getElem?_setIfInBounds,if_neg e]
       rw[h3]
       split at hx
       . rename_i e2;subst e2;cases hx;rw[h34];exact .bool false
       . exact hT k x hx
    refine Z27 (R:=Zcy M' A' N none) [8,9] ((ZcI (issA (ZcH (issBk (issA (ZcH (ZcH (issL Zcs)))))))).drop 8) ⟨(37,.bool b)::(34,.bool false)::T,[]⟩
     (λe s=>e = .normal/\Yn s ⟨(39,.bool (!b))::T,[]⟩) Qx _ A' ?_ rfl ?_ ?_ hsr
    . intro k r hk;rw[List.getElem?_drop]at hk;obtain ⟨o,h1,h2⟩:=okAt (8+k) r hk
      have h7:k<2:=by
       have:=(List.getElem?_eq_some_iff.1 hk).1;have e:(ZcI (issA (ZcH (issBk (issA (ZcH (ZcH (issL Zcs)))))))).length=10:=rfl;omega
      refine ⟨8+k,o,?_,h1,h2⟩
      match k,h7 with
      |0,_|1,_=>rfl
    . rintro e s5 a5 A5 ⟨rfl,w5⟩ hs5;exact hQx a5 A5 (w5 _ _ _ hs5)
    . rcases hTT with rfl|rfl <;> cases b
      all_goals
       simp -implicitDefEqProofs[issL,issB3,issB2,issA,ZcH,issBk,ZcI,Zcs,itS];exact (by (first|exact Yn.tm (by simp[lk])|exact Yn.sub (by simp[lk,Ya,AV.keys]) (by simp[lk,Yd,Ya,AV.keys])))
   obtain ⟨fn,tm,asg,bo,y1,y2⟩:=hY i _ u M B4 (hJe _ _ _ _ hJ e4) helt hpu;refine ⟨fn,tm,asg,bo,y1,y2.mono ?_⟩;rintro e A' (⟨rfl,M',hJ',hSi⟩ | ⟨rfl,hK'⟩)
   . show wpOpsIn (FW none) n' Tryz.prog ops _ [8,9] (b4.put o7.dst (.bool true)) A';rw[hdst]
     have hT':TT' M' A' (itS seg bk n l i) b4:=λk x hx=>by
      refine (t4 k x ?_).mono hSi.2 hSi.1;simp only[lk];rw[if_neg (by rintro rfl;simp[itS,lk]at hx),if_neg (by rintro rfl;simp[itS,lk]at hx),if_neg (by rintro rfl;simp[itS,lk]at hx)];exact hx
     refine suffix true _ M' A' (.inl rfl) (hJM _ _ _ hJ') hT' _ λa5 A5 h5=>?_
     have ark2:AR Tryz.prog (Zcy M' A' N none) (ZcH (ZcH (issBk (issA (ZcH (ZcH (issL Zcs))))))) ⟨(39,.bool (!true))::itS seg bk n l i,[]⟩ (λe s=>e = .normal/\Yn s ⟨itS seg bk n l i,[]⟩):=by
      refine Qga ?_;simp -implicitDefEqProofs[issL,issB3,issB2,issA,ZcH,issBk,Zcs,itS];exact (by (first|exact Yn.tm (by simp[lk])|exact Yn.sub (by simp[lk,Ya,AV.keys]) (by simp[lk,Yd,Ya,AV.keys])))
     refine wpIn_mono (ark2 k2 okk2 _ a5 A5 h5) ?_;rintro e b6 B6 ⟨s6,⟨rfl,w6⟩,hs6⟩
     have ar5:AR Tryz.prog (Zcy M' A' N none) (ZcH (ZcH (ZcH (issL Zcs)))) ⟨itS seg bk n l i,[]⟩ (λe s=>e = .normal/\Yn s ⟨itS seg bk n l (i+1),[]⟩):=by
      have w1:IntKind.i64.wrap ((i:Int)+1)=((i+1:Nat):Int):=Yg (by omega) (by omega);refine Qga ?_;simp -implicitDefEqProofs[issL,issB3,issB2,issA,ZcH,issBk,Zcs,itS,w1];exact (by (first|exact Yn.tm (by simp[lk])|exact Yn.sub (by simp[lk,Ya,AV.keys]) (by simp[lk,Yd,Ya,AV.keys])))
     refine wpIn_mono (ar5 r5 okr5 _ b6 B6 (w6 _ _ _ hs6)) ?_;rintro e b7 B7 ⟨s7,⟨rfl,w7⟩,hs7⟩;obtain ⟨d7,n7,t7,e7⟩:=ZcA hs7 w7 (by simp[itS,AV.pure,hbk]);exact ⟨seg.length-(i+1),by omega,i+1,M',by omega,rfl,hJe _ _ _ _ hJ' e7,d7,n7,t7⟩
   . show wpOpsIn (FW none) n' Tryz.prog ops _ [8,9] (b4.put o7.dst (.bool false)) A';rw[hdst];refine suffix false [] (λ_=>False) A' (.inr rfl) (λ_ h=>h.elim) (λk x hx=>by simp[lk]at hx) _ λa5 A5 h5=>?_
     have ark2:AR Tryz.prog (Zcy (λ_=>False) A' N none) (ZcH (ZcH (issBk (issA (ZcH (ZcH (issL Zcs))))))) ⟨[(39,.bool (!false))],[]⟩ (λe s=>e = .ret/\Yn s ⟨[],[]⟩):=by
      refine Qga ?_;simp -implicitDefEqProofs[issL,issB3,issB2,issA,ZcH,issBk,Zcs];exact (by (first|exact Yn.tm (by simp[lk])|exact Yn.sub (by simp[lk,Ya,AV.keys]) (by simp[lk,Yd,Ya,AV.keys])))
     refine wpIn_mono (ark2 k2 okk2 _ a5 A5 h5) ?_;rintro e b6 B6 ⟨s6,⟨rfl,w6⟩,hs6⟩;obtain ⟨d6,-,-,e6⟩:=ZcA hs6 w6 (by simp);exact (hfin b6 B6 d6 (.inr (hKe _ _ hK' e6))).1
 . simp -implicitDefEqProofs[issL,issB3,issB2,issA,ZcH,issBk,ZcI,Zcs,itS,isa,hd2];exact (by (first|exact Yn.tm (by simp[lk])|exact Yn.sub (by simp[lk,Ya,AV.keys]) (by simp[lk,Yd,Ya,AV.keys])))
end
def bkA (r:List Iss) (ds:List Int):AV:=.vptr [.vsl (r.map isa),.vsl (ds.map ia)] 0
theorem ZcK (r:List Iss) (ds:List Int):(bkA r ds).pure=true:=by simp[bkA,AV.pure]
attribute [simp] ZcK
section
variable {G:Nat->Option (List AV)}
theorem ZcL (r:List Iss) (ds:List Int) (n:Int) (hs:ds.Pairwise (· <= ·)) (hl:Sml ds):PC Tryz.prog G 122 [bkA r ds,.int .i64 n] (.bool (decide (n∈ds))):=by
 (refine Z9H rfl λR hG hrd=>Qga ?_;subst hG)
 simp -implicitDefEqProofs[Z9F,Z9G,bkA];refine Qco (Zcr ds n hs hl) (by simp) ?_;simp -implicitDefEqProofs[]
theorem ZcM (r:List Iss) (ds:List Int) (y:Int×Int) (hs:ds.Pairwise (· <= ·)) (hl:Sml ds):PC Tryz.prog G 121 [.agg [.int .i64 y.1,.int .i64 y.2],.vptr [bkA r ds] 0] (.bool (!decide (y.1∈ds))):=by
 (refine Z9E rfl λR hG hrd=>Qga ?_;subst hG)
 simp -implicitDefEqProofs[Z9C,Z9D];refine Qco (ZcL r ds y.1 hs hl) (by simp) ?_;simp -implicitDefEqProofs[]
theorem ZcN (r:List Iss) (ds:List Int) (n:Int):PC Tryz.prog G 146 [bkA r ds,.int .i64 n] (.func (.func 158) [] [.vptr [bkA r ds] 0,.vptr [.int .i64 n] 0]):=by
 (refine Za2 rfl λR hG hrd=>Qga ?_;subst hG)
 simp -implicitDefEqProofs[Za0,Za1,bkA]
theorem ZcO (r:List Iss) (ds:List Int) (d l:Int) (hs:(r.map (·.d)).Pairwise (· <= ·)) (hl:Sml r) (hu:∀ y∈r,findN y.d y.l r=some y):PC Tryz.prog G 196 [bkA r ds,.agg [.int .i64 d,.int .i64 l]] (fndA (findN d l r)):=by
 (refine Za8 rfl λR hG hrd=>Qga ?_;subst hG)
 simp -implicitDefEqProofs[Za6,Za7];refine Qco (ZcN r ds d) (by simp) ?_;simp -implicitDefEqProofs[]
 refine Z54 hrd (ZcJ r d (.vsl (ds.map ia)) hs hl) (by simp[evA,St.tmp,lk,bkA]) (by simp[AV.pure]) (λk=>k-1000) [(3,.ptr 1003 0),(4,.ptr 1004 0),(5,.ptr 1005 0)] (λ_=>[(1003,.box [.int .i64 d,.int .i64 l]),(1004,.box [.int .i64 0,.int .i64 0,.int .u8 0,.nils,.nils]),(1005,.box [.bool false])])
  [1003,1004,1005] (λk=>∀ j,j<k->∀ y,(r.filter (λx=>decide (x.d=d)))[j]? = some y->y.l≠l) (by simp) (λ_=>rfl) (by simp) (by simp) (by simp[Ym,St.set,putO,AObj.ren,AV.ren]) (by simp[Yd,Ya,AV.keys]) (by simp[lk,AV.ren,AV.keys]) ?_ ?_
 . intro k x hx hI R' hG hN
   obtain ⟨y,hy,rfl⟩ : ∃ y,(r.filter (λx=>decide (x.d=d)))[k]? = some y/\x = .agg (isa y):=by
    simp only[elsOf,List.getElem?_map,Option.map_eq_some_iff]at hx;obtain ⟨y,h1,h2⟩:=hx;exact ⟨y,h1,h2.symm⟩
   have hym:=List.mem_filter.1 (List.mem_of_getElem? hy);have hyd:y.d=d:=of_decide_eq_true hym.2;refine Qga ?_;simp -implicitDefEqProofs[isa];intro R'' hG'' hN'';refine Qga ?_;simp -implicitDefEqProofs[];refine Qco (Zcc y) (by simp) ?_;simp -implicitDefEqProofs[];refine ⟨rfl,?_⟩;by_cases e:y.l=l
   . simp -implicitDefEqProofs[hyd,e,RndB,Yj,newK,frzO,frzA,frz,AV.keys,Ym,AObj.ren,AV.ren];refine Qgr ?_
     have hf:findN d l r=some y:=by
      have:=hu y hym.1;rw[hyd,e]at this;exact this
     simp -implicitDefEqProofs[hf,fndA,isa,hyd,e]
   . simp -implicitDefEqProofs[hyd,e,RndB,Yj,newK,frzO,frzA,frz,AV.keys];intro j hj z hz;by_cases e2:j=k
     . subst e2;rw[hy]at hz;cases hz;exact e
     . exact hI j (by omega) z hz
 . intro hI
   have hn:findN d l r=none:=by
    cases hf:findN d l r with
    |none=>rfl
    | some y =>
      obtain ⟨h1,h2,h3⟩:=ZbV hf;obtain ⟨j,hj,he⟩:=List.getElem_of_mem (show y∈r.filter (λx=>decide (x.d=d)) from List.mem_filter.2 ⟨h1,decide_eq_true h2⟩);exact absurd h3 (hI j (by simp[elsOf];exact hj) y (by rw[List.getElem?_eq_getElem hj,he]))
   simp -implicitDefEqProofs[Ym,AObj.ren,AV.ren];refine Qgr ?_;simp -implicitDefEqProofs[hn,fndA,noIs]
end
def dpA (dp:List (Int×Int)):List (AV×AV):=dp.map λp=>(.int .i64 p.1,.int .i64 p.2)
def lfA (lf:List Int):List (AV×AV):=lf.map λn=>(.int .i64 n,.bool true)
def dpLk (n:Int):List (Int×Int)->Option Int
 |[]=>none
 |p::r=>if n=p.1 then some p.2 else dpLk n r
def dpG (dp:List (Int×Int)) (n:Int):Int:=(dpLk n dp).getD 0
theorem ZcP (n:Int):∀ dp:List (Int×Int),∃ o:Option Nat,(KK.i .i64).find (.int .i64 n) (dpA dp)=some o/\match o with
  |some j=>∃ v,dp[j]? = some (n,v)/\dpLk n dp=some v
  |none=>dpLk n dp=none/\∀ p∈dp,p.1≠n
 |[]=>⟨none,rfl,rfl,by simp⟩
 | p :: r=>by
   obtain ⟨o,h1,h2⟩:=ZcP n r;by_cases e:n=p.1
   . refine ⟨some 0,by simp[dpA,KK.find,KK.eq,e],p.2,by simp[e],by simp[dpLk,e]⟩
   . refine ⟨o.map (· + 1),?_,?_⟩
     . simp only[dpA,List.map_cons,KK.find,KK.eq,and_self,if_true,e,decide_false];rw[show r.map (λp=>(AV.int .i64 p.1,AV.int .i64 p.2))=dpA r from rfl,h1];rfl
     . cases o with
       |none=>exact ⟨by simp only[dpLk,e,if_false];exact h2.1,λq hq=>by
        rcases List.mem_cons.1 hq with rfl|hq
        . exact λh=>e h.symm
        . exact h2.2 q hq⟩
       | some j =>
         obtain ⟨v,h3,h4⟩:=h2;exact ⟨v,by simpa using h3,by simp only[dpLk,e,if_false];exact h4⟩
theorem ZcQ (n:Int) (dp:List (Int×Int)):(KK.i .i64).get (.int .i64 n) (dpA dp)=some ((dpLk n dp).map λv=>.int .i64 v):=by
 obtain ⟨o,h1,h2⟩:=ZcP n dp;have hi:(KK.i .i64).is (.int .i64 n)=true:=(by simp[KK.is]);unfold KK.get;rw[if_pos hi,h1]
 cases o with
 |none=>simp[h2.1]
 |some j=>obtain ⟨v,h3,h4⟩:=h2;simp[dpA,h3,h4]
theorem ZcR {n:Int} (v:Int) {dp:List (Int×Int)} (h:n ∉ dp.map (·.1)):(KK.i .i64).put (.int .i64 n) (.int .i64 v) (dpA dp)=some (dpA (dp++[(n,v)])):=by
 obtain ⟨o,h1,h2⟩:=ZcP n dp;have hi:(KK.i .i64).is (.int .i64 n)=true:=(by simp[KK.is]);unfold KK.put;rw[if_pos hi,h1]
 cases o with
 |none=>simp[dpA]
 | some j =>
   obtain ⟨w,h3,h4⟩:=h2;exact absurd (List.mem_map.2 ⟨_,List.mem_of_getElem? h3,rfl⟩) h
theorem ZcS (n:Int):∀ lf:List Int,∃ o:Option Nat,(KK.i .i64).find (.int .i64 n) (lfA lf)=some o/\match o with
  |some j=>lf[j]? = some n/\n∈lf/\lf.eraseIdx j=lf.erase n
  |none=>n ∉ lf
 |[]=>⟨none,rfl,by simp⟩
 | x :: r=>by
   obtain ⟨o,h1,h2⟩:=ZcS n r;by_cases e:n=x
   . subst e;exact ⟨some 0,by simp[lfA,KK.find,KK.eq],by simp⟩
   . refine ⟨o.map (· + 1),?_,?_⟩
     . simp only[lfA,List.map_cons,KK.find,KK.eq,and_self,if_true,e,decide_false];rw[show r.map (λn=>(AV.int .i64 n,AV.bool true))=lfA r from rfl,h1];rfl
     . cases o with
       |none=>simp only[Option.map_none,List.mem_cons,not_or];exact ⟨e,h2⟩
       | some j =>
         obtain ⟨h3,h4,h5⟩:=h2;refine ⟨by simpa using h3,List.mem_cons_of_mem _ h4,?_⟩;simp only[List.eraseIdx_cons_succ,h5];rw[List.erase_cons_tail];simpa using λq=>e q.symm
theorem ZcT (n:Int) (lf:List Int):(KK.i .i64).get (.int .i64 n) (lfA lf)=some (if n∈lf then some (.bool true) else none):=by
 obtain ⟨o,h1,h2⟩:=ZcS n lf;have hi:(KK.i .i64).is (.int .i64 n)=true:=(by simp[KK.is]);unfold KK.get;rw[if_pos hi,h1]
 cases o with
 | none => have h2:n ∉ lf:=h2
           simp[h2]
 |some j=>obtain ⟨h3,h4,h5⟩:=h2;simp[lfA,h3,h4]
theorem ZcU {n:Int} {lf:List Int} (h:n ∉ lf):(KK.i .i64).put (.int .i64 n) (.bool true) (lfA lf)=some (lfA (lf++[n])):=by
 obtain ⟨o,h1,h2⟩:=ZcS n lf;have hi:(KK.i .i64).is (.int .i64 n)=true:=(by simp[KK.is]);unfold KK.put;rw[if_pos hi,h1]
 cases o with
 |none=>simp[lfA]
 |some j=>exact absurd h2.2.1 h
theorem ZcV {α β:Type} (f:α->β):∀ (l:List α) (j:Nat),(l.map f).eraseIdx j=(l.eraseIdx j).map f
 |[],_=>by simp
 |x::l,0=>by simp
 |x::l,j+1=>by simp[ZcV f l j]
theorem ZcW {n:Int} {lf:List Int} (h:n∈lf):(KK.i .i64).del (.int .i64 n) (lfA lf)=some (lfA (lf.erase n)):=by
 obtain ⟨o,h1,h2⟩:=ZcS n lf;have hi:(KK.i .i64).is (.int .i64 n)=true:=(by simp[KK.is]);unfold KK.del;rw[if_pos hi,h1]
 cases o with
 |none=>exact absurd h h2
 | some j =>
   obtain ⟨h3,h4,h5⟩:=h2;simp only[lfA,<- h5];rw[ZcV]
def rdIt (lf:List Int) (b:Bool) (its:List (Int×Int)):Bool:=its.foldl (λb y=>b && !decide (y.1∈lf)) b
def msIt (dp:List (Int×Int)) (m:Int) (its:List (Int×Int)):Int:=its.foldl (λm y=>max m (dpG dp y.1)) m
def rdN (lf:List Int) (b:Bool) (l:List Iss):Bool:=l.foldl (λb x=>rdIt lf b x.its) b
def msN (dp:List (Int×Int)) (m:Int) (l:List Iss):Int:=l.foldl (λm x=>msIt dp m x.its) m
def issOf (r:List Iss) (n:Int):List Iss:=r.filter (λx=>decide (x.d=n))
def dStep (r:List Iss) (s:List (Int×Int)×List Int) (n:Int):List (Int×Int)×List Int :=
 if rdN s.2 (decide (n∈s.2)) (issOf r n)=true then (s.1++[(n,msN s.1 0 (issOf r n)+1)],s.2.erase n) else s
def dPass (r:List Iss) (s:List (Int×Int)×List Int):List (Int×Int)×List Int:=(nums r).foldl (dStep r) s
def dRun (r:List Iss):Nat->List (Int×Int)×List Int
 |0=>([],nums r)
 |k+1=>dPass r (dRun r k)
theorem ZcX (lf:List Int) (b:Bool) (its:List (Int×Int)) (k:Nat) (h:k<its.length):rdIt lf b (its.take (k+1))=(rdIt lf b (its.take k) && !decide (its[k].1∈lf)):=by
 rw[List.take_succ_eq_append_getElem h,rdIt,List.foldl_append];rfl
theorem ZcY (dp:List (Int×Int)) (m:Int) (its:List (Int×Int)) (k:Nat) (h:k<its.length):msIt dp m (its.take (k+1))=max (msIt dp m (its.take k)) (dpG dp its[k].1):=by
 rw[List.take_succ_eq_append_getElem h,msIt,List.foldl_append];rfl
theorem ZcZ (lf:List Int) (b:Bool) (l:List Iss) (k:Nat) (h:k<l.length):rdN lf b (l.take (k+1))=rdIt lf (rdN lf b (l.take k)) l[k].its:=by
 rw[List.take_succ_eq_append_getElem h,rdN,List.foldl_append];rfl
theorem Zd0 (dp:List (Int×Int)) (m:Int) (l:List Iss) (k:Nat) (h:k<l.length):msN dp m (l.take (k+1))=msIt dp (msN dp m (l.take k)) l[k].its:=by
 rw[List.take_succ_eq_append_getElem h,msN,List.foldl_append];rfl
theorem Zd1 (lf:List Int):∀ its:List (Int×Int),rdIt lf false its=false
 |[]=>rfl
 |y::its=>by simp only[rdIt,List.foldl_cons,Bool.false_and];exact Zd1 lf its
theorem Zd2 (lf:List Int):∀ l:List Iss,rdN lf false l=false
 |[]=>rfl
 |x::l=>by simp only[rdN,List.foldl_cons,Zd1];exact Zd2 lf l
theorem Zd3 {lf:List Int} {n:Int} {l:List Iss} (h:rdN lf (decide (n∈lf)) l=true):n∈lf:=by
 by_cases e:n∈lf
 . exact e
 . rw[decide_eq_false e,Zd2]at h;cases h
structure DInv (r:List Iss) (s:List (Int×Int)×List Int):Prop where
 perm:(s.1.map (·.1)++s.2).Perm (nums r)
 bd:∀ p∈s.1,1<=p.2/\p.2<=(s.1.length:Nat)
theorem Zd4 {n v:Int}:∀ {dp:List (Int×Int)},dpLk n dp=some v->(n,v)∈dp
 | p::r,h=>by
   simp only[dpLk]at h
   split at h
   . rename_i e;cases h;rw[e];exact List.mem_cons_self ..
   . exact List.mem_cons_of_mem _ (Zd4 h)
theorem Zd5 {r:List Iss} {s:List (Int×Int)×List Int} (h:DInv r s) (n:Int):0<=dpG s.1 n/\dpG s.1 n<=(s.1.length:Nat):=by
 unfold dpG
 cases e:dpLk n s.1 with
 |none=>simp
 |some v=>have:=h.bd _ (Zd4 e);simp only[Option.getD_some];omega
theorem Zd6 {r:List Iss} {s:List (Int×Int)×List Int} (h:DInv r s):∀ (its:List (Int×Int)) (m:Int),0<=m->m<=(s.1.length:Nat)->0<=msIt s.1 m its/\msIt s.1 m its<=(s.1.length:Nat)
 |[],m,h1,h2=>⟨h1,h2⟩
 | y::its,m,h1,h2=>by
   have:=Zd5 h y.1;exact Zd6 h its (max m (dpG s.1 y.1)) (by omega) (by omega)
theorem Zd7 {r:List Iss} {s:List (Int×Int)×List Int} (h:DInv r s):∀ (l:List Iss) (m:Int),0<=m->m<=(s.1.length:Nat)->0<=msN s.1 m l/\msN s.1 m l<=(s.1.length:Nat)
 |[],m,h1,h2=>⟨h1,h2⟩
 | x::l,m,h1,h2=>by
   have:=Zd6 h x.its m h1 h2;exact Zd7 h l (msIt s.1 m x.its) this.1 this.2
theorem DInv.len {r:List Iss} {s:List (Int×Int)×List Int} (h:DInv r s):s.1.length+s.2.length=(nums r).length:=by
 have:=h.perm.length_eq;simpa using this
theorem DInv.step {r:List Iss} {s:List (Int×Int)×List Int} (h:DInv r s) (n:Int):DInv r (dStep r s n):=by
 unfold dStep
 split
 . rename_i hb;have hm:=Zd3 hb;have hbd:=Zd7 h (issOf r n) 0 (Int.le_refl _) (by omega);refine ⟨?_,λp hp=>?_⟩
   . refine List.Perm.trans ?_ h.perm;simp only[List.map_append,List.map_cons,List.map_nil,List.append_assoc,List.cons_append,List.nil_append];exact (List.perm_cons_erase hm).symm.append_left _
   . simp only[List.length_append,List.length_cons,List.length_nil];rcases List.mem_append.1 hp with hp|hp
     . have:=h.bd p hp;omega
     . simp only[List.mem_singleton]at hp;subst hp;simp only;omega
 . exact h
theorem DInv.fold {r:List Iss}:∀ (l:List Int) {s:List (Int×Int)×List Int},DInv r s->DInv r (l.foldl (dStep r) s)
 |[],s,h=>h
 |n::l,s,h=>DInv.fold l (h.step n)
theorem DInv.run (r:List Iss):∀ k,DInv r (dRun r k)
 |0=>⟨by simp[dRun],by simp[dRun]⟩
 |k+1=>(DInv.run r k).fold (nums r)
theorem Zd8 {α β:Type} (f:β->α->β) (s:β) (l:List α) (k:Nat) (h:k<l.length):(l.take (k+1)).foldl f s=f ((l.take k).foldl f s) l[k]:=by
 rw[List.take_succ_eq_append_getElem h,List.foldl_append];rfl
section
variable {G:Nat->Option (List AV)}
set_option maxRecDepth 8000 in
theorem Zd9 (r:List Iss) (hw:Wf r) (hO:Ord r) (hn:(nums r).length<=20):PC Tryz.prog G 123 [bkA r (nums r)] (.tup [.vmap (dpA (dRun r (nums r).length).1),.bool (decide (0<(dRun r (nums r).length).2.length))]):=by
 (refine Zab rfl λR hG hrd=>Qga ?_;subst hG)
 have hs:(r.map (·.d)).Pairwise (· <= ·):=by
  rw[List.pairwise_map,List.pairwise_iff_getElem];intro i j hi hj hij;have:=hO.mono (Nat.le_of_lt hij) hj
  rwa [at_eq hi,at_eq hj]at this
 have hl:=hw.1.1;have hnd:=ZbG hO;simp -implicitDefEqProofs[Za9,Zaa,bkA];refine Zba (λi=>⟨[(22,.int .i64 i),(21,.int .i64 (nums r).length),(20,.vsl ((nums r).map ia)),(5,.ptr 5 0),(4,.ptr 4 0),(0,bkA r (nums r))],[(15,.mp []),(4,.box [.mp 15]),(16,.mp (lfA ((nums r).take i))),(5,.box [.mp 16])]⟩) (λ_=>True) (nums r).length (by (first|exact Yn.tm (by simp[lk,lfA,bkA])|exact Yn.sub (by simp[lk,Ya,AV.keys,lfA,bkA]) (by simp[lk,Yd,Ya,AV.keys,lfA,bkA]))) trivial ?_ ?_
 . intro i hi _;refine Qga ?_;have w1:IntKind.i64.wrap ((i:Int)+1)=((i+1:Nat):Int):=Yg (by omega) (by omega)
   have hni:(nums r)[i] ∉ (nums r).take i:=by
    intro hm;obtain ⟨j,hj,e⟩:=List.getElem_of_mem hm;simp only[List.length_take]at hj;simp only[List.getElem_take]at e;have:=(List.getElem_inj hnd).1 e;omega
   have hp:=ZcU hni;rw[<- List.take_succ_eq_append_getElem hi]at hp;simp -implicitDefEqProofs[hi,w1,ia,hp];exact (by (first|exact Yn.tm (by simp[lk,bkA])|exact Yn.sub (by simp[lk,Ya,AV.keys,bkA]) (by simp[lk,Yd,Ya,AV.keys,bkA])))
 . intro _;refine Qga ?_;simp -implicitDefEqProofs[];refine Qgr ?_;simp -implicitDefEqProofs[bkA];refine Zba (λk=>⟨[(34,.int .i64 k),(33,.int .i64 (nums r).length),(5,.ptr 5 0),(4,.ptr 4 0),(0,bkA r (nums r))],[(15,.mp (dpA (dRun r k).1)),(4,.box [.mp 15]),(16,.mp (lfA (dRun r k).2)),(5,.box [.mp 16])]⟩) (λ_=>True) (nums r).length (by (first|exact Yn.tm (by simp[lk,dRun,dpA,bkA])|exact Yn.sub (by simp[lk,Ya,AV.keys,dRun,dpA,bkA]) (by simp[lk,Yd,Ya,AV.keys,dRun,dpA,bkA]))) trivial ?_ ?_
   . intro k hk _;refine Qga ?_;have w1:IntKind.i64.wrap ((k:Int)+1)=((k+1:Nat):Int):=Yg (by omega) (by omega);simp -implicitDefEqProofs[hk,bkA]
     refine Zba (λi=>⟨[(41,.int .i64 i),(40,.int .i64 (nums r).length),(39,.vsl ((nums r).map ia)),(34,.int .i64 k),(33,.int .i64 (nums r).length),(5,.ptr 5 0),(4,.ptr 4 0),(0,bkA r (nums r))],
      [(15,.mp (dpA (((nums r).take i).foldl (dStep r) (dRun r k)).1)),(4,.box [.mp 15]),(16,.mp (lfA (((nums r).take i).foldl (dStep r) (dRun r k)).2)),(5,.box [.mp 16])]⟩) (λ_=>True) (nums r).length (by (first|exact Yn.tm (by simp[lk,bkA])|exact Yn.sub (by simp[lk,Ya,AV.keys,bkA]) (by simp[lk,Yd,Ya,AV.keys,bkA]))) trivial ?_ ?_
     . intro i hi _;refine Qga ?_;have w2:IntKind.i64.wrap ((i:Int)+1)=((i+1:Nat):Int):=Yg (by omega) (by omega);obtain ⟨s,hsd⟩ : ∃ s,s=((nums r).take i).foldl (dStep r) (dRun r k):=⟨_,rfl⟩;have hI:DInv r s:=(by rw[hsd];exact (DInv.run r k).fold _);have hst:=Zd8 (dStep r) (dRun r k) (nums r) i hi;rw[<- hsd]at hst ⊢;obtain ⟨n,hne⟩ : ∃ n,n=(nums r)[i]:=⟨_,rfl⟩;rw[<- hne]at hst;have hgl:=ZcT n s.2
       cases hm:decide (n∈s.2)
       . have hm':¬n∈s.2:=of_decide_eq_false hm;rw[if_neg hm']at hgl;simp -implicitDefEqProofs[hi,ia,<- hne,hgl];refine ⟨rfl,?_⟩;refine Qco (ZcN r (nums r) n) (by simp) ?_;simp -implicitDefEqProofs[]
         refine Z54 hrd (ZcJ r n (.vsl ((nums r).map ia)) hs hl) (by simp[evA,St.tmp,lk,bkA]) (by simp[AV.pure]) (λk=>k-1000) [(4,.ptr 1004 0),(5,.ptr 1005 0),(10,.ptr 1010 0),(11,.ptr 1011 0)]
          (λq=>[(1015,.mp (dpA s.1)),(1004,.box [.mp 1015]),(1016,.mp (lfA s.2)),(1005,.box [.mp 1016]),(1010,.box [.int .i64 (msN s.1 0 ((issOf r n).take q))]),(1011,.box [.bool (rdN s.2 false ((issOf r n).take q))])])
          [1015,1004,1016,1005,1010,1011] (λ_=>True) trivial (λ_=>rfl) (by simp) (by simp) (by simp[Ym,St.set,putO,AObj.ren,AV.ren,dpA,lfA,msN,rdN,Function.comp_def]) (by simp[Yd,Ya,AV.keys,dpA,lfA,lk]) (by simp[lk,AV.ren,AV.keys]) ?_ ?_
         . intro q x hx _ R' hG hN
           obtain ⟨y,hq,hy,rfl⟩ : ∃ y,∃ hq:q<(issOf r n).length,(issOf r n)[q]=y/\x = .agg (isa y):=by
            simp only[elsOf,List.getElem?_map,Option.map_eq_some_iff]at hx;obtain ⟨y,h1,h2⟩:=hx;obtain ⟨h3,h4⟩:=List.getElem?_eq_some_iff.1 h1;exact ⟨y,h3,h4,h2.symm⟩
           have hyr:y∈r:=(by rw[<- hy];exact (List.mem_filter.1 (List.getElem_mem hq)).1);have hyl:=(hw.1.2 y hyr).1;unfold Sml at hyl;have tm:=Zd0 s.1 0 (issOf r n) q hq;have tr:=ZcZ s.2 false (issOf r n) q hq;rw[hy]at tm tr;generalize msN s.1 0 ((issOf r n).take q)=m0 at tm ⊢;generalize rdN s.2 false ((issOf r n).take q)=b0 at tr ⊢;refine Qga ?_;simp -implicitDefEqProofs[isa];intro R'' hG'' hN'';refine Qga ?_;simp -implicitDefEqProofs[]
           refine Zba (λm=>⟨[(55,.int .i64 m),(54,.int .i64 y.its.length),(53,.vsl (y.its.map ita)),(12,.ptr 12 0),(4,.ptr 1004 0),(5,.ptr 1005 0),(10,.ptr 1010 0),(11,.ptr 1011 0)],
            [(1015,.mp (dpA s.1)),(1004,.box [.mp 1015]),(1016,.mp (lfA s.2)),(1005,.box [.mp 1016]),(1010,.box [.int .i64 (msIt s.1 m0 (y.its.take m))]),(1011,.box [.bool (rdIt s.2 b0 (y.its.take m))]),(12,.box (isa y))]⟩) (λ_=>True) y.its.length (by (first|exact Yn.tm (by simp[lk,isa,dpA,lfA,msIt,rdIt])|exact Yn.sub (by simp[lk,Ya,AV.keys,isa,dpA,lfA,msIt,rdIt]) (by simp[lk,Yd,Ya,AV.keys,isa,dpA,lfA,msIt,rdIt]))) trivial ?_ ?_
           . intro m hm _;refine Qga ?_;have w3:IntKind.i64.wrap ((m:Int)+1)=((m+1:Nat):Int):=Yg (by omega) (by omega);have um:=ZcY s.1 m0 y.its m hm;have ur:=ZcX s.2 b0 y.its m hm;generalize msIt s.1 m0 (y.its.take m)=m1 at um ⊢;generalize rdIt s.2 b0 (y.its.take m)=b1 at ur ⊢;have gd:=ZcQ y.its[m].1 s.1;have gl:=ZcT y.its[m].1 s.2;have wkE:∀ c1 c2:Prop,c1->c2->c1/\c2:=λ_ _ a b=>⟨a,b⟩
             cases b1
             . simp only[Bool.false_and]at ur
               cases hk1:dpLk y.its[m].1 s.1 with
               | none =>
                 rw[hk1]at gd;simp only[dpG,hk1,Option.getD_none]at um;simp -implicitDefEqProofs[hm,ita,w3,gd];exact Yn.sub (by simp[lk,Ya,AV.keys]) (by simp[lk,Yd,Ya,AV.keys,dpA,lfA,um,ur,isa])
               | some v =>
                 rw[hk1]at gd;simp only[dpG,hk1,Option.getD_some]at um;simp -implicitDefEqProofs[hm,ita,w3,gd];exact Yn.sub (by simp[lk,Ya,AV.keys]) (by simp[lk,Yd,Ya,AV.keys,dpA,lfA,um,ur,isa])
             . by_cases hin:y.its[m].1∈s.2
               . rw[if_pos hin]at gl;simp only[hin,decide_true,Bool.not_true,Bool.and_false]at ur
                 cases hk1:dpLk y.its[m].1 s.1 with
                 | none =>
                   rw[hk1]at gd;simp only[dpG,hk1,Option.getD_none]at um;simp -implicitDefEqProofs[hm,ita,w3,gd,gl];exact Yn.sub (by simp[lk,Ya,AV.keys]) (by simp[lk,Yd,Ya,AV.keys,dpA,lfA,um,ur,isa])
                 | some v =>
                   rw[hk1]at gd;simp only[dpG,hk1,Option.getD_some]at um;simp -implicitDefEqProofs[hm,ita,w3,gd,gl];exact Yn.sub (by simp[lk,Ya,AV.keys]) (by simp[lk,Yd,Ya,AV.keys,dpA,lfA,um,ur,isa])
               . rw[if_neg hin]at gl;simp only[hin,decide_false,Bool.not_false,Bool.and_true]at ur
                 cases hk1:dpLk y.its[m].1 s.1 with
                 | none =>
                   rw[hk1]at gd;simp only[dpG,hk1,Option.getD_none]at um;simp -implicitDefEqProofs[hm,ita,w3,gd,gl];exact Yn.sub (by simp[lk,Ya,AV.keys]) (by simp[lk,Yd,Ya,AV.keys,dpA,lfA,um,ur,isa])
                 | some v =>
                   rw[hk1]at gd;simp only[dpG,hk1,Option.getD_some]at um;simp -implicitDefEqProofs[hm,ita,w3,gd,gl];exact Yn.sub (by simp[lk,Ya,AV.keys]) (by simp[lk,Yd,Ya,AV.keys,dpA,lfA,um,ur,isa])
           . intro _;refine Qga ?_;simp -implicitDefEqProofs[];refine Qgr ?_;simp -implicitDefEqProofs[RndB,Yj,newK,frzO,frzA,frz,AV.keys,tm,tr,dpA,lfA,Function.comp_def]
             try trivial
         . intro _;have hel:(elsOf r n).length=(issOf r n).length:=(by simp[elsOf,issOf]);have etk:(issOf r n).take (issOf r n).length=issOf r n:=List.take_of_length_le (Nat.le_refl _);have hbd:=Zd7 hI (issOf r n) 0 (Int.le_refl _) (by omega);have hlen:=hI.len;have w4:IntKind.i64.wrap (msN s.1 0 (issOf r n)+1)=msN s.1 0 (issOf r n)+1:=Yg (by omega) (by omega);have rdpA:∀ dp,AObj.ren (λk=>k-1000) (.mp (dpA dp)) = .mp (dpA dp):=λdp=>by simp[AObj.ren,dpA,AV.ren,Function.comp_def]
           have rlfA:∀ lf,AObj.ren (λk=>k-1000) (.mp (lfA lf)) = .mp (lfA lf):=λlf=>by simp[AObj.ren,lfA,AV.ren,Function.comp_def]
           have rbx:∀ cs,AObj.ren (λk=>k-1000) (.box cs) = .box (cs.map (AV.ren λk=>k-1000)):=λ_=>rfl
           cases hrd2:rdN s.2 false (issOf r n)
           . have hst2:dStep r s n=s:=(by simp[dStep,hm,hrd2]);rw[hst2]at hst;simp -implicitDefEqProofs[Ym,rdpA,rlfA,rbx,AV.ren,hel,etk,hrd2];refine Qgr ?_;simp -implicitDefEqProofs[w2];rw[hst];exact Yn.sub (by simp[lk,Ya,AV.keys,bkA]) (by simp[lk,Yd,Ya,AV.keys,dpA,lfA])
           . have hmem:n∈s.2:=Zd3 (by rw[hm];exact hrd2);have hst2:dStep r s n=(s.1++[(n,msN s.1 0 (issOf r n)+1)],s.2.erase n):=(by simp[dStep,hm,hrd2]);rw[hst2]at hst
             have hnk:n ∉ s.1.map (·.1):=λhin=>by
              have:=(List.nodup_append.1 (hI.perm.nodup_iff.2 hnd)).2.2 n hin n hmem;exact this rfl
             have pd:=ZcR (msN s.1 0 (issOf r n)+1) hnk;have dl:=ZcW hmem;simp -implicitDefEqProofs[Ym,rdpA,rlfA,rbx,AV.ren,hel,etk,hrd2];refine Qgr ?_;simp -implicitDefEqProofs[w2,w4,pd,dl];rw[hst];exact Yn.sub (by simp[lk,Ya,AV.keys,bkA]) (by simp[lk,Yd,Ya,AV.keys,dpA,lfA])
       . have hm':n∈s.2:=of_decide_eq_true hm;rw[if_pos hm']at hgl;simp -implicitDefEqProofs[hi,ia,<- hne,hgl];refine ⟨rfl,?_⟩;refine Qco (ZcN r (nums r) n) (by simp) ?_;simp -implicitDefEqProofs[]
         refine Z54 hrd (ZcJ r n (.vsl ((nums r).map ia)) hs hl) (by simp[evA,St.tmp,lk,bkA]) (by simp[AV.pure]) (λk=>k-1000) [(4,.ptr 1004 0),(5,.ptr 1005 0),(10,.ptr 1010 0),(11,.ptr 1011 0)]
          (λq=>[(1015,.mp (dpA s.1)),(1004,.box [.mp 1015]),(1016,.mp (lfA s.2)),(1005,.box [.mp 1016]),(1010,.box [.int .i64 (msN s.1 0 ((issOf r n).take q))]),(1011,.box [.bool (rdN s.2 true ((issOf r n).take q))])])
          [1015,1004,1016,1005,1010,1011] (λ_=>True) trivial (λ_=>rfl) (by simp) (by simp) (by simp[Ym,St.set,putO,AObj.ren,AV.ren,dpA,lfA,msN,rdN,Function.comp_def]) (by simp[Yd,Ya,AV.keys,dpA,lfA,lk]) (by simp[lk,AV.ren,AV.keys]) ?_ ?_
         . intro q x hx _ R' hG hN
           obtain ⟨y,hq,hy,rfl⟩ : ∃ y,∃ hq:q<(issOf r n).length,(issOf r n)[q]=y/\x = .agg (isa y):=by
            simp only[elsOf,List.getElem?_map,Option.map_eq_some_iff]at hx;obtain ⟨y,h1,h2⟩:=hx;obtain ⟨h3,h4⟩:=List.getElem?_eq_some_iff.1 h1;exact ⟨y,h3,h4,h2.symm⟩
           have hyr:y∈r:=(by rw[<- hy];exact (List.mem_filter.1 (List.getElem_mem hq)).1);have hyl:=(hw.1.2 y hyr).1;unfold Sml at hyl;have tm:=Zd0 s.1 0 (issOf r n) q hq;have tr:=ZcZ s.2 true (issOf r n) q hq;rw[hy]at tm tr;generalize msN s.1 0 ((issOf r n).take q)=m0 at tm ⊢;generalize rdN s.2 true ((issOf r n).take q)=b0 at tr ⊢;refine Qga ?_;simp -implicitDefEqProofs[isa];intro R'' hG'' hN'';refine Qga ?_;simp -implicitDefEqProofs[]
           refine Zba (λm=>⟨[(55,.int .i64 m),(54,.int .i64 y.its.length),(53,.vsl (y.its.map ita)),(12,.ptr 12 0),(4,.ptr 1004 0),(5,.ptr 1005 0),(10,.ptr 1010 0),(11,.ptr 1011 0)],
            [(1015,.mp (dpA s.1)),(1004,.box [.mp 1015]),(1016,.mp (lfA s.2)),(1005,.box [.mp 1016]),(1010,.box [.int .i64 (msIt s.1 m0 (y.its.take m))]),(1011,.box [.bool (rdIt s.2 b0 (y.its.take m))]),(12,.box (isa y))]⟩) (λ_=>True) y.its.length (by (first|exact Yn.tm (by simp[lk,isa,dpA,lfA,msIt,rdIt])|exact Yn.sub (by simp[lk,Ya,AV.keys,isa,dpA,lfA,msIt,rdIt]) (by simp[lk,Yd,Ya,AV.keys,isa,dpA,lfA,msIt,rdIt]))) trivial ?_ ?_
           . intro m hm _;refine Qga ?_;have w3:IntKind.i64.wrap ((m:Int)+1)=((m+1:Nat):Int):=Yg (by omega) (by omega);have um:=ZcY s.1 m0 y.its m hm;have ur:=ZcX s.2 b0 y.its m hm;generalize msIt s.1 m0 (y.its.take m)=m1 at um ⊢;generalize rdIt s.2 b0 (y.its.take m)=b1 at ur ⊢;have gd:=ZcQ y.its[m].1 s.1;have gl:=ZcT y.its[m].1 s.2;have wkE:∀ c1 c2:Prop,c1->c2->c1/\c2:=λ_ _ a b=>⟨a,b⟩
             cases b1
             . simp only[Bool.false_and]at ur
               cases hk1:dpLk y.its[m].1 s.1 with
               | none =>
                 rw[hk1]at gd;simp only[dpG,hk1,Option.getD_none]at um;simp -implicitDefEqProofs[hm,ita,w3,gd];exact Yn.sub (by simp[lk,Ya,AV.keys]) (by simp[lk,Yd,Ya,AV.keys,dpA,lfA,um,ur,isa])
               | some v =>
                 rw[hk1]at gd;simp only[dpG,hk1,Option.getD_some]at um;simp -implicitDefEqProofs[hm,ita,w3,gd];exact Yn.sub (by simp[lk,Ya,AV.keys]) (by simp[lk,Yd,Ya,AV.keys,dpA,lfA,um,ur,isa])
             . by_cases hin:y.its[m].1∈s.2
               . rw[if_pos hin]at gl;simp only[hin,decide_true,Bool.not_true,Bool.and_false]at ur
                 cases hk1:dpLk y.its[m].1 s.1 with
                 | none =>
                   rw[hk1]at gd;simp only[dpG,hk1,Option.getD_none]at um;simp -implicitDefEqProofs[hm,ita,w3,gd,gl];exact Yn.sub (by simp[lk,Ya,AV.keys]) (by simp[lk,Yd,Ya,AV.keys,dpA,lfA,um,ur,isa])
                 | some v =>
                   rw[hk1]at gd;simp only[dpG,hk1,Option.getD_some]at um;simp -implicitDefEqProofs[hm,ita,w3,gd,gl];exact Yn.sub (by simp[lk,Ya,AV.keys]) (by simp[lk,Yd,Ya,AV.keys,dpA,lfA,um,ur,isa])
               . rw[if_neg hin]at gl;simp only[hin,decide_false,Bool.not_false,Bool.and_true]at ur
                 cases hk1:dpLk y.its[m].1 s.1 with
                 | none =>
                   rw[hk1]at gd;simp only[dpG,hk1,Option.getD_none]at um;simp -implicitDefEqProofs[hm,ita,w3,gd,gl];exact Yn.sub (by simp[lk,Ya,AV.keys]) (by simp[lk,Yd,Ya,AV.keys,dpA,lfA,um,ur,isa])
                 | some v =>
                   rw[hk1]at gd;simp only[dpG,hk1,Option.getD_some]at um;simp -implicitDefEqProofs[hm,ita,w3,gd,gl];exact Yn.sub (by simp[lk,Ya,AV.keys]) (by simp[lk,Yd,Ya,AV.keys,dpA,lfA,um,ur,isa])
           . intro _;refine Qga ?_;simp -implicitDefEqProofs[];refine Qgr ?_;simp -implicitDefEqProofs[RndB,Yj,newK,frzO,frzA,frz,AV.keys,tm,tr,dpA,lfA,Function.comp_def]
             try trivial
         . intro _;have hel:(elsOf r n).length=(issOf r n).length:=(by simp[elsOf,issOf]);have etk:(issOf r n).take (issOf r n).length=issOf r n:=List.take_of_length_le (Nat.le_refl _);have hbd:=Zd7 hI (issOf r n) 0 (Int.le_refl _) (by omega);have hlen:=hI.len;have w4:IntKind.i64.wrap (msN s.1 0 (issOf r n)+1)=msN s.1 0 (issOf r n)+1:=Yg (by omega) (by omega);have rdpA:∀ dp,AObj.ren (λk=>k-1000) (.mp (dpA dp)) = .mp (dpA dp):=λdp=>by simp[AObj.ren,dpA,AV.ren,Function.comp_def]
           have rlfA:∀ lf,AObj.ren (λk=>k-1000) (.mp (lfA lf)) = .mp (lfA lf):=λlf=>by simp[AObj.ren,lfA,AV.ren,Function.comp_def]
           have rbx:∀ cs,AObj.ren (λk=>k-1000) (.box cs) = .box (cs.map (AV.ren λk=>k-1000)):=λ_=>rfl
           cases hrd2:rdN s.2 true (issOf r n)
           . have hst2:dStep r s n=s:=(by simp[dStep,hm,hrd2]);rw[hst2]at hst;simp -implicitDefEqProofs[Ym,rdpA,rlfA,rbx,AV.ren,hel,etk,hrd2];refine Qgr ?_;simp -implicitDefEqProofs[w2];rw[hst];exact Yn.sub (by simp[lk,Ya,AV.keys,bkA]) (by simp[lk,Yd,Ya,AV.keys,dpA,lfA])
           . have hmem:n∈s.2:=Zd3 (by rw[hm];exact hrd2);have hst2:dStep r s n=(s.1++[(n,msN s.1 0 (issOf r n)+1)],s.2.erase n):=(by simp[dStep,hm,hrd2]);rw[hst2]at hst
             have hnk:n ∉ s.1.map (·.1):=λhin=>by
              have:=(List.nodup_append.1 (hI.perm.nodup_iff.2 hnd)).2.2 n hin n hmem;exact this rfl
             have pd:=ZcR (msN s.1 0 (issOf r n)+1) hnk;have dl:=ZcW hmem;simp -implicitDefEqProofs[Ym,rdpA,rlfA,rbx,AV.ren,hel,etk,hrd2];refine Qgr ?_;simp -implicitDefEqProofs[w2,w4,pd,dl];rw[hst];exact Yn.sub (by simp[lk,Ya,AV.keys,bkA]) (by simp[lk,Yd,Ya,AV.keys,dpA,lfA])
     . intro _;refine Qga ?_;have etk:(nums r).take (nums r).length=nums r:=List.take_of_length_le (Nat.le_refl _);simp -implicitDefEqProofs[];refine Qgr ?_;have e:(nums r).foldl (dStep r) (dRun r k)=dRun r (k+1):=rfl;simp -implicitDefEqProofs[w1,e];exact Yn.sub (by simp[lk,Ya,AV.keys,bkA]) (by simp[lk,Yd,Ya,AV.keys,dpA,lfA])
   . intro _;refine Qga ?_;simp -implicitDefEqProofs[];refine Qgr ?_;have hla:(lfA (dRun r (nums r).length).2).length=(dRun r (nums r).length).2.length:=(by simp[lfA]);have hpu:(dpA (dRun r (nums r).length).1).all (λp=>p.1.pure&&p.2.pure)=true:=(by simp[dpA,AV.pure]);simp -implicitDefEqProofs[hla,hpu]
end
def FinZ (rs:List RRes) (v:AV):Exit->St->Prop
 |.normal,st | .ret,st=>∃ xs ys,Z29 st rs=some xs/\Yk (snap st) xs=some ys/\v=nz (tupV ys)
 |_,_=>False
theorem Zda {P:Program} {G:Nat->Option (List AV)} {f:FuncId} {fn:Func} {c:Code} {rc:RCode} {rs:List RRes} {args:List AV} {v:AV} (hf:P.funcs[f]? = some fn) (hb:fn.body=some c) (he:entB P f=true)
  (hc:Z1A P fn.ntmps c rc=true) (hrs:allB2 (okRes P) fn.results.toList rs=true) (hn:args.length<=fn.ntmps)
  (h:∀ R:Run,R.N=fn.ntmps->R.G=G->R.Top->AR P R rc (Z2a args) (FinZ rs v)):PC P G f args v:=by
 refine ⟨he,λM W vs hM hG hsz hvs=>?_⟩;refine callsIn_wide.1 (callsIn_of_wp_marks (F:=FW none) (n:=1) hf hb trivial ?_)
 let R:Run:={ G:=G,M:=M,X:=λ_=>False,W0:=W,N:=fn.ntmps,E0:={ M:=M,loc:=λ_=>none,row:=λ_=>none } }
 have h0:SK R (Z2a args) { tmps:=vs++Array.replicate (fn.ntmps-vs.size) Go.undef,defers:=[] } W (λ_=>none):=by
  have hGM:∀ b,b<W.heap.size->¬M b->¬((Z2a args).env M (λ_=>none)).M b/\W.heap[b]? = W.heap[b]?:=λb _ h1=>⟨(by rintro (h2 | ⟨k,s,h2⟩) <;> first|exact h1 h2|cases h2),rfl⟩
  refine ⟨.nil _ _ _ _,by show (vs++_).size=fn.ntmps;simp;omega,λn x hx=>?_,(λk o ho=>by simp[Z2a,St.get,lk]at ho),(λk p hk=>by cases hk),(λk k' b s s' hk=>by cases hk),hM,λ_ _ h=>h,Kp.refl _ _,hG.mono hGM (Nat.le_refl _),⟨Nat.le_refl _,hGM,λk p hk=>(by cases hk),λk sz m hk=>(by cases hk)⟩,λ_ _=>⟨rfl,rfl⟩⟩;simp only[Z2a,St.tmp,Z2b,Nat.zero_le,if_true,Nat.sub_zero]at hx;show VR _ W x ((vs++Array.replicate (fn.ntmps-vs.size) Go.undef).getD n Go.undef);rw[Array.getD_eq_getD_getElem?,Array.getElem?_append];have c1:n<args.length:=(List.getElem?_eq_some_iff.1 hx).1;rw[if_pos (by omega)];have:vs[n]? = some vs[n]:=(by simp);rw[this];exact .pv ((hvs n x _ hx this).mono hGM (Nat.le_refl _))
 refine wpIn_mono (h R rfl rfl ⟨rfl,rfl⟩ c hc 1 _ W ⟨_,h0⟩) ?_
 have key:∀ (a':Act) (W':World) (st':St),(∃ xs ys,Z29 st' rs=some xs/\Yk (snap st') xs=some ys/\v=nz (tupV ys))->SR R st' a' W' ->
   ∃ u,(results fn a'.tmps).run P W' = .ok u W'/\∃ u',Ending.returned u = .returned u'/\PV M W' v u'/\Ext W W':=by
  rintro a' W' st' ⟨xs,ys,h1,h2,rfl⟩ ⟨κ,hk⟩;obtain ⟨us,h3,h4⟩:=Z2d (P:=P) hk hrs h1;obtain ⟨h5,h6⟩:=Z1R h2;have hE:Ext W W':=⟨hk.kp.os,hk.kp.tape,hk.kp.output,hk.kp.size,λi hi=>hk.kp.block i hi (λh=>h)⟩
  have hp:∀ (i:Nat) (y:AV) (u:Value),ys[i]? = some y->us[i]? = some u->PV M W' y u:=λi y u hy hu=>by
   obtain ⟨x,h7,h8⟩:=h6 i y hy;exact Z1T hk (h4.2 i x u h7 hu) h8
  have hl:us.length=ys.length:=(by have:=h4.1;omega);refine ⟨(if h:us.toArray.size=1 then us.toArray[0] else .tuple us.toArray),?_,_,rfl,PV.nz ?_,hE⟩
  . unfold results;rw[Sem.run_bind]
    have:(fn.results.mapM λrv=>(match rv with
     |.tmp t=>pure (a'.tmps.getD t Go.undef)
     |.cell p t=>do loadVar t (<- asAddr (a'.tmps.getD p Go.undef)):Sem Value)).run P W' = .ok us.toArray W':=by
     rw[Array.mapM_eq_mapM_toList,Sem.run_map];exact congrArg (λz=>Result.andThen z (λa w'=>Result.ok a.toArray w')) h3
    erw [this]
    rfl
  . match ys,us,hl,hp with
    |[],[],_,_=>exact .tup [] _ rfl (by simp)
    |[y],[u],_,hp=>exact hp 0 y u rfl rfl
    | y::y2::ys,u::u2::us,hl,hp =>
      rw[dif_neg (by simp)];exact .tup _ _ (by simpa using hl) (λi x w hx hw=>hp i x w hx (by simpa using hw))
 rintro e a' W' ⟨st',h1,κ,h2⟩
 cases e <;> try (exact h1.elim)
 all_goals
  refine h2.leave (by simp) rfl λa2 W2 ht hs2=>?_
  have:=key a2 W2 st' h1 ⟨κ,hs2⟩;rw[ht]at this;exact this
section
variable {G:Nat->Option (List AV)}
theorem Zdb (l:List (Int×Int)):∀ r∈l.map ita,∀ x∈r,x.flat=true:=by
 intro r hr x hx;obtain ⟨p,-,rfl⟩:=List.mem_map.1 hr;simp only[ita,List.mem_cons,List.not_mem_nil,or_false]at hx;rcases hx with rfl|rfl <;> simp[AV.flat]
theorem Zdc (l:List (Int×Int)):∀ r∈l.map ita,∀ x∈r,x.pure=true:=by
 intro r hr x hx;obtain ⟨p,-,rfl⟩:=List.mem_map.1 hr;simp only[ita,List.mem_cons,List.not_mem_nil,or_false]at hx;rcases hx with rfl|rfl <;> simp[AV.pure]
theorem Zdd (l:List Dm):∀ r∈l.map dma,∀ x∈r,x.flat=true:=by
 intro r hr x hx;obtain ⟨p,-,rfl⟩:=List.mem_map.1 hr;simp only[dma,List.mem_cons,List.not_mem_nil,or_false]at hx;rcases hx with rfl|rfl|rfl <;> simp[AV.flat]
theorem Zde (l:List Dm):∀ r∈l.map dma,∀ x∈r,x.pure=true:=by
 intro r hr x hx;obtain ⟨p,-,rfl⟩:=List.mem_map.1 hr;simp only[dma,List.mem_cons,List.not_mem_nil,or_false]at hx;rcases hx with rfl|rfl|rfl <;> simp[AV.pure]
theorem Zdf (l:List (Int×Int)) (hne:l≠[]) (hl:Sml l):PN Tryz.prog G 77 [.vsl (l.map ita)] 2 (l.map ita):=by
 refine PN_of (Zdb l) (Zdc l) Tryz.func77 rfl (by kernel_rfl) (rc:=Zaf) (by kernel_rfl) (rs:=Zag) (by kernel_rfl) (Nat.le_of_ble_eq_true rfl) λR _ hG hrd=>Qga ?_
 unfold Sml at hl;have b1:l.length*16<=70368744177664:=(by omega);have h0:¬l.length=0:=λe=>hne (List.length_eq_zero_iff.1 e)
 have k1:(l.map ita).all (λr=>r.length == 2)=true:=(by simp[ita]);have k2:(l.map ita).all (λr=>r.all AV.one)=true:=(by simp[ita,AV.one]);have k5:(l.map ita).all (λr=>r.all AV.pure)=true:=(by simp[ita,AV.pure]);simp -implicitDefEqProofs[Zaf,Zag,h0,hne,b1,k1,k2,k5,FinN]
theorem Zdg (l:List Dm) (hne:l≠[]) (hl:Sml l):PN Tryz.prog G 78 [.vsl (l.map dma)] 3 (l.map dma):=by
 refine PN_of (Zdd l) (Zde l) Tryz.func78 rfl (by kernel_rfl) (rc:=Zah) (by kernel_rfl) (rs:=Zai) (by kernel_rfl) (Nat.le_of_ble_eq_true rfl) λR _ hG hrd=>Qga ?_
 unfold Sml at hl;have b1:l.length*24<=70368744177664:=(by omega);have h0:¬l.length=0:=λe=>hne (List.length_eq_zero_iff.1 e)
 have k1:(l.map dma).all (λr=>r.length == 3)=true:=(by simp[dma]);have k2:(l.map dma).all (λr=>r.all AV.one)=true:=(by simp[dma,AV.one]);have k5:(l.map dma).all (λr=>r.all AV.pure)=true:=(by simp[dma,AV.pure]);simp -implicitDefEqProofs[Zah,Zai,h0,hne,b1,k1,k2,k5,FinN]
theorem Zdh:PC Tryz.prog G 77 [.vsl []] (.vsl []):=by
 refine Zda Tryz.func77 rfl (by kernel_rfl) (rc:=Zaf) (by kernel_rfl) (rs:=Zag) (by kernel_rfl) (Nat.le_of_ble_eq_true rfl) λR _ hG hrd=>Qga ?_
 simp -implicitDefEqProofs[Zaf,Zag,FinZ,nz]
theorem Zdi:PC Tryz.prog G 78 [.vsl []] (.vsl []):=by
 refine Zda Tryz.func78 rfl (by kernel_rfl) (rc:=Zah) (by kernel_rfl) (rs:=Zai) (by kernel_rfl) (Nat.le_of_ble_eq_true rfl) λR _ hG hrd=>Qga ?_
 simp -implicitDefEqProofs[Zah,Zai,FinZ,nz]
end
def GC (G:Nat->Option (List AV)):Prop:=G 2=some [.func (.func 199) [] [],.func (.func 200) [] [],.func (.func 201) [] [],.func (.func 202) [] []]
def ckN (x:Iss):Nat->Bool
 |0=>ck1 x
 |1=>ck2 x
 |2=>ck3 x
 |_=>ck4 x
theorem Zdj {x:Iss} (h:∀ j,j<4->ckN x j=true):issB x=true:=by
 rw[Zcd,show ck1 x=true from h 0 (by omega),show ck2 x=true from h 1 (by omega),show ck3 x=true from h 2 (by omega),show ck4 x=true from h 3 (by omega)];rfl
theorem Zdk {x:Iss} {j:Nat} (hj:j<4) (h:ckN x j=false):issB x=false:=by
 rw[Zcd];have:j=0∨j=1∨j=2∨j=3:=(by omega);rcases this with rfl|rfl|rfl|rfl <;> simp only[ckN]at h <;> simp[h]
def openV (r:List Iss):Int:=if Zbv r=true then
    if 0<(dRun r (nums r).length).2.length then 21 else if (∃ p∈(dRun r (nums r).length).1,6<p.2) then 20 else 0
 else 20
def openA (r:List Iss):AV:=.tup [if openV r=0 then bkA r (nums r) else .nilp,.int .i64 (openV r)]
theorem Zdl {r:List Iss} (h:Zbv r=false):openA r = .tup [.nilp,.int .i64 20]:=by simp[openA,openV,h]
def opS (r:List Iss):Nat->St
 |0=>⟨[(28,.int .i64 0),(27,.int .i64 r.length),(26,.vsl (r.map isa)),(1,.ptr 1 0),(4,.ptr 4 0)],[(1,.box [.vsl (r.map isa)]),(4,.box [.ptr 18 0]),(18,.box [.vsl (r.map isa),.nils])]⟩
 |i+1=>⟨[(28,.int .i64 (i+1:Nat)),(27,.int .i64 r.length),(26,.vsl (r.map isa)),(1,.ptr 1 0),(4,.ptr 4 0)],[(1,.box [.vsl (r.map isa)]),(4,.box [.ptr 18 0]),(18,.box [.vsl (r.map isa),.osl 85 (numsN r (i+1)).length]),(85,.row 1 ((numsN r (i+1)).map ia))]⟩
def opT (r:List Iss) (k:Nat):St:=⟨[(98,.int .i64 k),(97,.int .i64 r.length),(96,.vsl (r.map isa)),(4,.vptr [bkA r (nums r)] 0)],[]⟩
def opJ (r:List Iss) (i:Nat) (x:Iss) (j:Nat):St:=⟨[(34,.int .i64 j),(33,.agg [.func (.func 199) [] [],.func (.func 200) [] [],.func (.func 201) [] [],.func (.func 202) [] []]),(5,.int .i64 i),(6,.ptr 6 0)]++(opS r i).t,(opS r i).o++[(6,.box (isa x))]⟩
theorem Zdm {x:Iss} {j:Nat} (hc:∀ k,k<j->ckN x k=true) (h:ckN x j=true):∀ k,k<j+1->ckN x k=true:=λk hk=>by
 by_cases e:k=j
 . rw[e];exact h
 . exact hc k (by omega)
section
variable {G:Nat->Option (List AV)}
set_option maxRecDepth 4000 in
theorem Zdn (hG:GC G) (r:List Iss) (h:Wf r):PC Tryz.prog G 100 [rega r] (openA r):=by
 (refine Z8M rfl λR hG hrd=>Qga ?_;subst hG)
 unfold GC at hG;have hs:=h.1.1;unfold Sml at hs;simp -implicitDefEqProofs[Z8K,Z8L,rega];refine Ye.flat (Zca 1 60 r.length) (by simp[AV.flat]) (by simp) ?_
 cases q1:inR r.length 1 60
 . simp -implicitDefEqProofs[Zdl (r:=r) (by simp[Zbv,q1])]
 have q1':1<=r.length/\r.length<=60:=by
  have:=of_decide_eq_true q1;omega
 simp -implicitDefEqProofs[];refine Zba (opS r) (λi=>∀ j (h:j<r.length),j<i->issB r[j]=true/\ordB r j=true) r.length (by simp only[opS];(first|exact Yn.tm (by simp[lk])|exact Yn.sub (by simp[lk,Ya,AV.keys]) (by simp[lk,Yd,Ya,AV.keys]))) (by simp) ?_ ?_
 . intro i hi he;refine Qga ?_;have w1:IntKind.i64.wrap ((i:Int)+1)=((i+1:Nat):Int):=Yg (by omega) (by omega);have a1:=at_eq hi;have hx:=h.1.2 r[i] (List.getElem_mem hi);have hk:=h.2 r[i] (List.getElem_mem hi);have a1:=at_eq hi
   cases i with
   | zero =>
     simp -implicitDefEqProofs[opS,hi,isa,hG];refine Zba (opJ r (0) r[0]) (λj=>∀ k,k<j->ckN r[0] k=true) 4 (by simp only[opJ,opS];(first|exact Yn.tm (by simp[lk,isa,ia])|exact Yn.sub (by simp[lk,Ya,AV.keys,isa,ia]) (by simp[lk,Yd,Ya,AV.keys,isa,ia]))) (by simp) ?_ ?_
     . intro j hj hc;refine Qga ?_;rcases (show j=0∨j=1∨j=2∨j=3 by omega) with rfl|rfl|rfl|rfl
       . have v0:IntKind.i64.wrap 1=1:=rfl;simp -implicitDefEqProofs[opJ,opS,isa];refine Qco (Zce r[0]) (by simp) ?_
         cases q:ck1 r[0]
         . simp -implicitDefEqProofs[];refine Qgr ?_;simp -implicitDefEqProofs[];refine Qgr ?_;simp -implicitDefEqProofs[Zdl (Zbw hi (Zdk (j:=0) (by omega) q))]
         . simp -implicitDefEqProofs[v0]
           first|exact ⟨(by (first|exact Yn.tm (by simp[lk,opJ,opS,isa,ia])|exact Yn.sub (by simp[lk,Ya,AV.keys,opJ,opS,isa,ia]) (by simp[lk,Yd,Ya,AV.keys,opJ,opS,isa,ia]))),Zdm hc q⟩|exact ⟨(by (first|exact Yn.tm (by simp[lk,opJ,opS,isa,ia])|exact Yn.sub (by simp[lk,Ya,AV.keys,opJ,opS,isa,ia]) (by simp[lk,Yd,Ya,AV.keys,opJ,opS,isa,ia]))),q⟩
       . have v1:IntKind.i64.wrap 2=2:=rfl;simp -implicitDefEqProofs[opJ,opS,isa];refine Qco (Zcf r[0] hk) (by simp) ?_
         cases q:ck2 r[0]
         . simp -implicitDefEqProofs[];refine Qgr ?_;simp -implicitDefEqProofs[];refine Qgr ?_;simp -implicitDefEqProofs[Zdl (Zbw hi (Zdk (j:=1) (by omega) q))]
         . simp -implicitDefEqProofs[v1]
           first|exact ⟨(by (first|exact Yn.tm (by simp[lk,opJ,opS,isa,ia])|exact Yn.sub (by simp[lk,Ya,AV.keys,opJ,opS,isa,ia]) (by simp[lk,Yd,Ya,AV.keys,opJ,opS,isa,ia]))),Zdm hc q⟩|exact ⟨(by (first|exact Yn.tm (by simp[lk,opJ,opS,isa,ia])|exact Yn.sub (by simp[lk,Ya,AV.keys,opJ,opS,isa,ia]) (by simp[lk,Yd,Ya,AV.keys,opJ,opS,isa,ia]))),q⟩
       . have v2:IntKind.i64.wrap 3=3:=rfl;simp -implicitDefEqProofs[opJ,opS,isa];refine Qco (Zcg r[0] hx.1) (by simp) ?_
         cases q:ck3 r[0]
         . simp -implicitDefEqProofs[];refine Qgr ?_;simp -implicitDefEqProofs[];refine Qgr ?_;simp -implicitDefEqProofs[Zdl (Zbw hi (Zdk (j:=2) (by omega) q))]
         . simp -implicitDefEqProofs[v2]
           first|exact ⟨(by (first|exact Yn.tm (by simp[lk,opJ,opS,isa,ia])|exact Yn.sub (by simp[lk,Ya,AV.keys,opJ,opS,isa,ia]) (by simp[lk,Yd,Ya,AV.keys,opJ,opS,isa,ia]))),Zdm hc q⟩|exact ⟨(by (first|exact Yn.tm (by simp[lk,opJ,opS,isa,ia])|exact Yn.sub (by simp[lk,Ya,AV.keys,opJ,opS,isa,ia]) (by simp[lk,Yd,Ya,AV.keys,opJ,opS,isa,ia]))),q⟩
       . have v3:IntKind.i64.wrap 4=4:=rfl;simp -implicitDefEqProofs[opJ,opS,isa];refine Qco (Zci r[0] hx.2) (by simp) ?_
         cases q:ck4 r[0]
         . simp -implicitDefEqProofs[];refine Qgr ?_;simp -implicitDefEqProofs[];refine Qgr ?_;simp -implicitDefEqProofs[Zdl (Zbw hi (Zdk (j:=3) (by omega) q))]
         . simp -implicitDefEqProofs[v3]
           first|exact ⟨(by (first|exact Yn.tm (by simp[lk,opJ,opS,isa,ia])|exact Yn.sub (by simp[lk,Ya,AV.keys,opJ,opS,isa,ia]) (by simp[lk,Yd,Ya,AV.keys,opJ,opS,isa,ia]))),Zdm hc q⟩|exact ⟨(by (first|exact Yn.tm (by simp[lk,opJ,opS,isa,ia])|exact Yn.sub (by simp[lk,Ya,AV.keys,opJ,opS,isa,ia]) (by simp[lk,Yd,Ya,AV.keys,opJ,opS,isa,ia]))),q⟩
     . intro hc;refine Qga ?_;have p1:issB r[0]=true:=Zdj hc;simp -implicitDefEqProofs[opJ,opS,isa];refine Qgr ?_;by_cases p3:r[0].l=1
       . have hn:numsN r 1=[r[0].d]:=(by simp[numsN,newB,a1]);have ok:ordB r 0=true:=(by simp[ordB,a1,p3]);have w0:IntKind.i64.wrap 1=1:=rfl;simp -implicitDefEqProofs[p3,w0];exact ⟨rfl,(by (first|exact Yn.tm (by simp[lk,opS,hn,ia])|exact Yn.sub (by simp[lk,Ya,AV.keys,opS,hn,ia]) (by simp[lk,Yd,Ya,AV.keys,opS,hn,ia]))),λj q1 q2=>by subst q2;exact ⟨p1,ok⟩⟩
       . simp -implicitDefEqProofs[p3];refine Qgr ?_;simp -implicitDefEqProofs[Zdl (Zbx hi (by simp[ordB,a1,p3]))]
   | succ i =>
     have k1:(i:Int)+1<r.length:=(by omega);have k2:((i:Int)+1).toNat=i+1:=(by omega);have k3:(0:Int)<=(i:Int)+1:=(by omega);simp -implicitDefEqProofs[opS,hi,isa,hG,k1,k2,k3];refine Zba (opJ r (i+1) r[i+1]) (λj=>∀ k,k<j->ckN r[i+1] k=true) 4 (by simp only[opJ,opS];(first|exact Yn.tm (by simp[lk,isa,ia])|exact Yn.sub (by simp[lk,Ya,AV.keys,isa,ia]) (by simp[lk,Yd,Ya,AV.keys,isa,ia]))) (by simp) ?_ ?_
     . intro j hj hc;refine Qga ?_;rcases (show j=0∨j=1∨j=2∨j=3 by omega) with rfl|rfl|rfl|rfl
       . have v0:IntKind.i64.wrap 1=1:=rfl;simp -implicitDefEqProofs[opJ,opS,isa];refine Qco (Zce r[i+1]) (by simp) ?_
         cases q:ck1 r[i+1]
         . simp -implicitDefEqProofs[];refine Qgr ?_;simp -implicitDefEqProofs[];refine Qgr ?_;simp -implicitDefEqProofs[Zdl (Zbw hi (Zdk (j:=0) (by omega) q))]
         . simp -implicitDefEqProofs[v0]
           first|exact ⟨(by (first|exact Yn.tm (by simp[lk,opJ,opS,isa,ia])|exact Yn.sub (by simp[lk,Ya,AV.keys,opJ,opS,isa,ia]) (by simp[lk,Yd,Ya,AV.keys,opJ,opS,isa,ia]))),Zdm hc q⟩|exact ⟨(by (first|exact Yn.tm (by simp[lk,opJ,opS,isa,ia])|exact Yn.sub (by simp[lk,Ya,AV.keys,opJ,opS,isa,ia]) (by simp[lk,Yd,Ya,AV.keys,opJ,opS,isa,ia]))),q⟩
       . have v1:IntKind.i64.wrap 2=2:=rfl;simp -implicitDefEqProofs[opJ,opS,isa];refine Qco (Zcf r[i+1] hk) (by simp) ?_
         cases q:ck2 r[i+1]
         . simp -implicitDefEqProofs[];refine Qgr ?_;simp -implicitDefEqProofs[];refine Qgr ?_;simp -implicitDefEqProofs[Zdl (Zbw hi (Zdk (j:=1) (by omega) q))]
         . simp -implicitDefEqProofs[v1]
           first|exact ⟨(by (first|exact Yn.tm (by simp[lk,opJ,opS,isa,ia])|exact Yn.sub (by simp[lk,Ya,AV.keys,opJ,opS,isa,ia]) (by simp[lk,Yd,Ya,AV.keys,opJ,opS,isa,ia]))),Zdm hc q⟩|exact ⟨(by (first|exact Yn.tm (by simp[lk,opJ,opS,isa,ia])|exact Yn.sub (by simp[lk,Ya,AV.keys,opJ,opS,isa,ia]) (by simp[lk,Yd,Ya,AV.keys,opJ,opS,isa,ia]))),q⟩
       . have v2:IntKind.i64.wrap 3=3:=rfl;simp -implicitDefEqProofs[opJ,opS,isa];refine Qco (Zcg r[i+1] hx.1) (by simp) ?_
         cases q:ck3 r[i+1]
         . simp -implicitDefEqProofs[];refine Qgr ?_;simp -implicitDefEqProofs[];refine Qgr ?_;simp -implicitDefEqProofs[Zdl (Zbw hi (Zdk (j:=2) (by omega) q))]
         . simp -implicitDefEqProofs[v2]
           first|exact ⟨(by (first|exact Yn.tm (by simp[lk,opJ,opS,isa,ia])|exact Yn.sub (by simp[lk,Ya,AV.keys,opJ,opS,isa,ia]) (by simp[lk,Yd,Ya,AV.keys,opJ,opS,isa,ia]))),Zdm hc q⟩|exact ⟨(by (first|exact Yn.tm (by simp[lk,opJ,opS,isa,ia])|exact Yn.sub (by simp[lk,Ya,AV.keys,opJ,opS,isa,ia]) (by simp[lk,Yd,Ya,AV.keys,opJ,opS,isa,ia]))),q⟩
       . have v3:IntKind.i64.wrap 4=4:=rfl;simp -implicitDefEqProofs[opJ,opS,isa];refine Qco (Zci r[i+1] hx.2) (by simp) ?_
         cases q:ck4 r[i+1]
         . simp -implicitDefEqProofs[];refine Qgr ?_;simp -implicitDefEqProofs[];refine Qgr ?_;simp -implicitDefEqProofs[Zdl (Zbw hi (Zdk (j:=3) (by omega) q))]
         . simp -implicitDefEqProofs[v3]
           first|exact ⟨(by (first|exact Yn.tm (by simp[lk,opJ,opS,isa,ia])|exact Yn.sub (by simp[lk,Ya,AV.keys,opJ,opS,isa,ia]) (by simp[lk,Yd,Ya,AV.keys,opJ,opS,isa,ia]))),Zdm hc q⟩|exact ⟨(by (first|exact Yn.tm (by simp[lk,opJ,opS,isa,ia])|exact Yn.sub (by simp[lk,Ya,AV.keys,opJ,opS,isa,ia]) (by simp[lk,Yd,Ya,AV.keys,opJ,opS,isa,ia]))),q⟩
     . intro hc;refine Qga ?_;have p1:issB r[i+1]=true:=Zdj hc;simp -implicitDefEqProofs[opJ,opS,isa];refine Qgr ?_;have w2:IntKind.i64.wrap (i:Int)=(i:Int):=Yg (by omega) (by omega);have w3:IntKind.i64.wrap ((i:Int)+1+1)=(i:Int)+1+1:=Yg (by omega) (by omega);have k3:(0:Int)<(i:Int)+1:=(by omega);have hi2:i<r.length:=(by omega);have a2:=at_eq hi2;have bl:=(he i hi2 (by omega)).1;simp only[issB,headB,Bool.and_eq_true,inR,decide_eq_true_eq]at bl;have w4:IntKind.i64.wrap (r[i].l+1)=r[i].l+1:=Yg (by omega) (by omega);have b1:=Zbl r (i+1);have b2:((numsN r (i+1)).length+1)*8<=70368744177664:=by omega
       have go:ordB r (i+1)=true->∀ j (h:j<r.length),j<i+1+1->issB r[j]=true/\ordB r j=true:=λg2 j q1 q2=>by
        by_cases e:j=i+1
        . subst e;exact ⟨p1,g2⟩
        . exact he j q1 (by omega)
       by_cases p3:r[i].d=r[i+1].d
       . have hn:numsN r (i+1+1)=numsN r (i+1):=(by rw[numsN];simp[newB,a1,a2,p3]);by_cases p5:r[i+1].l=r[i].l+1
         case neg =>
          have p5':¬r[i].l+1=r[i+1].l:=λe=>p5 e.symm
          simp -implicitDefEqProofs[k3,w2,w4,hi2,isa,p3,p5'];refine Qgr ?_;simp -implicitDefEqProofs[Zdl (Zbx hi (by simp[ordB,a1,a2,p3,p5]))]
         by_cases p6:r[i].k=r[i+1].k
         . have ok:ordB r (i+1)=true:=(by simp[ordB,a1,a2,p3,p5,p6]);simp -implicitDefEqProofs[k3,w2,w3,w4,hi2,isa,p3,p5,p6];exact ⟨(by (first|exact Yn.tm (by simp[lk,opS,hn,ia])|exact Yn.sub (by simp[lk,Ya,AV.keys,opS,hn,ia]) (by simp[lk,Yd,Ya,AV.keys,opS,hn,ia]))),go ok⟩
         . have p6':¬r[i+1].k=r[i].k:=λe=>p6 e.symm
           simp -implicitDefEqProofs[k3,w2,w4,hi2,isa,p3,p5,p6];refine Qgr ?_;simp -implicitDefEqProofs[Zdl (Zbx hi (by simp[ordB,a1,a2,p3,p5,p6']))]
       by_cases p4:r[i+1].d<r[i].d
       . simp -implicitDefEqProofs[k3,w2,hi2,isa,p3,p4];refine Qgr ?_;simp -implicitDefEqProofs[Zdl (Zbx hi (by simp[ordB,a1,a2,p4]))]
       have p7:r[i].d<r[i+1].d:=(by omega);have hn:numsN r (i+1+1)=numsN r (i+1)++[r[i+1].d]:=(by rw[numsN];simp[newB,a1,a2,p3]);by_cases p5:r[i+1].l=1
       . have ok:ordB r (i+1)=true:=(by simp[ordB,a1,a2,p4,p7,p5]);simp -implicitDefEqProofs[k3,w2,w3,hi2,isa,p3,p4,p5,b2];exact ⟨rfl,(by (first|exact Yn.tm (by simp[lk,opS,hn,ia])|exact Yn.sub (by simp[lk,Ya,AV.keys,opS,hn,ia]) (by simp[lk,Yd,Ya,AV.keys,opS,hn,ia]))),go ok⟩
       . simp -implicitDefEqProofs[k3,w2,hi2,isa,p3,p4,p5];refine Qgr ?_;simp -implicitDefEqProofs[Zdl (Zbx hi (by simp[ordB,a1,a2,p4,p7,p5]))]
 . intro he;refine Qga ?_;obtain ⟨n,hn⟩ : ∃ n,r.length=n+1:=⟨r.length-1,by omega⟩;have e:numsN r (n+1)=nums r:=by rw[nums,hn]
   have g1:r.all issB=true:=List.all_eq_true.2 λx hx=>by
    obtain ⟨j,hj,rfl⟩:=List.getElem_of_mem hx;exact (he j hj hj).1
   have g2:(List.range r.length).all (ordB r)=true:=Zbs.2 λj hj=>(he j hj hj).2
   have hO:Ord r:=λi hi=>by
    have:=(he (i+1) hi (by omega)).2;simp only[ordB]at this
    split at this
    . cases this
    . omega
   have hns:Sml (nums r):=(by have:=ZbB r;unfold Sml;omega);have hsn:(nums r).Pairwise (· <= ·):=(ZbF hO).imp λh=>Int.le_of_lt h
   have k1:¬(n:Int)+1<r.length:=(by omega);rw[hn];simp -implicitDefEqProofs[opS,k1,e];refine Qgr ?_;simp -implicitDefEqProofs[];by_cases c20:20<(nums r).length
   . have c20':(20:Int)<(nums r).length:=(by omega);simp -implicitDefEqProofs[c20',Zdl (r:=r) (by simp[Zbv];omega)]
   have c20':¬(20:Int)<(nums r).length:=(by omega);have pu:((nums r).map ia).all (λx=>x.all AV.pure)=true:=(by simp[ia,AV.pure]);have pw:(r.map isa).all (λx=>x.all AV.pure)=true:=(by simp[isa,AV.pure]);simp -implicitDefEqProofs[c20'];refine Zba (opT r) (λi=>∀ j (h:j<r.length),j<i->ItsIn r r[j]) r.length (Yn.trans (Yn.frz newK _ (λk hk=>by simp[newK];omega)) ?_) (by simp) ?_ ?_
   . simp only[opT,bkA,Yj];refine Yn.sub (by simp[lk,Ya,AV.keys,Yj,newK,frzA,frz,Yi,Yk,St.get,pu,pw]) (by simp) (by simp[newK])
   . intro i hi hc;refine Qga ?_;have w1:IntKind.i64.wrap ((i:Int)+1)=((i+1:Nat):Int):=Yg (by omega) (by omega);have hx:=h.1.2 r[i] (List.getElem_mem hi);simp -implicitDefEqProofs[opT,hi,isa];refine Qco (Zc4 121 [.vptr [bkA r (nums r)] 0] (λy=>!decide (y.1∈nums r)) r[i].its (by simp[AV.pure]) hx.1 (λy _=>ZcM r (nums r) y hsn hns)) (by simp) ?_
     cases q:r[i].its.any λy=>!decide (y.1∈nums r)
     . simp -implicitDefEqProofs[w1];refine ⟨(by (first|exact Yn.tm (by simp[lk,opT])|exact Yn.sub (by simp[lk,Ya,AV.keys,opT]) (by simp[lk,Yd,Ya,AV.keys,opT]))),λj q1 q2=>?_⟩;by_cases e2:j=i
       . subst e2;intro y hy;have:=List.any_eq_false.1 q y hy;simpa using this
       . exact hc j q1 (by omega)
     . simp -implicitDefEqProofs[];refine Qgr ?_;obtain ⟨y,hy,hy2⟩:=List.any_eq_true.1 q;obtain ⟨k,hk,rfl⟩:=List.getElem_of_mem hy;simp -implicitDefEqProofs[Zdl (Zby hi hk (by simpa using hy2))]
   . intro hc;refine Qga ?_
     have g3:inB r=true:=List.all_eq_true.2 λx hx=>by
      obtain ⟨j,hj,rfl⟩:=List.getElem_of_mem hx;exact List.all_eq_true.2 λy hy=>decide_eq_true (hc j hj hj y hy)
     have hL:Zbv r=true:=by
      simp only[Zbv,q1,g1,g2,g3,Bool.true_and,Bool.and_true,decide_eq_true_eq];omega
     simp -implicitDefEqProofs[opT];refine Qgr ?_;simp -implicitDefEqProofs[];refine Qco (Zd9 r h hO (by omega)) (by simp) ?_;simp -implicitDefEqProofs[];by_cases c21:0<(dRun r (nums r).length).2.length
     . have v:openA r = .tup [.nilp,.int .i64 21]:=(by simp[openA,openV,hL,c21]);simp -implicitDefEqProofs[c21,v]
     simp -implicitDefEqProofs[c21];refine Z5c (kvs:=(dRun r (nums r).length).1) rfl (by simp[opnT,St.tmp,lk]) ?_ ?_
     . intro h6;refine Qgr ?_;have n6:¬ ∃ p∈(dRun r (nums r).length).1,6<p.2:=λ⟨p,hp,hp6⟩=>by have:=h6 p hp;omega
       have v:openA r = .tup [bkA r (nums r),.int .i64 0]:=by
        unfold openA openV;rw[if_pos hL,if_neg c21,if_neg n6];simp
       simp -implicitDefEqProofs[v,bkA]
     . intro h6;refine Qga ?_
       have v:openA r = .tup [.nilp,.int .i64 20]:=by
        unfold openA openV;rw[if_pos hL,if_neg c21,if_pos h6];simp
       simp -implicitDefEqProofs[Z55,v];refine Qgr ?_;simp -implicitDefEqProofs[]
end
theorem Zdo {r:List Iss} (h:openV r=0):Zbv r=true:=by
 unfold openV at h
 split at h
 . assumption
 . cases h
theorem Zdp {r:List Iss} (h:Zbv r=true) {i:Nat} (hi:i<r.length):ordB r i=true:=by
 simp only[Zbv,Bool.and_eq_true]at h;exact Zbs.1 h.1.1.2 i hi
theorem Zdq {r:List Iss} (h:Zbv r=true) {x:Iss} (hx:x∈r):ItsIn r x:=λy hy=>by
 simp only[Zbv,Bool.and_eq_true,inB]at h;exact of_decide_eq_true (List.all_eq_true.1 (List.all_eq_true.1 h.1.2 x hx) y hy)
theorem Zdr {r:List Iss} (hO:Ord r):(r.map (·.d)).Pairwise (· <= ·):=by
 rw[List.pairwise_map,List.pairwise_iff_getElem];intro i j hi hj hij;have:=hO.mono (Nat.le_of_lt hij) hj
 rwa [at_eq hi,at_eq hj]at this
def Lx (x y:Iss):Prop:=x.d<y.d∨(x.d=y.d/\x.l<y.l)
theorem Zds {r:List Iss} (h:Zbv r=true):∀ {i j:Nat},i<j->j<r.length->Lx (at' r i) (at' r j):=by
 intro i j hij hj
 induction j with
 |zero=>omega
 | succ j ih =>
   have step:Lx (at' r j) (at' r (j+1)):=by
    have:=Zdp h hj;simp only[ordB]at this
    split at this
    . cases this
    . split at this
      . rename_i h2;exact .inl h2
      . simp only[Bool.and_eq_true,decide_eq_true_eq]at this;exact .inr ⟨by omega,by omega⟩
   by_cases e:i=j
   . subst e;exact step
   . have:=ih (by omega) (by omega);unfold Lx at *;omega
theorem Zdt {r:List Iss} (h:Zbv r=true):∀ y∈r,findN y.d y.l r=some y:=λy hy=>by
 obtain ⟨i,hi,rfl⟩:=List.getElem_of_mem hy;refine Zbn hi rfl rfl λj hj hij=>?_
 have:=Zds h hij hi;rw[at_eq hj,at_eq hi]at this;unfold Lx at this;omega
section
variable {G:Nat->Option (List AV)}
theorem Zdu (hG:GC G) (r:List Iss) (h:Wf r):PC Tryz.prog G 70 [rega r] (.tup [.vsl ((if openV r=0 then nums r else []).map ia),.int .i64 (openV r)]):=by
 by_cases e:openV r=0
 . (refine Zal rfl λR hG hrd=>Qga ?_;subst hG)
   simp -implicitDefEqProofs[Zaj,Zak,rega];refine Qco (Zdn hG r h) (by simp) ?_;simp -implicitDefEqProofs[openA,e,bkA]
 . refine PC.nzR (v:=.tup [.nils,.int .i64 (openV r)]) ?_ (by simp[nz,e])
   (refine Zal rfl λR hG hrd=>Qga ?_;subst hG)
   simp -implicitDefEqProofs[Zaj,Zak,rega];refine Qco (Zdn hG r h) (by simp) ?_;simp -implicitDefEqProofs[openA,e]
theorem Zdv (ρ:Nat->Nat) (l:List (Int×Int)):(AObj.row 2 (l.map ita)).ren ρ = .row 2 (l.map ita):=by
 simp only[AObj.ren,List.map_map]
 congr 2
 funext p;simp[ita,AV.ren]
def atP (r:List Iss) (d l:Int):Iss×Int:=if openV r=0 then match findN d l r with
    |some x=>(x,0)
    |none=>(zI,6)
 else (zI,openV r)
end
def chL (l:List Iss):List Int:=l.flatMap λx=>x.its.map (·.1)
theorem Zdw (x:Iss) (l:List Iss):chL (x::l)=x.its.map (·.1)++chL l:=rfl
def C (r:List Iss) (n:Int):List Int:=chL (issOf r n)
def dvL (f:Int->Int) (m:Int) (l:List Iss):Int:=l.foldl (λm x=>dvIt f (max m 1) x.its) m
theorem Zdx (r:List Iss) (f:Int->Int) (n:Int):∀ i,i<=r.length->dvN r f n i=dvL f 0 (issOf (r.take i) n)
 |0,_=>by simp[dvN,issOf,dvL]
 | i+1,hi=>by
   have hlt:i<r.length:=(by omega);have ih:=Zdx r f n i (by omega);rw[List.take_succ_eq_append_getElem hlt,issOf,List.filter_append,dvN,at_eq hlt];by_cases e:r[i].d=n
   . rw[if_pos e,ih,List.filter_cons_of_pos (by simpa using e),dvL,dvL,List.foldl_append];rfl
   . rw[if_neg e,ih,List.filter_cons_of_neg (by simpa using e),List.filter_nil,List.append_nil];rfl
theorem Zdy (f:Int->Int):∀ (its:List (Int×Int)) (m:Int),m<=dvIt f m its/\(∀ y∈its,1+f y.1<=dvIt f m its)/\(dvIt f m its=m∨∃ y∈its,dvIt f m its=1+f y.1)
 |[],m=>⟨Int.le_refl _,by simp,.inl rfl⟩
 | y :: its,m=>by
   obtain ⟨h1,h2,h3⟩:=Zdy f its (max m (1+f y.1));have e:dvIt f m (y::its)=dvIt f (max m (1+f y.1)) its:=rfl;rw[e];refine ⟨by omega,λz hz=>?_,?_⟩
   . rcases List.mem_cons.1 hz with rfl|hz
     . omega
     . exact h2 z hz
   . rcases h3 with h3 | ⟨z,hz,h3⟩
     . rcases Int.le_total m (1+f y.1) with hm|hm
       . exact .inr ⟨y,List.mem_cons_self ..,by omega⟩
       . exact .inl (by omega)
     . exact .inr ⟨z,List.mem_cons_of_mem _ hz,h3⟩
theorem Zdz (f:Int->Int):∀ (l:List Iss) (m:Int),m<=dvL f m l/\(l≠[]->1<=dvL f m l)/\(∀ c∈chL l,1+f c<=dvL f m l)/\(dvL f m l=m∨dvL f m l=1∨∃ c∈chL l,dvL f m l=1+f c)
 |[],m=>⟨Int.le_refl _,by simp,by simp[chL],.inl rfl⟩
 | x :: l,m=>by
   obtain ⟨h1,h2,h3⟩:=Zdy f x.its (max m 1);obtain ⟨g1,g2,g3,g4⟩:=Zdz f l (dvIt f (max m 1) x.its);have e:dvL f m (x::l)=dvL f (dvIt f (max m 1) x.its) l:=rfl;rw[e];have q1:m<=max m 1:=Int.le_max_left ..;have q2:1<=max m 1:=Int.le_max_right ..;refine ⟨Int.le_trans q1 (Int.le_trans h1 g1),λ_=>Int.le_trans q2 (Int.le_trans h1 g1),λc hc=>?_,?_⟩
   . rw[Zdw]at hc;rcases List.mem_append.1 hc with hc|hc
     . obtain ⟨y,hy,rfl⟩:=List.mem_map.1 hc;exact Int.le_trans (h2 y hy) g1
     . exact g3 c hc
   . rcases g4 with g4|g4 | ⟨c,hc,g4⟩
     . rcases h3 with h3 | ⟨y,hy,h3⟩
       . rcases Int.le_total m 1 with hm|hm
         . exact .inr (.inl (by omega))
         . exact .inl (by omega)
       . exact .inr (.inr ⟨y.1,by rw[Zdw];exact List.mem_append.2 (.inl (List.mem_map.2 ⟨y,hy,rfl⟩)),by omega⟩)
     . exact .inr (.inl g4)
     . exact .inr (.inr ⟨c,by rw[Zdw];exact List.mem_append.2 (.inr hc),g4⟩)
section
variable {r:List Iss}
theorem ZdA (hO:Ord r) {n:Int} (hn:n∈nums r):issOf r n≠[]:=by
 obtain ⟨i,hi,rfl⟩:=ZbH hO hn;exact List.ne_nil_of_mem (a:=r[i]) (List.mem_filter.2 ⟨List.getElem_mem hi,by simp⟩)
theorem Dv_eq (r:List Iss) (k:Nat) (n:Int):Dv r (k+1) n=dvL (Dv r k) 0 (issOf r n):=by
 rw[Dv,Zdx r _ n _ (Nat.le_refl _),List.take_length]
theorem Dv_ch (k:Nat) (n:Int) {c:Int} (hc:c∈C r n):1+Dv r k c<=Dv r (k+1) n:=by
 rw[Dv_eq];exact (Zdz _ _ _).2.2.1 c hc
theorem ZdB (hO:Ord r) (k:Nat) {n:Int} (hn:n∈nums r):1<=Dv r (k+1) n:=by
 rw[Dv_eq];exact (Zdz _ _ _).2.1 (ZdA hO hn)
theorem Dv_or (hO:Ord r) (k:Nat) {n:Int} (hn:n∈nums r):Dv r (k+1) n=1∨∃ c∈C r n,Dv r (k+1) n=1+Dv r k c:=by
 have h1:=ZdB hO k hn;rw[Dv_eq]at *;rcases (Zdz (Dv r k) (issOf r n) 0).2.2.2 with h|h|h
 . omega
 . exact .inl h
 . exact .inr h
theorem C_in (hin:∀ x∈r,ItsIn r x) {n c:Int} (hc:c∈C r n):c∈nums r:=by
 obtain ⟨x,hx,hc⟩:=List.mem_flatMap.1 hc;obtain ⟨y,hy,rfl⟩:=List.mem_map.1 hc;exact hin x (List.mem_filter.1 hx).1 y hy
theorem ZdC (lf:List Int):∀ (its:List (Int×Int)) (b:Bool),rdIt lf b its=true↔b=true/\∀ y∈its,y.1 ∉ lf
 |[],b=>by simp[rdIt]
 | y::its,b=>by
   have e:rdIt lf b (y::its)=rdIt lf (b && !decide (y.1∈lf)) its:=rfl;rw[e,ZdC lf its];simp[and_assoc]
theorem ZdD (lf:List Int):∀ (l:List Iss) (b:Bool),rdN lf b l=true↔b=true/\∀ c∈chL l,c ∉ lf
 |[],b=>by simp[rdN,chL]
 | x :: l,b=>by
   have e:rdN lf b (x::l)=rdN lf (rdIt lf b x.its) l:=rfl;rw[e,ZdD lf l,ZdC,Zdw];simp only[List.mem_append,List.mem_map]
   constructor
   . rintro ⟨⟨h1,h2⟩,h3⟩;refine ⟨h1,λc hc=>?_⟩;rcases hc with ⟨y,hy,rfl⟩|hc
     . exact h2 y hy
     . exact h3 c hc
   . rintro ⟨h1,h2⟩;exact ⟨⟨h1,λy hy=>h2 _ (.inl ⟨y,hy,rfl⟩)⟩,λc hc=>h2 c (.inr hc)⟩
theorem ZdE (dp:List (Int×Int)):∀ (its:List (Int×Int)) (m:Int),m<=msIt dp m its/\(∀ y∈its,dpG dp y.1<=msIt dp m its)/\(msIt dp m its=m∨∃ y∈its,msIt dp m its=dpG dp y.1)
 |[],m=>⟨Int.le_refl _,by simp,.inl rfl⟩
 | y :: its,m=>by
   obtain ⟨h1,h2,h3⟩:=ZdE dp its (max m (dpG dp y.1));have e:msIt dp m (y::its)=msIt dp (max m (dpG dp y.1)) its:=rfl;rw[e];refine ⟨by omega,λz hz=>?_,?_⟩
   . rcases List.mem_cons.1 hz with rfl|hz
     . omega
     . exact h2 z hz
   . rcases h3 with h3 | ⟨z,hz,h3⟩
     . rcases Int.le_total m (dpG dp y.1) with hm|hm
       . exact .inr ⟨y,List.mem_cons_self ..,by omega⟩
       . exact .inl (by omega)
     . exact .inr ⟨z,List.mem_cons_of_mem _ hz,h3⟩
theorem ZdF (dp:List (Int×Int)):∀ (l:List Iss) (m:Int),m<=msN dp m l/\(∀ c∈chL l,dpG dp c<=msN dp m l)/\(msN dp m l=m∨∃ c∈chL l,msN dp m l=dpG dp c)
 |[],m=>⟨Int.le_refl _,by simp[chL],.inl rfl⟩
 | x :: l,m=>by
   obtain ⟨h1,h2,h3⟩:=ZdE dp x.its m;obtain ⟨g1,g2,g3⟩:=ZdF dp l (msIt dp m x.its);have e:msN dp m (x::l)=msN dp (msIt dp m x.its) l:=rfl;rw[e];refine ⟨by omega,λc hc=>?_,?_⟩
   . rw[Zdw]at hc;rcases List.mem_append.1 hc with hc|hc
     . obtain ⟨y,hy,rfl⟩:=List.mem_map.1 hc;have:=h2 y hy;omega
     . exact g2 c hc
   . rcases g3 with g3 | ⟨c,hc,g3⟩
     . rcases h3 with h3 | ⟨y,hy,h3⟩
       . exact .inl (by omega)
       . exact .inr ⟨y.1,by rw[Zdw];exact List.mem_append.2 (.inl (List.mem_map.2 ⟨y,hy,rfl⟩)),by omega⟩
     . exact .inr ⟨c,by rw[Zdw];exact List.mem_append.2 (.inr hc),g3⟩
theorem ZdG {n:Int}:∀ {dp:List (Int×Int)},n∈dp.map (·.1)->∃ v,dpLk n dp=some v
 |[],h=>by simp at h
 | p :: dp,h=>by
   simp only[dpLk]
   split
   . exact ⟨_,rfl⟩
   . rename_i e;simp only[List.map_cons,List.mem_cons]at h;exact ZdG (h.resolve_left λe2=>e (by rw[e2]))
def AInv (r:List Iss) (s:List (Int×Int)×List Int):Prop:=∀ p∈s.1,∀ j:Nat,p.2<=j->Dv r j p.1=p.2
theorem AInv.step (hO:Ord r) (hin:∀ x∈r,ItsIn r x) {s:List (Int×Int)×List Int} (hd:DInv r s) (h:AInv r s) {n:Int} (hn:n∈nums r):AInv r (dStep r s n):=by
 unfold dStep
 split
 . rename_i hb;obtain ⟨h1,h2⟩:=(ZdD _ _ _).1 hb
   have kids:∀ c∈C r n,(c,dpG s.1 c)∈s.1:=λc hc=>by
    have hc1:c∈s.1.map (·.1)++s.2:=hd.perm.mem_iff.2 (C_in hin hc);have hc2:c∈s.1.map (·.1):=(List.mem_append.1 hc1).resolve_right (h2 c hc);obtain ⟨v,hv⟩:=ZdG hc2;have:=Zd4 hv
    rwa [show dpG s.1 c=v by simp[dpG,hv]]
   obtain ⟨m1,m2,m3⟩:=ZdF s.1 (issOf r n) 0;intro p hp j hj;rcases List.mem_append.1 hp with hp|hp
   . exact h p hp j hj
   . simp only[List.mem_singleton]at hp;subst hp;simp only at hj ⊢;obtain ⟨j,rfl⟩ : ∃ j',j=j'+1:=⟨j-1,by omega⟩
     have same:∀ c∈C r n,Dv r j c=dpG s.1 c:=λc hc=>by
      have:=m2 c hc;exact h _ (kids c hc) j (by simp only;omega)
     have o1:=ZdB hO j hn
     apply Int.le_antisymm
     . rcases Dv_or hO j hn with e | ⟨c,hc,e⟩
       . omega
       . have:=m2 c hc;have:=same c hc;omega
     . rcases m3 with e | ⟨c,hc,e⟩
       . omega
       . have:=Dv_ch (r:=r) j n hc;have:=same c hc;omega
 . exact h
theorem AInv.fold (hO:Ord r) (hin:∀ x∈r,ItsIn r x):∀ (l:List Int) {s:List (Int×Int)×List Int},(∀ n∈l,n∈nums r)->DInv r s->AInv r s->AInv r (l.foldl (dStep r) s)
 |[],s,_,_,h=>h
 |n::l,s,hl,hd,h=>AInv.fold hO hin l (λm hm=>hl m (List.mem_cons_of_mem _ hm)) (hd.step n) (h.step hO hin hd (hl n (List.mem_cons_self ..)))
theorem AInv.run (hO:Ord r) (hin:∀ x∈r,ItsIn r x):∀ k,AInv r (dRun r k)
 |0=>by intro p hp;simp[dRun]at hp
 |k+1=>AInv.fold hO hin (nums r) (λ_ h=>h) (DInv.run r k) (AInv.run hO hin k)
def Stuck (r:List Iss) (L:List Int):Prop:=∀ n∈L,∃ c∈C r n,c∈L
theorem ZdH {s:List (Int×Int)×List Int} {n:Int} (h:¬rdN s.2 (decide (n∈s.2)) (issOf r n)=true):dStep r s n=s/\(n∈s.2->∃ c∈C r n,c∈s.2):=by
 refine ⟨by unfold dStep;rw[if_neg h],λhn=>?_⟩;rw[ZdD]at h;by_cases e:∃ c∈C r n,c∈s.2
 . exact e
 . exact absurd ⟨decide_eq_true hn,λc hc h2=>e ⟨c,hc,h2⟩⟩ h
theorem ZdI (s:List (Int×Int)×List Int) (n:Int):(dStep r s n).2.length<=s.2.length:=by
 unfold dStep
 split
 . exact List.length_erase_le
 . exact Nat.le_refl _
theorem ZdJ:∀ (l:List Int) (s:List (Int×Int)×List Int),(l.foldl (dStep r) s).2.length<=s.2.length
 |[],s=>Nat.le_refl _
 |n::l,s=>Nat.le_trans (ZdJ l _) (ZdI s n)
theorem ZdK:∀ (l:List Int) (s:List (Int×Int)×List Int),(l.foldl (dStep r) s).2.length<s.2.length∨(l.foldl (dStep r) s=s/\∀ n∈l,n∈s.2->∃ c∈C r n,c∈s.2)
 |[],s=>.inr ⟨rfl,by simp⟩
 | n :: l,s=>by
   by_cases e:rdN s.2 (decide (n∈s.2)) (issOf r n)=true
   . refine .inl (Nat.lt_of_le_of_lt (ZdJ l _) ?_);have hm:=Zd3 e;unfold dStep;rw[if_pos e];have:=List.length_erase_of_mem hm;have:=List.length_pos_of_mem hm;simp only;omega
   . obtain ⟨h1,h2⟩:=ZdH e;rw[List.foldl_cons,h1];rcases ZdK l s with h | ⟨h3,h4⟩
     . exact .inl h
     . refine .inr ⟨h3,λm hm=>?_⟩;rcases List.mem_cons.1 hm with rfl|hm
       . exact h2
       . exact h4 m hm
theorem ZdL:∀ (l:List Int) {s:List (Int×Int)×List Int},Stuck r s.2->l.foldl (dStep r) s=s
 |[],s,_=>rfl
 | n::l,s,h=>by
   have:¬rdN s.2 (decide (n∈s.2)) (issOf r n)=true:=λe=>by
    have hm:=Zd3 e;obtain ⟨c,hc,h2⟩:=h n hm;exact ((ZdD _ _ _).1 e).2 c hc h2
   rw[List.foldl_cons,(ZdH this).1];exact ZdL l h
theorem ZdM (r:List Iss):∀ k,(dRun r k).2.length+k<=(nums r).length∨Stuck r (dRun r k).2
 |0=>.inl (by simp[dRun])
 | k + 1=>by
   have hsub:∀ n∈(dRun r k).2,n∈nums r:=λn hn=>(DInv.run r k).perm.mem_iff.1 (List.mem_append.2 (.inr hn))
   rcases ZdM r k with h|h
   . rcases ZdK (r:=r) (nums r) (dRun r k) with h2 | ⟨h2,h3⟩
     . exact .inl (by simp only[dRun,dPass];omega)
     . refine .inr ?_;simp only[dRun,dPass];rw[h2];exact λn hn=>h3 n (hsub n hn) hn
   . refine .inr ?_;simp only[dRun,dPass];rw[ZdL (nums r) h];exact h
theorem ZdN {L:List Int} (h:Stuck r L):∀ (k:Nat) (n:Int),n∈L->(k:Int)<=Dv r k n
 |0,n,_=>by simp[Dv]
 | k+1,n,hn=>by
   obtain ⟨c,hc,h2⟩:=h n hn;have:=ZdN h k c h2;have:=Dv_ch (r:=r) k n hc;omega
theorem ZdO (g:Int->Int) (K:Int):∀ (l:List Int) (m:Int),K<l.foldl (λm n=>max m (g n)) m↔K<m∨∃ n∈l,K<g n
 |[],m=>by simp
 | n::l,m=>by
   rw[List.foldl_cons,ZdO g K l];simp only[List.mem_cons,exists_eq_or_imp];rw[<- or_assoc];refine or_congr_left ?_;omega
theorem ZdP {l:List Int} {g:Int->Int} {K:Int} (hK:0<=K):K<mostV l g↔∃ n∈l,K<g n:=by
 rw[mostV,ZdO]
 constructor
 . rintro (h|h)
   . omega
   . exact h
 . exact .inr
theorem dp_Dv (hL:Zbv r=true) (h:(dRun r (nums r).length).2.length=0) {n:Int} (hn:n∈nums r):(n,dpG (dRun r (nums r).length).1 n)∈(dRun r (nums r).length).1/\Dv r ((nums r).length+1) n=dpG (dRun r (nums r).length).1 n:=by
 have hd:=DInv.run r (nums r).length;have h0:(dRun r (nums r).length).2=[]:=List.length_eq_zero_iff.1 h
 have h1:n∈(dRun r (nums r).length).1.map (·.1):=by
  have:=hd.perm.mem_iff.2 hn
  rwa [h0,List.append_nil]at this
 obtain ⟨v,hv⟩:=ZdG h1;have hm:=Zd4 hv;have e:dpG (dRun r (nums r).length).1 n=v:=(by simp[dpG,hv]);rw[e];refine ⟨hm,?_⟩;have hb:=hd.bd _ hm;have hl:=hd.len;exact AInv.run (ZbD hL) (λx hx=>Zdq hL hx) _ _ hm _ (by simp only at hb ⊢;omega)
theorem ZdQ (r:List Iss):openV r=chkV r:=by
 unfold openV chkV
 cases hL:Zbv r
 . rfl
 . simp only [if_true];by_cases h:0<(dRun r (nums r).length).2.length
   . rw[if_pos h];have hs:Stuck r (dRun r (nums r).length).2:=(ZdM r (nums r).length).resolve_left (by omega);obtain ⟨n,hn⟩:=List.exists_mem_of_length_pos h;have hn2:n∈nums r:=(DInv.run r _).perm.mem_iff.1 (List.mem_append.2 (.inr hn));have:=ZdN hs ((nums r).length+1) n hn;rw[if_pos ((ZdP (by omega)).2 ⟨n,hn2,by omega⟩)]
   . rw [if_neg h];have h0:(dRun r (nums r).length).2.length=0:=(by omega);have hd:=DInv.run r (nums r).length;have hl:=hd.len
     have e1:(∃ p∈(dRun r (nums r).length).1,6<p.2)↔6<mostV (nums r) (Dv r ((nums r).length+1)):=by
      rw[ZdP (by omega)]
      constructor
      . rintro ⟨p,hp,h6⟩;have hn:p.1∈nums r:=hd.perm.mem_iff.1 (List.mem_append.2 (.inl (List.mem_map.2 ⟨p,hp,rfl⟩)));refine ⟨p.1,hn,?_⟩;have hb:=hd.bd _ hp;rw[AInv.run (ZbD hL) (λx hx=>Zdq hL hx) _ _ hp _ (by omega)];exact h6
      . rintro ⟨n,hn,h6⟩;obtain ⟨h1,h2⟩:=dp_Dv hL h0 hn;rw[h2]at h6;exact ⟨_,h1,h6⟩
     have e2:¬((nums r).length:Int)<mostV (nums r) (Dv r ((nums r).length+1)):=by
      rw[ZdP (by omega)];rintro ⟨n,hn,h6⟩;obtain ⟨h1,h2⟩:=dp_Dv hL h0 hn;have:=hd.bd _ h1;rw[h2]at h6;simp only at this;omega
     rw[if_neg e2];by_cases c:6<mostV (nums r) (Dv r ((nums r).length+1))
     . rw[if_pos c,if_pos (e1.2 c)]
     . rw[if_neg c,if_neg λe=>c (e1.1 e)]
end
def twR (r:List Iss) (i:Nat):List (List AV):=(r.take i).map isa
theorem ZdR {r:List Iss} {i:Nat} (h:i<=r.length):(twR r i).length=i:=by simp[twR];omega
theorem ZdS {r:List Iss} {i:Nat} (h:i<r.length):twR r (i+1)=twR r i++[[.int .i64 r[i].d,.int .i64 r[i].l,.int .u8 r[i].k,.vsl (r[i].its.map ita),.vsl (r[i].dms.map dma)]]:=by
 rw[twR,List.take_succ_eq_append_getElem h,List.map_append];rfl
theorem ZdT {r:List Iss} {i:Nat} (o:List (Nat×AObj)):Yd o (.row 5 (twR r i))=true:=by
 simp only[Yd,List.all_eq_true,twR,List.mem_map];rintro x ⟨y,-,rfl⟩ v hv;simp only[isa,List.mem_cons,List.not_mem_nil,or_false]at hv;rcases hv with rfl|rfl|rfl|rfl|rfl <;> simp[Ya,AV.keys]
theorem ZdU (r:List Iss):twR r r.length=r.map isa:=by rw[twR,List.take_length]
def twS (r:List Iss):Nat->St
 |0=>⟨[(4,.int .i64 0),(3,.ptr 3 0),(1,.ptr 1 0),(2,.ptr 2 0)],[(1,.box [.vsl (r.map isa)]),(2,.box [.nils]),(3,.box [.nils])]⟩
 |i+1=>⟨[(4,.int .i64 (i+1:Nat)),(3,.ptr 3 0),(1,.ptr 1 0),(2,.ptr 2 0)],[(1,.box [.vsl (r.map isa)]),(2,.box [.nils]),(3,.box [.osl 21 (i+1)]),(21,.row 5 (twR r (i+1)))]⟩
section
variable {G:Nat->Option (List AV)}
theorem ZdV (r:List Iss) (h:SmlR r):PC Tryz.prog G 99 [rega r] (rega r):=by
 by_cases h0:r=[]
 . subst h0;refine PC.nzR (v:=.agg [.nils]) ?_ (by simp[nz,rega])
   (refine Zb1 rfl λR hG hrd=>Qga ?_;subst hG)
   simp -implicitDefEqProofs[ZaZ,Zb0,rega];refine Zba (twS []) (λ_=>True) 0 (by simp only[twS];(first|exact Yn.tm (by simp[lk])|exact Yn.sub (by simp[lk,Ya,AV.keys]) (by simp[lk,Yd,Ya,AV.keys]))) trivial (λi hi=>by omega) λ_=>?_
   refine Qga ?_;simp -implicitDefEqProofs[twS];refine Qgr ?_;simp -implicitDefEqProofs[]
 . (refine Zb1 rfl λR hG hrd=>Qga ?_;subst hG)
   have hs:=h.1;unfold Sml at hs;simp -implicitDefEqProofs[ZaZ,Zb0,rega];refine Zba (twS r) (λ_=>True) r.length (by simp only[twS];(first|exact Yn.tm (by simp[lk])|exact Yn.sub (by simp[lk,Ya,AV.keys]) (by simp[lk,Yd,Ya,AV.keys]))) trivial ?_ ?_
   . intro i hi _;refine Qga ?_;have hx:=h.2 r[i] (List.getElem_mem hi);have tk:=ZdS hi;have ln:=ZdR (Nat.le_of_lt hi)
     cases i with
     | zero =>
       have w1:IntKind.i64.wrap 1=1:=rfl;simp -implicitDefEqProofs[twS,hi,isa];refine Qco (Zbp r[0] hx.1 hx.2) (by simp) ?_;simp -implicitDefEqProofs[w1,isa];refine ⟨rfl,?_⟩;have tk0:twR r 1=[[.int .i64 r[0].d,.int .i64 r[0].l,.int .u8 r[0].k,.vsl (r[0].its.map ita),.vsl (r[0].dms.map dma)]]:=(by rw[tk];simp[twR]);simp only[twS];exact Yn.sub (by simp[lk,Ya,AV.keys]) (by simp[lk,Yd,Ya,AV.keys,tk0])
     | succ i =>
       have w1:IntKind.i64.wrap ((i:Int)+1+1)=(i:Int)+1+1:=Yg (by omega) (by omega);have k1:(i:Int)+1<r.length:=(by omega);have k2:((i:Int)+1).toNat=i+1:=(by omega);have k3:(0:Int)<=(i:Int)+1:=(by omega);have b2:(i+1+1)*72<=70368744177664:=(by omega);simp -implicitDefEqProofs[twS,hi,k1,k2,k3,isa];refine Qco (Zbp r[i+1] hx.1 hx.2) (by simp) ?_;simp -implicitDefEqProofs[w1,ln,b2,isa];refine ⟨rfl,?_⟩;simp only[twS];refine Yn.sub (by simp[lk,Ya,AV.keys]) ?_;simp only[List.mem_cons,List.not_mem_nil,or_false,forall_eq_or_imp,forall_eq,ZdT,and_true];simp[lk,Yd,Ya,AV.keys,tk]
   . intro _;refine Qga ?_
     obtain ⟨n,hn⟩ : ∃ n,r.length=n+1:=⟨r.length-1,by
      have:r.length≠0:=(by simpa using h0);omega⟩
     have k1:¬(n:Int)+1<n+1:=(by omega);have e1:twR r (n+1)=r.map isa:=(by rw[<- hn,ZdU]);have pu:(r.map isa).all (λx=>x.all AV.pure)=true:=(by simp[isa,AV.pure]);rw[hn];simp -implicitDefEqProofs[twS,hn,k1,e1,pu];refine Qgr ?_;simp -implicitDefEqProofs[pu,e1,hn]
end
section
variable {r:List Iss}
end
structure Nte where
 nu:Int
 dy:Int
 sg:Int
 dr:Int
 lt:Int
 fr:Int
 tu:Int
 ca:Int
 up:Bool
 wy:Int
 deriving DecidableEq,Inhabited
def na (x:Nte):List AV:=[.int .i64 x.nu,.int .i64 x.dy,.int .u8 x.sg,.int .i64 x.dr,.int .i64 x.lt,.int .i64 x.fr,.int .i64 x.tu,.int .i64 x.ca,.bool x.up,.int .u8 x.wy]
def nAt (l:List Nte) (i:Nat):Nte:=l.getD i default
theorem ZdW {l:List Nte} {i:Nat} (h:i<l.length):nAt l i=l[i]:=by simp[nAt,List.getD_eq_getElem?_getD,h]
def cN1 (x:Nte):Bool:=inR x.nu 1 9999&&inR x.dy 0 14610
def cN2 (x:Nte):Bool:=decide (x.sg<=2)&&decide (x.wy<=3)
def cN3 (x:Nte):Bool:=inR x.fr 1 999&&inR x.tu 1 999&&decide (x.fr<=x.tu)
def cN4 (r:List Iss) (x:Nte):Bool:=if x.dr=0/\x.lt=0 then !decide (x.ca=0) else (findN x.dr x.lt r).isSome
def cN5 (x:Nte):Bool:=decide (2<=x.lt)||(!x.up&&decide (x.wy=0))
def cN6 (l:List Nte) (i:Nat) (x:Nte):Bool:=decide (x.ca=0)||(l.take i).any λy=>decide (y.nu=x.ca)
def cN7 (l:List Nte) (i:Nat) (x:Nte):Bool:=!(l.take i).any λy=>decide (y.nu=x.nu)
def cN8 (l:List Nte):Nat->Nte->Bool
 |0,_=>true
 |i+1,x=>decide ((nAt l i).dy<x.dy)||(decide ((nAt l i).dy=x.dy)&&decide ((nAt l i).nu<x.nu))
def noteB (r:List Iss) (l:List Nte) (i:Nat):Bool:=cN1 (nAt l i)&&cN2 (nAt l i)&&cN3 (nAt l i)&&cN4 r (nAt l i)&&cN5 (nAt l i)&&cN6 l i (nAt l i)&&cN7 l i (nAt l i)&&cN8 l i (nAt l i)
def opN (l:List Nte) (i:Nat):List Nte:=(l.take i).filter λx=>decide (x.sg=1)
theorem ZdX {l:List Nte} {i:Nat} (h:i<l.length):opN l (i+1)=if l[i].sg=1 then opN l i++[l[i]] else opN l i:=by
 unfold opN;rw[List.take_succ_eq_append_getElem h,List.filter_append]
 split
 . rename_i e;rw[List.filter_cons_of_pos (by simpa using e)];rfl
 . rename_i e;rw[List.filter_cons_of_neg (by simpa using e)];simp
theorem ZdY (l:List Nte) (i:Nat):(opN l i).length<=i:=Nat.le_trans (List.length_filter_le _ _) (by simp;omega)
def ZdZ (r:List Iss) (l:List Nte):Bool:=decide (l.length<=12)&&(List.range l.length).all (noteB r l)&&decide ((opN l l.length).length<=5)
def chN (r:List Iss) (l:List Nte):Int:=if openV r=0 then if ZdZ r l=true then 0 else 30 else openV r
def opU (l:List Nte):List Int:=(opN l l.length).map (·.nu)
def truB (l:List Nte) (s:List Int):Bool:=(List.range s.length).all λi=>decide (s.getD i 0∈opU l)&&(i == 0||decide (s.getD (i-1) 0<s.getD i 0))
def asN (r:List Iss) (l:List Nte) (s:List Int) (m:Int):Int:=if chN r l=0 then if truB l s=true then if inR m 1 999=true then 0 else 2 else 31 else chN r l
def bsF (s w:List Int) (m:Int) (x:Nte):Bool:=(decide (x.sg=2)||decide (x.nu∈s)) && !decide (x.nu∈w)&&inR m x.fr x.tu
def gcL {α:Type} (p:α->Bool) (h:α->α->Bool):List α->List Bool
 |[]=>[]
 |x::l=>(p x && !((l.zip (gcL p h l)).any λq=>q.2&&h x q.1))::gcL p h l
section
variable {α:Type} {p:α->Bool} {h:α->α->Bool} {l:List α}
theorem Ze0:∀ l:List α,(gcL p h l).length=l.length
 |[]=>rfl
 |x::l=>by simp[gcL,Ze0 l]
theorem Ze1:∀ (l:List α) (i:Nat),(gcL p h l).drop i=gcL p h (l.drop i)
 |[],i=>by simp[gcL]
 |x::l,0=>rfl
 |x::l,i+1=>by simp only[gcL,List.drop_succ_cons];exact Ze1 l i
def gcB (p:α->Bool) (h:α->α->Bool) (l:List α) (i:Nat):Bool:=(gcL p h l).getD i false
def gwB (p:α->Bool) (h:α->α->Bool) (l:List α) (x:α) (i k:Nat):Bool:=p x && !((((l.zip (gcL p h l)).take k).drop (i+1)).any λq=>q.2&&h x q.1)
theorem Ze2 {i:Nat} (hi:i<l.length):gcB p h l i=gwB p h l l[i] i l.length:=by
 have e1:l.drop i=l[i]::l.drop (i+1):=List.drop_eq_getElem_cons hi;have e2:=Ze1 (p:=p) (h:=h) l i;have e4:=Ze1 (p:=p) (h:=h) l (i+1);rw[e1,gcL]at e2
 have e3:(gcL p h l)[i]? = some (p l[i] && !(((l.drop (i+1)).zip (gcL p h (l.drop (i+1)))).any λq=>q.2&&h l[i] q.1)):=by
  have:=congrArg (λq=>q[0]?) e2;simp only[List.getElem?_drop,Nat.add_zero,List.getElem?_cons_zero]at this;exact this
 have e5:((l.zip (gcL p h l)).take l.length).drop (i+1)=(l.drop (i+1)).zip (gcL p h (l.drop (i+1))):=by
  rw[List.take_of_length_le (by simp[Ze0])];show List.drop (i+1) (List.zipWith Prod.mk l (gcL p h l))=List.zipWith Prod.mk (l.drop (i+1)) (gcL p h (l.drop (i+1)));rw[List.drop_zipWith,e4]
 rw[gcB,List.getD_eq_getElem?_getD,e3,Option.getD_some,gwB,e5]
theorem Ze3 {x:α} {i:Nat}:gwB p h l x i (i+1)=p x:=by
 rw[gwB,List.drop_of_length_le (by simp;omega)];simp
theorem Ze4 {x:α} {i k:Nat} (hi:i<k) (hk:k<l.length):gwB p h l x i (k+1)=(gwB p h l x i k && !(gcB p h l k&&h x l[k])):=by
 have hz:k<(l.zip (gcL p h l)).length:=(by simp[Ze0,hk]);have hf:k<(gcL p h l).length:=by rw[Ze0];exact hk
 have e:(l.zip (gcL p h l))[k]=(l[k],gcB p h l k):=by
  rw[List.getElem_zip]
  congr 1
  rw[gcB,List.getD_eq_getElem?_getD,List.getElem?_eq_getElem hf];rfl
 rw[gwB,gwB,List.take_succ_eq_append_getElem hz,List.drop_append_of_le_length (by simp[Ze0];omega),List.any_append,e];simp only[List.any_cons,List.any_nil,Bool.or_false,Bool.not_or,Bool.and_assoc]
end
def fB (s w:List Int) (m:Int) (l:List Nte) (i:Nat):Bool:=gcB (bsF s w m) (λx y=>decide (y.ca=x.nu)) l i
def fcN (s w:List Int) (m:Int) (l:List Nte) (i:Nat):List Int:=(((List.range l.length).take i).filter (fB s w m l)).map λj=>(nAt l j).nu
theorem Ze5 {s w:List Int} {m:Int} {l:List Nte} {i:Nat} (h:i<l.length):fcN s w m l (i+1)=if fB s w m l i=true then fcN s w m l i++[l[i].nu] else fcN s w m l i:=by
 have h1:i<(List.range l.length).length:=(by simpa using h);unfold fcN;rw[List.take_succ_eq_append_getElem h1,List.getElem_range,List.filter_append]
 split
 . rename_i e;rw[List.filter_cons_of_pos e,List.filter_nil,List.map_append,List.map_cons,ZdW h];rfl
 . rename_i e;rw[List.filter_cons_of_neg e,List.filter_nil,List.append_nil]
theorem Ze6 (s w:List Int) (m:Int) (l:List Nte) (i:Nat):(fcN s w m l i).length<=i:=by
 rw[fcN,List.length_map];exact Nat.le_trans (List.length_filter_le _ _) (by simp;omega)
def fcE (r:List Iss) (l:List Nte) (s:List Int) (m:Int):List Int×Int:=if asN r l s m=0 then (fcN s [] m l l.length,0) else ([],asN r l s m)
def WfN (l:List Nte):Prop:=Sml l/\∀ x∈l,0<=x.sg/\x.sg<=255/\0<=x.wy/\x.wy<=255
def sortI (l:List Int):List Int:=l.mergeSort λa b=>decide (a<=b)
def SrtI (l:List Int):Prop:=l.Pairwise λx y=>x<=y
theorem Ze7 (l:List Int):(sortI l).Perm l:=List.mergeSort_perm l _
theorem Ze8 (l:List Int):SrtI (sortI l):=by
 have:=List.pairwise_mergeSort (le:=λa b:Int=>decide (a<=b)) (λa b c=>by simp;omega) (λa b=>by simp;omega) l;exact this.imp (by simp)
theorem Ze9 {a b:List Int} (p:a.Perm b) (ha:SrtI a) (hb:SrtI b):a=b :=
 List.Perm.eq_of_pairwise (le:=λx y:Int=>x<=y) (λx y _ _ h1 h2=>by omega) ha hb p
theorem Zea {l s:List Int} (p:s.Perm l) (hs:SrtI s):sortI l=s:=Ze9 ((Ze7 l).trans p.symm) (Ze8 l) hs
theorem Zeb (l:List Int):(sortI l).length=l.length:=(Ze7 l).length_eq
theorem Zec {l:List Int} {x:Int}:x∈sortI l↔x∈l:=(Ze7 l).mem_iff
def srtI (l:List Int) (a b:Nat):List Int:=l.take a++(sortI ((l.take b).drop a)++l.drop b)
theorem Zed {l:List Int} {a b:Nat} (h1:a<=b) (h2:b<=a+1):srtI l a b=l:=by
 have e:sortI ((l.take b).drop a)=(l.take b).drop a:=by
  generalize hq:(l.take b).drop a=q;have hl:q.length<=1:=by rw[<- hq];simp;omega
  match q,hl with
  |[],_=>simp[sortI]
  |[x],_=>simp[sortI]
 have e2:l.take a=(l.take b).take a:=(by rw[List.take_take,Nat.min_eq_left h1]);rw[srtI,e,<- List.append_assoc,e2,List.take_append_drop,List.take_append_drop]
def mvI (l:List Int) (a i p:Nat):List Int :=
 l.take a++((sortI ((l.take i).drop a)).take p++(l.getD i 0::((sortI ((l.take i).drop a)).drop p++l.drop (i+1))))
theorem Zee {l:List Int} {a i:Nat} (h:i<=l.length):(sortI ((l.take i).drop a)).length=i-a:=by rw[Zeb];simp;omega
theorem Zef {l:List Int} {a i:Nat} (h1:a<=i) (h2:i<l.length):srtI l a i=mvI l a i (i-a):=by
 have e:=Zee (l:=l) (a:=a) (i:=i) (by omega);rw[mvI,srtI,List.drop_eq_getElem_cons h2];generalize sortI ((l.take i).drop a)=s at *;rw[List.take_of_length_le (by omega:s.length<=i-a),List.drop_of_length_le (by omega:s.length<=i-a)];simp[List.getD_eq_getElem?_getD,h2]
theorem Zeg {l:List Int} {a i p:Nat} (h1:a<=i) (h2:i<l.length) (h3:p<=i-a):(mvI l a i p).length=l.length:=by
 have e:=Zee (l:=l) (a:=a) (i:=i) (by omega);simp[mvI,e];omega
theorem Zeh {α:Type} (D C:List α) (y x:α) (n:Nat) (h:n=D.length):((D++y::x::C).set (n+1) y).set n x=D++x::y::C:=by
 subst h;rw[List.set_append_right _ _ (by omega),List.set_append_right _ _ (by omega)];simp
theorem Zei {l:List Int} {a i p:Nat} (h1:a<=i) (h2:i<l.length) (h3:p+1<=i-a) :
  ∃ y,(sortI ((l.take i).drop a))[p]? = some y/\(mvI l a i (p+1))[a+p+1]? = some l[i]/\(mvI l a i (p+1))[a+p]? = some y/\((mvI l a i (p+1)).set (a+p+1) y).set (a+p) l[i]=mvI l a i p/\y∈l:=by
 have e:=Zee (l:=l) (a:=a) (i:=i) (by omega);have hm:∀ y∈sortI ((l.take i).drop a),y∈l:=λy hy=>List.mem_of_mem_take (List.mem_of_mem_drop (Zec.1 hy))
 unfold mvI;generalize sortI ((l.take i).drop a)=s at *;have hp:p<s.length:=(by omega);have ta:(l.take a).length=a:=(by simp;omega);have e1:s.take (p+1)=s.take p++[s[p]]:=List.take_succ_eq_append_getElem hp;have e2:s.drop p=s[p]::s.drop (p+1):=List.drop_eq_getElem_cons hp;have e3:l.getD i 0=l[i]:=(by simp[List.getD_eq_getElem?_getD,h2]);have tp:(s.take p).length=p:=(by simp;omega);refine ⟨s[p],by simp[hp],?_,?_,?_,hm _ (List.getElem_mem hp)⟩
 . rw[e1,e3,List.getElem?_append_right (by omega),ta,List.getElem?_append_right (by simp;omega)];have:a+p+1-a-(s.take p++[s[p]]).length=0:=(by simp;omega);rw[this];rfl
 . rw[e1,List.getElem?_append_right (by omega),ta,List.append_assoc,List.getElem?_append_right (by omega),tp];have:a+p-a-p=0:=(by omega);rw[this];rfl
 . rw[e1,e2,e3,List.append_assoc];have q:=Zeh (l.take a++s.take p) (s.drop (p+1)++l.drop (i+1)) s[p] l[i] (a+p) (by simp;omega);simp only[List.append_assoc,List.cons_append,List.nil_append]at q ⊢;exact q
theorem Zej {l:List Int} {a i p:Nat} (h1:a<=i) (h2:i<l.length) (h3:p<=i-a)
  (hd:∀ y∈(sortI ((l.take i).drop a)).drop p,l[i]<y) (hc:∀ q,p=q+1->∀ y,(sortI ((l.take i).drop a))[q]? = some y->¬l[i]<y):mvI l a i p=srtI l a (i+1):=by
 have e:=Zee (l:=l) (a:=a) (i:=i) (by omega);have e3:l.getD i 0=l[i]:=by simp[List.getD_eq_getElem?_getD,h2]
 have e4:(l.take (i+1)).drop a=(l.take i).drop a++[l[i]]:=by
  rw[List.take_succ_eq_append_getElem h2,List.drop_append_of_le_length (by simp;omega)]
 have hs:=Ze8 ((l.take i).drop a);have hp:=Ze7 ((l.take i).drop a);rw[srtI,mvI,e3];rw[Zea (l:=(l.take (i+1)).drop a) (s:=(sortI ((l.take i).drop a)).take p++l[i]::(sortI ((l.take i).drop a)).drop p) ]
 . simp[List.append_assoc]
 . rw[e4];refine List.perm_middle.trans ?_;rw[List.take_append_drop];exact (List.perm_cons _).2 hp |>.trans (List.perm_append_singleton _ _).symm
 . generalize sortI ((l.take i).drop a)=s at *;have hs2:=hs;unfold SrtI at hs ⊢;rw[<- List.take_append_drop p s,List.pairwise_append]at hs;obtain ⟨t1,t2,t3⟩:=hs;rw[List.pairwise_append];refine ⟨t1,List.pairwise_cons.2 ⟨λy hy=>by have:=hd y hy;omega,t2⟩,λu hu v hv=>?_⟩;rcases List.mem_cons.1 hv with rfl|hv
   . match p,hc,h3 with
     |0,_,_=>simp at hu
     | q + 1,hc,h3 =>
       have hq:q<s.length:=(by omega);have hc2:=hc q rfl s[q] (by simp[hq]);obtain ⟨j,hj,rfl⟩:=List.getElem_of_mem hu;rw[List.getElem_take];have hjq:j<=q:=(by simp at hj;omega);rcases Nat.lt_or_ge j q with hl|hg
       . have:=List.pairwise_iff_getElem.1 hs2 j q (by omega) hq hl;omega
       . have:j=q:=(by omega);subst this;omega
   . exact t3 u hu v hv
structure Rul where
 nu:Int
 dy:Int
 fd:Int
 fl:Int
 td:Int
 tl:Int
 bo:Bool
 br:Int
 deriving DecidableEq,Inhabited
def ra (x:Rul):List AV:=[.int .i64 x.nu,.int .i64 x.dy,.int .i64 x.fd,.int .i64 x.fl,.int .i64 x.td,.int .i64 x.tl,.bool x.bo,.int .i64 x.br]
def swa (r:List Iss) (l:List Nte) (q:List Rul):AV:=.agg [.vsl (r.map isa),.vsl (l.map na),.vsl (q.map ra)]
def rAt (q:List Rul) (i:Nat):Rul:=q.getD i default
theorem Zek {q:List Rul} {i:Nat} (h:i<q.length):rAt q i=q[i]:=by simp[rAt,List.getD_eq_getElem?_getD,h]
def knB (r:List Iss) (d l:Int):Bool:=(findN d l r).isSome
def cR1 (x:Rul):Bool:=inR x.nu 1 9999&&inR x.dy 0 14610
def cR2 (r:List Iss) (x:Rul):Bool:=if x.fd=0/\x.fl=0/\x.td=0/\x.tl=0 then !x.bo && !decide (x.br=0) else !decide (x.fd=x.td/\x.fl=x.tl)&&knB r x.fd x.fl&&knB r x.td x.tl
def cR3 (q:List Rul) (i:Nat) (x:Rul):Bool:=!(q.take i).any λy=>decide (y.nu=x.nu)
def cR4 (q:List Rul) (i:Nat) (x:Rul):Bool:=decide (x.br=0)||(q.take i).any λy=>decide (y.nu=x.br)
def cR5 (q:List Rul):Nat->Rul->Bool
 |0,_=>true
 |i+1,x=>decide ((rAt q i).dy<x.dy)||(decide ((rAt q i).dy=x.dy)&&decide ((rAt q i).nu<x.nu))
def ruleB (r:List Iss) (q:List Rul) (i:Nat):Bool:=cR1 (rAt q i)&&cR2 r (rAt q i)&&cR3 q i (rAt q i)&&cR4 q i (rAt q i)&&cR5 q i (rAt q i)
def Zel (r:List Iss) (q:List Rul):Bool:=decide (q.length<=16)&&(List.range q.length).all (ruleB r q)
def chS (r:List Iss) (l:List Nte) (q:List Rul):Int:=if chN r l=0 then if Zel r q=true then 0 else 50 else chN r l
def sB (day:Int) (q:List Rul) (i:Nat):Bool:=gcB (λx=>decide (x.dy<=day)) (λx y=>decide (y.br=x.nu)) q i
def ruN (day:Int) (q:List Rul) (i:Nat):List Int:=(((List.range q.length).take i).filter (sB day q)).map λj=>(rAt q j).nu
theorem Zem {day:Int} {q:List Rul} {i:Nat} (h:i<q.length):ruN day q (i+1)=if sB day q i=true then ruN day q i++[q[i].nu] else ruN day q i:=by
 have h1:i<(List.range q.length).length:=(by simpa using h);unfold ruN;rw[List.take_succ_eq_append_getElem h1,List.getElem_range,List.filter_append]
 split
 . rename_i e;rw[List.filter_cons_of_pos e,List.filter_nil,List.map_append,List.map_cons,Zek h];rfl
 . rename_i e;rw[List.filter_cons_of_neg e,List.filter_nil,List.append_nil]
theorem Zen (day:Int) (q:List Rul) (i:Nat):(ruN day q i).length<=i:=by
 rw[ruN,List.length_map];exact Nat.le_trans (List.length_filter_le _ _) (by simp;omega)
def ruE (r:List Iss) (l:List Nte) (q:List Rul) (day:Int):List Int×Int:=if chS r l q=0 then if inR day 0 14610=true then (ruN day q q.length,0) else ([],2) else ([],chS r l q)
structure Stq where
 fd:Int
 fl:Int
 td:Int
 tl:Int
 nu:Int
 nt:Bool
 deriving DecidableEq,Inhabited
def sa (x:Stq):List AV:=[.int .i64 x.fd,.int .i64 x.fl,.int .i64 x.td,.int .i64 x.tl,.int .i64 x.nu,.bool x.nt]
def dyN (day:Int) (l:List Nte):List Nte:=l.filter λx=>decide (x.dy<=day)
def dyT (l:List Nte) (s:List Int):List Int:=s.filter λn=>l.any λx=>decide (x.nu=n)
open Qq in
def Zeo:RCode :=
 .seq (r 0 [n 6 (.bool false)]) (.seq (r 1 [m 7 0,m 8 1,o 9 .geq 7 8,m 10 9,g 10 true (m 11 0),g 10 true (m 12 2),g 10 true (o 13 .leq 11 12),v 14 10 13,m 6 14]) .ret)
def Zep:List RRes:=[.t 6]
theorem Zeq:PCt Tryz.prog 155 Tryz.f155 Zeo Zep:=pcT Tryz.func155 rfl (by kernel_rfl) (by kernel_rfl) (by kernel_rfl)
open Qq in
def Zer:RCode :=
 .seq (r 0 [b 2 0,n 4 (.bool false)]) (.seq (r 1 [f 12 1 2,l 13 12,m 14 1,i 15 10 13 14,L 16 10 15,w 5 (.alloc [O,O,.int .u8 0,O,O,O,O,O,.bool false,.int .u8 0]),s 10 5 16]) (.seq (.seq (r 2 [f 17 0 5,l 18 17,w 19 (.call 155 [.t 18,.c I,.c (.int .i64 9999)]),t 20 19,m 21 20,g 21 false (f 22 1 5),g 21 false (l 23 22),g 21 false (w 24 (.call 155 [.t 23,.c O,.c (.int .i64 14610)])),g 21 false (t 25 24),u 26 21 25,m 27 26,g 27 false (f 28 2 5),g 27 false (l 29 28),g 27 false (k 30 .gtr 29 (.int .u8 2)),u 31 27 30,m 32 31,g 32 false (f 33 5 5),g 32 false (l 34 33),g 32 false (f 35 6 5),g 32 false (l 36 35),g 32 false (w 37 (.call 155 [.t 34,.c I,.t 36])),g 32 false (t 38 37),u 39 32 38,m 40 39,g 40 false (f 41 6 5),g 40 false (l 42 41),g 40 false (k 43 .gtr 42 (.int .i64 999)),u 44 40 43,m 45 44,g 45 false (f 46 9 5),g 45 false (l 47 46),g 45 false (k 48 .gtr 47 (.int .u8 3)),u 49 45 48]) (.cond (.t 49) (.seq (r 3 [n 4 (.bool false)]) .ret) .skip)) (.seq (.seq (r 4 [f 50 3 5,l 51 50,k 52 .eql 51 O,m 53 52,g 53 true (f 54 4 5),g 53 true (l 55 54),g 53 true (k 56 .eql 55 O),v 57 53 56]) (.cond (.t 57) (.seq (r 5 [f 58 7 5,l 59 58,k 60 .eql 59 O]) (.cond (.t 60) (.seq (r 6 [n 4 (.bool false)]) .ret) .skip)) (.seq (r 7 [f 62 0 2,L 63 1 62,f 64 3 5,l 65 64,f 66 4 5,l 67 66,w 68 (.build [O,O] [(0,1,.t 65),(1,1,.t 67)]),c 69 156 [63,68],m 61 69,x 70 0 61,x 71 1 61,w 6 (.alloc [O,O,.int .u8 0,.nils,.nils]),s 5 6 70,m 7 71]) (.seq (r 8 [m 72 7,t 73 72]) (.cond (.t 73) (.seq (r 9 [n 4 (.bool false)]) .ret) .skip))))) (.seq (.seq (r 10 [f 74 4 5,l 75 74,k 76 .lss 75 (.int .i64 2),m 77 76,g 77 true (f 78 8 5),g 77 true (l 79 78),g 77 true (m 80 79),g 80 false (f 81 9 5),g 80 false (l 82 81),g 80 false (k 83 .gtr 82 (.int .u8 0)),g 77 true (u 84 80 83),v 85 77 84]) (.cond (.t 85) (.seq (r 11 [n 4 (.bool false)]) .ret) .skip)) (.seq (r 12 [f 86 7 5,l 87 86,k 88 .eql 87 O,m 8 88]) (.seq (.seq (r 13 [n 9 O]) (.block 0 (.loop (.seq (.seq (r 14 [m 89 9,m 90 1,o 91 .lss 89 90]) (.cond (.t 91) .skip (.exit 0))) (.seq (.block 1 (.seq (r 16 [f 94 1 2,l 95 94,m 96 9,i 97 10 95 96,L 98 10 97,w 10 (.alloc [O,O,.int .u8 0,O,O,O,O,O,.bool false,.int .u8 0]),s 10 10 98]) (.seq (.seq (r 17 [f 99 0 10,l 100 99,f 101 0 5,l 102 101,o 103 .eql 100 102]) (.cond (.t 103) (.seq (r 18 [n 4 (.bool false)]) .ret) .skip)) (r 19 [m 104 8,m 105 104,g 105 false (f 106 0 10),g 105 false (l 107 106),g 105 false (f 108 7 5),g 105 false (l 109 108),g 105 false (o 110 .eql 107 109),u 111 105 110,m 8 111])))) (r 15 [m 92 9,k 93 .add 92 I,m 9 93])))))) (.seq (.seq (r 20 [m 112 1,k 113 .eql 112 O]) (.cond (.t 113) (.seq (r 21 [m 114 8,m 4 114]) .ret) .skip)) (.seq (r 22 [f 115 1 2,l 116 115,m 117 1,k 118 .sub 117 I,i 119 10 116 118,L 120 10 119,w 11 (.alloc [O,O,.int .u8 0,O,O,O,O,O,.bool false,.int .u8 0]),s 10 11 120]) (.seq (r 23 [m 121 8,m 122 121,g 122 true (f 123 1 11),g 122 true (l 124 123),g 122 true (f 125 1 5),g 122 true (l 126 125),g 122 true (o 127 .lss 124 126),g 122 true (m 128 127),g 128 false (f 129 1 11),g 128 false (l 130 129),g 128 false (f 131 1 5),g 128 false (l 132 131),g 128 false (o 133 .eql 130 132),g 128 false (m 134 133),g 134 true (f 135 0 11),g 134 true (l 136 135),g 134 true (f 137 0 5),g 134 true (l 138 137),g 134 true (o 139 .lss 136 138),g 128 false (v 140 134 139),g 122 true (u 141 128 140),v 142 122 141,m 4 142]) .ret)))))))))
def Zes:List RRes:=[.t 4]
theorem Zet:PCt Tryz.prog 137 Tryz.f137 Zer Zes:=pcT Tryz.func137 rfl (by kernel_rfl) (by kernel_rfl) (by kernel_rfl)
open Qq in
def Zeu:RCode :=
 .seq (r 0 [b 1 0,n 2 (.bool false)]) (.seq (.seq (r 1 [f 5 1 1,l 6 5,e 7 6,k 8 .gtr 7 (.int .i64 12)]) (.cond (.t 8) (.seq (r 2 [n 2 (.bool false)]) .ret) .skip)) (.seq (r 3 [n 3 O]) (.seq (.seq (r 4 [n 4 O]) (.block 0 (.loop (.seq (.seq (r 5 [m 9 4,f 10 1 1,l 11 10,e 12 11,o 13 .lss 9 12]) (.cond (.t 13) .skip (.exit 0))) (.seq (.block 1 (.seq (.seq (r 7 [L 16 2 1,m 17 4,c 18 137 [16,17],t 19 18]) (.cond (.t 19) (.seq (r 8 [n 2 (.bool false)]) .ret) .skip)) (.seq (r 9 [f 20 1 1,l 21 20,m 22 4,i 23 10 21 22,f 24 2 23,l 25 24,k 26 .eql 25 (.int .u8 1)]) (.cond (.t 26) (r 10 [m 27 3,k 28 .add 27 I,m 3 28]) .skip)))) (r 6 [m 14 4,k 15 .add 14 I,m 4 15])))))) (.seq (r 11 [m 29 3,k 30 .leq 29 (.int .i64 5),m 2 30]) .ret))))
def Zev:List RRes:=[.t 2]
theorem Zew:PCt Tryz.prog 107 Tryz.f107 Zeu Zev:=pcT Tryz.func107 rfl (by kernel_rfl) (by kernel_rfl) (by kernel_rfl)
open Qq in
def Zex:RCode :=
 .seq (r 0 [b 1 0,n 2 O]) (.seq (.seq (r 1 [f 4 0 1,L 5 1 4,c 6 106 [5],m 3 6]) (.seq (r 2 [m 7 3,k 8 .neq 7 O]) (.cond (.t 8) (.seq (r 3 [m 9 3,m 2 9]) .ret) .skip))) (.seq (.seq (r 4 [L 10 2 1,c 11 107 [10],t 12 11]) (.cond (.t 12) (.seq (r 5 [n 2 (.int .i64 30)]) .ret) .skip)) (.seq (r 6 [n 2 O]) .ret)))
def Zey:List RRes:=[.t 2]
theorem Zez:PCt Tryz.prog 82 Tryz.f82 Zex Zey:=pcT Tryz.func82 rfl (by kernel_rfl) (by kernel_rfl) (by kernel_rfl)
open Qq in
def ZeA:RCode :=
 .seq (r 0 [b 1 0,n 2 .nils]) (.seq (r 1 [n 3 .nils]) (.seq (.seq (r 2 [n 4 O]) (.block 0 (.loop (.seq (.seq (r 3 [m 7 4,f 8 1 1,l 9 8,e 10 9,o 11 .lss 7 10]) (.cond (.t 11) .skip (.exit 0))) (.seq (.block 1 (.seq (.seq (r 5 [f 14 1 1,l 15 14,m 16 4,i 17 10 15 16,f 18 2 17,l 19 18,k 20 .neq 19 (.int .u8 1)]) (.cond (.t 20) (.exit 1) .skip)) (.seq (r 6 [m 21 3,m 22 4,w 23 (.bsl false 1 1 [O] [(0,.t 22)]),w 24 (.app 1 8 (.t 21) (.t 23)),m 3 24]) (.seq (r 7 [m 25 3,e 26 25,k 27 .sub 26 I,m 5 27]) (.block 2 (.loop (.seq (.seq (R 8 [m 28 5,a [0] (k 29 .gtr 28 O),a [1] (m 30 29),a [2] (g 30 true (f 31 1 1)),a [3,2] (g 30 true (l 32 31)),a [2] (g 30 true (m 33 3)),a [2] (g 30 true (m 34 5)),a [6,2] (g 30 true (k 35 .sub 34 I)),a [5,7,2] (g 30 true (i 36 1 33 35)),a [8,2] (g 30 true (l 37 36)),a [4,9,2] (g 30 true (i 38 10 32 37)),a [10,2] (g 30 true (f 39 0 38)),a [11,2] (g 30 true (l 40 39)),a [2] (g 30 true (f 41 1 1)),a [13,2] (g 30 true (l 42 41)),a [2] (g 30 true (m 43 3)),a [2] (g 30 true (m 44 5)),a [15,16,2] (g 30 true (i 45 1 43 44)),a [17,2] (g 30 true (l 46 45)),a [14,18,2] (g 30 true (i 47 10 42 46)),a [19,2] (g 30 true (f 48 0 47)),a [20,2] (g 30 true (l 49 48)),a [12,21,2] (g 30 true (o 50 .gtr 40 49)),a [2,22] (v 51 30 50)]) (.cond (.t 51) .skip (.exit 2))) (.seq (.block 3 (.seq (r 10 [m 54 3,m 55 5,i 56 1 54 55,l 57 56,m 6 57]) (.seq (r 11 [m 58 3,m 59 5,m 60 3,m 61 5,k 62 .sub 61 I,i 63 1 60 62,l 64 63,i 65 1 58 59,s 1 65 64]) (r 12 [m 66 3,m 67 5,k 68 .sub 67 I,m 69 6,i 70 1 66 68,s 1 70 69])))) (r 9 [m 52 5,k 53 .sub 52 I,m 5 53]))))))))) (r 4 [m 12 4,k 13 .add 12 I,m 4 13])))))) (.seq (r 13 [m 71 3,m 2 71]) .ret)))
def ZeB:List RRes:=[.t 2]
theorem ZeC:PCt Tryz.prog 46 Tryz.f46 ZeA ZeB:=pcT Tryz.func46 rfl (by kernel_rfl) (by kernel_rfl) (by kernel_rfl)
open Qq in
def ZeD:RCode :=
 .seq (r 0 [b 1 0,w 2 (.alloc [.nils,.nils])]) (.seq (R 1 [f 3 0 1,a [0] (L 4 1 3),a [1] (c 5 99 [4]),w 6 (.bsl true 10 0 [] []),f 7 1 1,a [4] (l 8 7),a [3,5,2] (w 9 (.app 10 72 (.t 6) (.t 8))),a [2,6] (w 10 (.build [.nils,.nils] [(0,1,.t 5),(1,1,.t 9)])),a [7,6,0,1,2,3,4,5,6,7] (s 2 2 10)]) .ret)
def ZeE:List RRes:=[.c 2 true 2]
open Qq in
def ZeF:RCode :=
 .seq (r 0 [b 1 0,n 2 (.bool false)]) (.seq (r 1 [f 3 0 1,L 4 1 3,c 5 105 [4],m 6 5,g 6 false (f 7 1 1),g 6 false (l 8 7),g 6 false (e 9 8),g 6 false (k 10 .gtr 9 (.int .i64 16)),u 11 6 10,m 2 11]) .ret)
def ZeG:List RRes:=[.t 2]
theorem ZeH:PCt Tryz.prog 81 Tryz.f81 ZeF ZeG:=pcT Tryz.func81 rfl (by kernel_rfl) (by kernel_rfl) (by kernel_rfl)
theorem ZeI {α:Type} {l:List α} {k:Nat} (h:k<l.length) (p:α->Bool):(l.take (k+1)).any p=((l.take k).any p||p l[k]):=by
 rw[List.take_succ_eq_append_getElem h,List.any_append];simp
def Chk (S:St) (Q:Prop) (Φ:Exit->St->Prop):Exit->St->Prop
 |.normal,s=>Yn s S/\Q
 |.ret,s=>Φ .ret s
 |_,_=>False
section
variable {P:Program} {R:Run} {S s:St} {Q:Prop} {Φ:Exit->St->Prop}
theorem ZeJ:Chk S Q Φ .normal s=(Yn s S/\Q):=rfl
theorem ZeK:Chk S Q Φ .ret s=Φ .ret s:=rfl
attribute [simp] ZeJ ZeK
theorem ZeL {a b:RCode} {st S:St} {Φ:Exit->St->Prop} (h:AR P R a st λe s=>e = .normal/\Yn s S) (hb:AR P R b S Φ):AR P R (.seq a b) st Φ :=
 Z1M (Z2D h λe s hs=>by obtain ⟨rfl,hw⟩:=hs;exact Z2L hw hb)
theorem ZeM {a b:RCode} {st S:St} {Q:Prop} {Φ:Exit->St->Prop} (h:AR P R a st (Chk S Q Φ)) (hb:Q->AR P R b S Φ):AR P R (.seq a b) st Φ :=
 Z1M (Z2D h λe s hs=>by
  cases e with
  |normal=>exact Z2L hs.1 (hb hs.2)
  |ret=>exact hs
  |_=>exact hs.elim)
end
section
variable {G:Nat->Option (List AV)}
theorem ZeN (n lo hi:Int):PC Tryz.prog G 155 [.int .i64 n,.int .i64 lo,.int .i64 hi] (.bool (inR n lo hi)):=by
 (refine Zeq rfl λR hG hrd=>Qga ?_;subst hG)
 by_cases h1:lo<=n <;> by_cases h2:n<=hi <;> simp -implicitDefEqProofs[Zeo,Zep,inR,h1,h2]
set_option maxHeartbeats 2000000 in
theorem ZeO (r:List Iss) (l:List Nte) (i:Nat) (hi:i<l.length) (hw:WfN l) (hr:SmlR r):PC Tryz.prog G 137 [.agg [.vsl (r.map isa),.vsl (l.map na)],.int .i64 i] (.bool (noteB r l i)):=by
 have hl:=hw.1;unfold Sml at hl;have hb:=hw.2 l[i] (List.getElem_mem hi);have hx:=ZdW hi;have hf:=Zbr (G:=G) r l[i].dr l[i].lt hr.1;rw[rega]at hf;obtain ⟨x,hxx⟩ : ∃ x,x=l[i]:=⟨_,rfl⟩;rw[<- hxx]at hx hb hf;have hlx:l[i]=x:=hxx.symm;have hna:na x=[.int .i64 x.nu,.int .i64 x.dy,.int .u8 x.sg,.int .i64 x.dr,.int .i64 x.lt,.int .i64 x.fr,.int .i64 x.tu,.int .i64 x.ca,.bool x.up,.int .u8 x.wy]:=rfl;refine Zet rfl λR hG hrd=>?_
 subst hG;unfold Zer;refine ZeL (S:=⟨[(1,.int .i64 i),(2,.ptr 2 0)],[(2,.box [.vsl (r.map isa),.vsl (l.map na)])]⟩) (Qga ?_) ?_
 . simp -implicitDefEqProofs[]
   (refine Yn.sub (by simp[lk,Ya,AV.keys]) ?_;simp only[Wkl,and_true];(try simp[lk,Yd,Ya,AV.keys]))
 refine ZeL (S:=⟨[(1,.int .i64 i),(2,.ptr 2 0),(5,.ptr 5 0)],[(2,.box [.vsl (r.map isa),.vsl (l.map na)]),(5,.box (na x))]⟩) (Qga ?_) ?_
 . simp -implicitDefEqProofs[hi,hlx,hna]
   ((try simp only[hna]);refine Yn.sub (by simp[lk,Ya,AV.keys,hna]) ?_;simp only[hna,Wkl,and_true];(try simp[lk,Yd,Ya,AV.keys,hna]))
 have nf:∀ c:Bool,c=false->(c&&noteB r l i)=false:=λc h=>by rw[h];rfl
 refine ZeM (S:=⟨[(1,.int .i64 i),(2,.ptr 2 0),(5,.ptr 5 0)],[(2,.box [.vsl (r.map isa),.vsl (l.map na)]),(5,.box (na x))]⟩) (Q:=cN1 x=true/\cN2 x=true/\cN3 x=true) (Qga ?_) ?_
 . simp -implicitDefEqProofs[hna];refine Qco (ZeN x.nu 1 9999) (by simp) ?_
   cases h1:inR x.nu 1 9999
   . have e:noteB r l i=false:=(by simp[noteB,hx,cN1,h1]);simp -implicitDefEqProofs[e,Zes]
   simp -implicitDefEqProofs[];refine Qco (ZeN x.dy 0 14610) (by simp) ?_
   cases h2:inR x.dy 0 14610
   . have e:noteB r l i=false:=(by simp[noteB,hx,cN1,h2]);simp -implicitDefEqProofs[e,Zes]
   by_cases h3:2<x.sg
   . have e:noteB r l i=false:=by
      have:¬x.sg<=2:=(by omega);simp[noteB,hx,cN2,this]
     simp -implicitDefEqProofs[h3,e,Zes]
   simp -implicitDefEqProofs[h3];refine Qco (ZeN x.fr 1 x.tu) (by simp) ?_
   cases h4:inR x.fr 1 x.tu
   . have e:noteB r l i=false:=by
      have h4:=of_decide_eq_false h4
      have:cN3 x=false:=by
       cases q:cN3 x
       . rfl
       . simp only[cN3,inR,Bool.and_eq_true,decide_eq_true_eq]at q;exact absurd ⟨q.1.1.1,q.2⟩ h4
      simp[noteB,hx,this]
     simp -implicitDefEqProofs[e,Zes]
   by_cases h5:999<x.tu
   . have e:noteB r l i=false:=by
      have:cN3 x=false:=by
       cases q:cN3 x
       . rfl
       . simp only[cN3,inR,Bool.and_eq_true,decide_eq_true_eq]at q;omega
      simp[noteB,hx,this]
     simp -implicitDefEqProofs[h5,e,Zes]
   by_cases h6:3<x.wy
   . have e:noteB r l i=false:=by
      have:¬x.wy<=3:=(by omega);simp[noteB,hx,cN2,this]
     simp -implicitDefEqProofs[h5,h6,e,Zes]
   simp -implicitDefEqProofs[h5,h6];refine ⟨?_,?_,?_,?_⟩
   . ((try simp only[hna]);refine Yn.sub (by simp[lk,Ya,AV.keys,hna]) ?_;simp only[hna,Wkl,and_true];(try simp[lk,Yd,Ya,AV.keys,hna]))
   . rw[cN1,h1,h2];rfl
   . have q1:x.sg<=2:=(by omega);have q2:x.wy<=3:=(by omega);simp[cN2,q1,q2]
   . have h4:=of_decide_eq_true h4;simp only[cN3,inR,Bool.and_eq_true,decide_eq_true_eq];omega
 rintro ⟨k1,k2,k3⟩;refine ZeM (S:=⟨[(1,.int .i64 i),(2,.ptr 2 0),(5,.ptr 5 0)],[(2,.box [.vsl (r.map isa),.vsl (l.map na)]),(5,.box (na x))]⟩) (Q:=cN4 r x=true) (Qga ?_) ?_
 . by_cases hz:x.dr=0/\x.lt=0
   . by_cases hc:x.ca=0
     . have e:noteB r l i=false:=(by simp[noteB,hx,cN4,hz,hc]);simp -implicitDefEqProofs[hna,hz.1,hz.2,hc,e,Zes]
     . simp -implicitDefEqProofs[hna,hz.1,hz.2,hc];refine ⟨?_,by simp[cN4,hz,hc]⟩
       ((try simp only[hna,hz.1,hz.2]);refine Yn.sub (by simp[lk,Ya,AV.keys,hna,hz.1,hz.2]) ?_;simp only[hna,hz.1,hz.2,Wkl,and_true];(try simp[lk,Yd,Ya,AV.keys,hna,hz.1,hz.2]))
   . have e4:cN4 r x=(findN x.dr x.lt r).isSome:=by simp[cN4,hz]
     have hA:∀ b:Bool,b=(decide (x.dr=0)&&decide (x.lt=0))->b=false:=λb e=>by
      rw[e];by_cases q:x.dr=0
      . simp[q,show ¬x.lt=0 from λh=>hz ⟨q,h⟩]
      . simp[q]
     by_cases q:x.dr=0
     case' pos =>
      have q2:¬x.lt=0:=λh=>hz ⟨q,h⟩
      simp -implicitDefEqProofs[hna,q,q2];rw[q]at hf
     case' neg=>simp -implicitDefEqProofs[hna,q]
     all_goals
      refine Qco (hf) (by simp) ?_
      cases hq:findN x.dr x.lt r with
      | none =>
        have e:noteB r l i=false:=by simp[noteB,hx,e4,hq]
        first
         |simp -implicitDefEqProofs[hq,fndA,noIs,e,Zes];done
         |(rw[q]at hq;simp -implicitDefEqProofs[hq,fndA,noIs,e,Zes];done)
      | some y =>
        have ey:isa y=[.int .i64 y.d,.int .i64 y.l,.int .u8 y.k,.vsl (y.its.map ita),.vsl (y.dms.map dma)]:=rfl;have hq4:cN4 r x=true:=by rw[e4,hq];rfl
        first
         |(simp -implicitDefEqProofs[hq,fndA,ey];refine ⟨?_,hq4⟩;((try simp only[hna]);refine Yn.sub (by simp[lk,Ya,AV.keys,hna]) ?_;simp only[hna,Wkl,and_true];(try simp[lk,Yd,Ya,AV.keys,hna]));done)
         |(rw[q]at hq;simp -implicitDefEqProofs[hq,fndA,ey];refine ⟨?_,hq4⟩;((try simp only[hna,q]);refine Yn.sub (by simp[lk,Ya,AV.keys,hna,q]) ?_;simp only[hna,q,Wkl,and_true];(try simp[lk,Yd,Ya,AV.keys,hna,q]));done)
 intro k4;refine ZeM (S:=⟨[(1,.int .i64 i),(2,.ptr 2 0),(5,.ptr 5 0)],[(2,.box [.vsl (r.map isa),.vsl (l.map na)]),(5,.box (na x))]⟩) (Q:=cN5 x=true) (Qga ?_) ?_
 . by_cases q1:x.lt<2
   . have q1':¬2<=x.lt:=by omega
     cases q2:x.up
     . by_cases q3:0<x.wy
       . have e:noteB r l i=false:=by
          have:¬x.wy=0:=(by omega);simp[noteB,hx,cN5,q1',q2,this]
         simp -implicitDefEqProofs[hna,q1,q2,q3,e,Zes]
       . simp -implicitDefEqProofs[hna,q1,q2,q3];refine ⟨?_,?_⟩
         . ((try simp only[hna,q2]);refine Yn.sub (by simp[lk,Ya,AV.keys,hna,q2]) ?_;simp only[hna,q2,Wkl,and_true];(try simp[lk,Yd,Ya,AV.keys,hna,q2]))
         . have:x.wy=0:=(by omega);simp[cN5,q2,this]
     . have e:noteB r l i=false:=(by simp[noteB,hx,cN5,q1',q2]);simp -implicitDefEqProofs[hna,q1,q2,e,Zes]
   . have q1':2<=x.lt:=(by omega);simp -implicitDefEqProofs[hna,q1];refine ⟨?_,by simp[cN5,q1']⟩
     ((try simp only[hna]);refine Yn.sub (by simp[lk,Ya,AV.keys,hna]) ?_;simp only[hna,Wkl,and_true];(try simp[lk,Yd,Ya,AV.keys,hna]))
 intro k5;have en:noteB r l i=(cN6 l i x&&cN7 l i x&&cN8 l i x):=(by rw[noteB,hx,k1,k2,k3,k4,k5];rfl);rw[en];refine Qga ?_;simp -implicitDefEqProofs[hna]
 refine Zba (λk=>⟨[(9,.int .i64 k),(8,.bool (decide (x.ca=0)||(l.take k).any λy=>decide (y.nu=x.ca))),(1,.int .i64 i),(2,.ptr 2 0),(5,.ptr 5 0)],[(2,.box [.vsl (r.map isa),.vsl (l.map na)]),(5,.box (na x))]⟩)
  (λk=>((l.take k).any λy=>decide (y.nu=x.nu))=false) i ?_ (by simp) ?_ ?_
 . ((try simp only[hna,List.take_zero,List.any_nil,Bool.or_false]);refine Yn.sub (by simp[lk,Ya,AV.keys,hna,List.take_zero,List.any_nil,Bool.or_false]) ?_;simp only[hna,List.take_zero,List.any_nil,Bool.or_false,Wkl,and_true];(try simp[lk,Yd,Ya,AV.keys,hna,List.take_zero,List.any_nil,Bool.or_false]))
 . intro k hk hI;refine Qga ?_;have hkl:k<l.length:=(by omega);have wk:IntKind.i64.wrap ((k:Int)+1)=(k:Int)+1:=Yg (by omega) (by omega);have a1:=ZeI hkl λy=>decide (y.nu=x.nu)
   have a2:=ZeI hkl λy=>decide (y.nu=x.ca)
   have hnk:na l[k]=[.int .i64 l[k].nu,.int .i64 l[k].dy,.int .u8 l[k].sg,.int .i64 l[k].dr,.int .i64 l[k].lt,.int .i64 l[k].fr,.int .i64 l[k].tu,.int .i64 l[k].ca,.bool l[k].up,.int .u8 l[k].wy]:=rfl;by_cases e:l[k].nu=x.nu
   . have h7:cN7 l i x=false:=by
      have:((l.take i).any λy=>decide (y.nu=x.nu))=true:=List.any_eq_true.2 ⟨l[k],by rw[List.mem_take_iff_getElem];exact ⟨k,by omega,rfl⟩,by simp[e]⟩;rw[cN7,this];rfl
     simp -implicitDefEqProofs[hk,hkl,hna,hnk,e];refine Qgr ?_;simp -implicitDefEqProofs[h7,Zes]
   . have hI2:((l.take (k+1)).any λy=>decide (y.nu=x.nu))=false:=by rw[a1,hI];simp[e]
     cases hB:(decide (x.ca=0)||(l.take k).any λy=>decide (y.nu=x.ca))
     . have hB2:(decide (x.ca=0)||(l.take (k+1)).any λy=>decide (y.nu=x.ca))=decide (l[k].nu=x.ca):=(by rw[a2,<- Bool.or_assoc,hB];simp);simp -implicitDefEqProofs[hk,hkl,hna,hnk,e,hB,wk];refine ⟨?_,by simpa using hI2⟩
       ((try simp only[hna,hB2]);refine Yn.sub (by simp[lk,Ya,AV.keys,hna,hB2]) ?_;simp only[hna,hB2,Wkl,and_true];(try simp[lk,Yd,Ya,AV.keys,hna,hB2]))
     . have hB2:(decide (x.ca=0)||(l.take (k+1)).any λy=>decide (y.nu=x.ca))=true:=(by rw[a2,<- Bool.or_assoc,hB];rfl);simp -implicitDefEqProofs[hk,hkl,hna,hnk,e,hB,wk];refine ⟨?_,by simpa using hI2⟩
       ((try simp only[hna,hB2]);refine Yn.sub (by simp[lk,Ya,AV.keys,hna,hB2]) ?_;simp only[hna,hB2,Wkl,and_true];(try simp[lk,Yd,Ya,AV.keys,hna,hB2]))
 . intro hI;refine Qga ?_;have h7:cN7 l i x=true:=(by rw[cN7,hI];rfl);have h6:(decide (x.ca=0)||(l.take i).any λy=>decide (y.nu=x.ca))=cN6 l i x:=rfl;rw[h6];simp -implicitDefEqProofs[hna];refine Qgr ?_
   cases i with
   |zero=>simp -implicitDefEqProofs[h7,cN8,Zes]
   | succ k =>
     have hkl:k<l.length:=(by omega);have w1:IntKind.i64.wrap ((k:Int)+1-1)=(k:Int):=(by rw[Yg (by omega) (by omega)];omega);have w2:IntKind.i64.wrap (k:Int)=(k:Int):=Yg (by omega) (by omega);have i0:¬(k:Int)+1=0:=(by omega);have ek:=ZdW hkl;have hnk:na l[k]=[.int .i64 l[k].nu,.int .i64 l[k].dy,.int .u8 l[k].sg,.int .i64 l[k].dr,.int .i64 l[k].lt,.int .i64 l[k].fr,.int .i64 l[k].tu,.int .i64 l[k].ca,.bool l[k].up,.int .u8 l[k].wy]:=rfl;have e8:cN8 l (k+1) x=(decide (l[k].dy<x.dy)||(decide (l[k].dy=x.dy)&&decide (l[k].nu<x.nu))):=(by rw[cN8,ek]);rw[e8]
     cases h6:cN6 l (k+1) x
     . simp -implicitDefEqProofs[h7,i0,w1,w2,hkl,hnk,hna,h6,Zes]
     by_cases q1:l[k].dy<x.dy
     . simp -implicitDefEqProofs[h7,i0,w1,w2,hkl,hnk,hna,q1,h6,Zes]
     by_cases q2:l[k].dy=x.dy
     . have q1':¬x.dy<x.dy:=(by omega);simp -implicitDefEqProofs[h7,i0,w1,w2,hkl,hnk,hna,q2,h6,Zes]
     . simp -implicitDefEqProofs[h7,i0,w1,w2,hkl,hnk,hna,q1,q2,h6,Zes]
end
def insK (f:Nat->Int) (L:List Nat) (x:Nat):List Nat:=(L.takeWhile λy=>decide (f y<=f x))++x::L.dropWhile λy=>decide (f y<=f x)
def opI (l:List Nte):Nat->List Nat
 |0=>[]
 |i+1=>if (nAt l i).sg=1 then insK (λj=>(nAt l j).nu) (opI l i) i else opI l i
theorem ZeP (f:Nat->Int) (L:List Nat) (x:Nat):(insK f L x).length=L.length+1:=by
 have:=congrArg List.length (List.takeWhile_append_dropWhile (p:=λy=>decide (f y<=f x)) (l:=L));simp only[List.length_append]at this;simp only[insK,List.length_append,List.length_cons];omega
theorem ZeQ (l:List Nte):∀ i,(opI l i).length<=i
 |0=>Nat.le_refl _
 | i+1=>by
   have:=ZeQ l i;rw[opI]
   split
   . rw[ZeP];omega
   . omega
theorem ZeR (f:Nat->Int) (L:List Nat) (x:Nat):(insK f L x).Perm (x::L):=by
 have h:=List.perm_middle (a:=x) (l₁:=L.takeWhile λy=>decide (f y<=f x)) (l₂:=L.dropWhile λy=>decide (f y<=f x));rw[List.takeWhile_append_dropWhile]at h;exact h
theorem ZeS (l:List Nte):∀ i,∀ j∈opI l i,j<i/\(nAt l j).sg=1
 |0,j,h=>by cases h
 | i + 1,j,h=>by
   rw[opI]at h
   split at h
   . rename_i e;rcases List.mem_cons.1 ((ZeR _ _ _).mem_iff.1 h) with rfl|h
     . exact ⟨by omega,e⟩
     . have:=ZeS l i j h;exact ⟨by omega,this.2⟩
   . have:=ZeS l i j h;exact ⟨by omega,this.2⟩
def SrtF (f:Nat->Int) (L:List Nat):Prop:=L.Pairwise λa b=>f a<=f b
theorem ZeT {f:Nat->Int} {L:List Nat} {x:Nat} (h:SrtF f L):SrtF f (insK f L x):=by
 have ht:=List.takeWhile_append_dropWhile (p:=λy=>decide (f y<=f x)) (l:=L)
 have hd:∀ y∈L.dropWhile (λy=>decide (f y<=f x)),f x<f y:=by
  induction L with
  |nil=>intro y hy;cases hy
  | cons z L ih =>
    intro y hy;rw[List.dropWhile_cons]at hy;unfold SrtF at h;rw[List.pairwise_cons]at h
    split at hy
    . exact ih h.2 List.takeWhile_append_dropWhile y hy
    . rename_i e;have e:¬f z<=f x:=(by simpa using e);rcases List.mem_cons.1 hy with rfl|hy
      . omega
      . have:=h.1 y hy;omega
 have htk:∀ y∈L.takeWhile (λy=>decide (f y<=f x)),f y<=f x:=λy hy=>by
  have:=List.all_eq_true.1 (List.all_takeWhile (p:=λy=>decide (f y<=f x)) (l:=L)) y hy;simpa using this
 unfold SrtF at h ⊢;rw[<- ht,List.pairwise_append]at h;unfold insK;rw[List.pairwise_append];refine ⟨h.1,List.pairwise_cons.2 ⟨λy hy=>Int.le_of_lt (hd y hy),h.2.1⟩,λa ha b hb=>?_⟩;rcases List.mem_cons.1 hb with rfl|hb
 . exact htk a ha
 . exact h.2.2 a ha b hb
theorem ZeU (l:List Nte):∀ i,SrtF (λj=>(nAt l j).nu) (opI l i)
 |0=>List.Pairwise.nil
 | i+1=>by
   rw[opI]
   split
   . exact ZeT (ZeU l i)
   . exact ZeU l i
theorem ZeV {f:Nat->Int} {L:List Nat} {x k:Nat} (h:SrtF f L) (hk:k<=L.length) (h1:∀ y∈L.drop k,f x<f y) (h2:∀ q,k=q+1->∀ y,L[q]? = some y->f y<=f x):L.take k++x::L.drop k=insK f L x:=by
 have ha:∀ y∈L.take k,f y<=f x:=λy hy=>by
  obtain ⟨j,hj,rfl⟩:=List.getElem_of_mem hy;rw[List.getElem_take];have hjk:j<k:=(by simp at hj;omega);obtain ⟨q,rfl⟩ : ∃ q,k=q+1:=⟨k-1,by omega⟩;have hq:q<L.length:=(by omega);have hz:=h2 q rfl L[q] (List.getElem?_eq_getElem hq);rcases Nat.lt_or_ge j q with h3|h3
  . have:=List.pairwise_iff_getElem.1 h j q (by omega) hq h3;omega
  . obtain rfl:j=q:=(by omega);exact hz
 have hL:=List.take_append_drop k L;unfold insK
 have e1:L.takeWhile (λy=>decide (f y<=f x))=L.take k:=by
  conv=>lhs;rw[<- hL]
  rw[List.takeWhile_append_of_pos (λy hy=>by simpa using ha y hy)]
  have:(L.drop k).takeWhile (λy=>decide (f y<=f x))=[]:=by
   cases hd:L.drop k with
   |nil=>rfl
   | cons z D =>
     have:=h1 z (by rw[hd];exact List.mem_cons_self);rw[List.takeWhile_cons,if_neg (by simp;omega)]
  rw[this,List.append_nil]
 have e2:L.dropWhile (λy=>decide (f y<=f x))=L.drop k:=by
  have h3:=List.takeWhile_append_dropWhile (p:=λy=>decide (f y<=f x)) (l:=L);rw[e1]at h3
  conv at h3=>rhs;rw[<- hL]
  exact List.append_cancel_left h3
 rw[e1,e2]
section
variable {G:Nat->Option (List AV)}
theorem ZeW (r:List Iss) (l:List Nte) (hw:WfN l) (hr:SmlR r):PC Tryz.prog G 107 [.agg [.vsl (r.map isa),.vsl (l.map na)]] (.bool (ZdZ r l)):=by
 (refine Zew rfl λR hG hrd=>Qga ?_;subst hG)
 by_cases h0:12<l.length
 . have h0':(12:Int)<l.length:=by omega
   have e:ZdZ r l=false:=by
    have:¬l.length<=12:=(by omega);simp[ZdZ,this]
   simp -implicitDefEqProofs[Zeu,Zev,h0,h0',e]
 have h0':¬(12:Int)<l.length:=(by omega);simp -implicitDefEqProofs[Zeu,Zev,h0,h0'];refine Zba (λi=>⟨[(4,.int .i64 i),(3,.int .i64 ((opN l i).length:Nat)),(1,.ptr 1 0)],[(1,.box [.vsl (r.map isa),.vsl (l.map na)])]⟩) (λi=>∀ j,j<i->noteB r l j=true) l.length (by (first|exact Yn.tm (by simp[lk,opN])|exact Yn.sub (by simp[lk,Ya,AV.keys,opN]) (by simp[lk,Yd,Ya,AV.keys,opN]))) (by simp) ?_ ?_
 . intro i hi he;refine Qga ?_;have wi:IntKind.i64.wrap ((i:Int)+1)=(i:Int)+1:=Yg (by omega) (by omega);have hn:=ZeO (G:=R.G) r l i hi hw hr;have sc:=ZdX hi;have ol:=ZdY l i;have wo:IntKind.i64.wrap (((opN l i).length:Int)+1)=((opN l i).length:Int)+1:=Yg (by omega) (by omega);simp -implicitDefEqProofs[hi];refine Qco (hn) (by simp) ?_
   cases hb:noteB r l i
   . have e:ZdZ r l=false:=by
      cases q:ZdZ r l
      . rfl
      . simp only[ZdZ,Bool.and_eq_true]at q;have:=Zbs.1 q.1.2 i hi;rw[hb]at this;cases this
     simp -implicitDefEqProofs[];refine Qgr ?_;simp -implicitDefEqProofs[e]
   . have he2:∀ j,j<i+1->noteB r l j=true:=λj hj=>by
      rcases Nat.lt_or_ge j i with h1|h1
      . exact he j h1
      . obtain rfl:j=i:=(by omega);exact hb
     by_cases q:l[i].sg=1
     . rw[if_pos q]at sc;simp -implicitDefEqProofs[hi,na,q,wo,wi];refine ⟨?_,he2⟩
       (first|exact Yn.tm (by simp[lk,sc])|exact Yn.sub (by simp[lk,Ya,AV.keys,sc]) (by simp[lk,Yd,Ya,AV.keys,sc]))
     . rw[if_neg q]at sc;simp -implicitDefEqProofs[hi,na,q,wi];refine ⟨?_,he2⟩
       (first|exact Yn.tm (by simp[lk,sc])|exact Yn.sub (by simp[lk,Ya,AV.keys,sc]) (by simp[lk,Yd,Ya,AV.keys,sc]))
 . intro he;refine Qga ?_
   have e:ZdZ r l=decide ((opN l l.length).length<=5):=by
    have h1:(List.range l.length).all (noteB r l)=true:=Zbs.2 he;have h2:l.length<=12:=(by omega);simp[ZdZ,h1,h2]
   have h5:decide (((opN l l.length).length:Int)<=5)=decide ((opN l l.length).length<=5):=decide_eq_decide.2 (by omega);simp -implicitDefEqProofs[];refine Qgr ?_;simp -implicitDefEqProofs[e,h5]
theorem ZeX (r:List Iss) (l:List Nte) (hw:WfN l) (hr:Wf r):PC Tryz.prog G 82 [.agg [.vsl (r.map isa),.vsl (l.map na)]] (.int .i64 (chN r l)):=by
 have hc:=ZbX (G:=G) r hr;rw[<- ZdQ,rega]at hc
 (refine Zez rfl λR hG hrd=>Qga ?_;subst hG)
 simp -implicitDefEqProofs[Zex,Zey];refine Qco (hc) (by simp) ?_;by_cases h:openV r=0
 . simp -implicitDefEqProofs[h];refine Qco (ZeW r l hw hr.1) (by simp) ?_
   cases q:ZdZ r l <;> simp -implicitDefEqProofs[chN,h,q]
 . simp -implicitDefEqProofs[chN,h]
end
def dropZ:Nat->RCode->RCode
 |0,c=>c
 |n+1,.seq _ c=>dropZ n c
 |_+1,c=>c
theorem GOz {P:Program} {R:Run} {c:RCode} {ks:List KF} {Φ:Exit->St->Prop} {st:St} (h:AR P R c st (RetP P R ks Φ)):GO P R 0 (.run c) ks Φ st:=h
open Qq in
def ZeY:RCode :=
 .seq (r 0 [n 4 (.bool false)]) (.seq (.seq (r 1 [m 6 0,e 7 6,m 8 1,e 9 8,o 10 .neq 7 9]) (.cond (.t 10) (.seq (r 2 [n 4 (.bool false)]) .ret) .skip)) (.seq (.seq (r 3 [n 5 O]) (.block 0 (.loop (.seq (.seq (r 4 [m 11 5,m 12 0,e 13 12,o 14 .lss 11 13]) (.cond (.t 14) .skip (.exit 0))) (.seq (.block 1 (.seq (R 6 [m 17 0,m 18 5,a [0,1] (i 19 2 17 18),a [2] (L 20 2 19),m 21 1,m 22 5,a [4,5] (i 23 2 21 22),a [6] (L 24 2 23),a [3,7] (w 25 (.eqs true [.i,.i] (.t 20) (.t 24)))]) (.cond (.t 25) (.seq (r 7 [n 4 (.bool false)]) .ret) .skip))) (r 5 [m 15 5,k 16 .add 15 I,m 5 16])))))) (.seq (r 8 [n 4 (.bool true)]) .ret)))
def ZeZ:List RRes:=[.t 4]
theorem Zf0:PCt Tryz.prog 33 Tryz.f33 ZeY ZeZ:=pcT Tryz.func33 rfl (by kernel_rfl) (by kernel_rfl) (by kernel_rfl)
section
variable {G:Nat->Option (List AV)}
end
theorem GO0 {P:Program} {R:Run} {c:RCode} {ks:List KF} {Φ:Exit->St->Prop} {st:St} (h:AR P R c st (RetP P R ks Φ)):GO P R 0 (.run c) ks Φ st:=h
section
variable {G:Nat->Option (List AV)}
end
def mpA {α:Type} (f:α->AV) (l:List (Int×α)):List (AV×AV):=l.map λp=>(.int .i64 p.1,f p.2)
def mlk {α:Type} (n:Int):List (Int×α)->Option α
 |[]=>none
 |p::l=>if n=p.1 then some p.2 else mlk n l
theorem Zf1 {α:Type} (f:α->AV) (n:Int):∀ l:List (Int×α),∃ o:Option Nat,(KK.i .i64).find (.int .i64 n) (mpA f l)=some o/\match o with
  |some j=>∃ v,l[j]? = some (n,v)/\mlk n l=some v
  |none=>mlk n l=none/\∀ p∈l,p.1≠n
 |[]=>⟨none,rfl,rfl,by simp⟩
 | p :: r=>by
   obtain ⟨o,h1,h2⟩:=Zf1 f n r;by_cases e:n=p.1
   . refine ⟨some 0,by simp[mpA,KK.find,KK.eq,e],p.2,by simp[e],by simp[mlk,e]⟩
   . refine ⟨o.map (· + 1),?_,?_⟩
     . simp only[mpA,List.map_cons,KK.find,KK.eq,and_self,if_true,e,decide_false];rw[show r.map (λp=>(AV.int .i64 p.1,f p.2))=mpA f r from rfl,h1];rfl
     . cases o with
       |none=>exact ⟨by simp only[mlk,e,if_false];exact h2.1,λq hq=>by
        rcases List.mem_cons.1 hq with rfl|hq
        . exact λh=>e h.symm
        . exact h2.2 q hq⟩
       | some j =>
         obtain ⟨v,h3,h4⟩:=h2;exact ⟨v,by simpa using h3,by simp only[mlk,e,if_false];exact h4⟩
theorem Zf2 {α:Type} (f:α->AV) (n:Int) (l:List (Int×α)):(KK.i .i64).get (.int .i64 n) (mpA f l)=some ((mlk n l).map f):=by
 obtain ⟨o,h1,h2⟩:=Zf1 f n l;have hi:(KK.i .i64).is (.int .i64 n)=true:=(by simp[KK.is]);unfold KK.get;rw[if_pos hi,h1]
 cases o with
 |none=>simp[h2.1]
 |some j=>obtain ⟨v,h3,h4⟩:=h2;simp[mpA,h3,h4]
section
variable {G:Nat->Option (List AV)}
end
def needL (n:Int) (l:List (Int×Int)):Bool:=l.any λy=>decide (y.1=n)
inductive Up (T:Int->Iss) (l:List Int) (d:Int):Int->Prop
 |base (n:Int) (hn:n∈l) (h:needL d (T n).its=true):Up T l d n
 |step (n m:Int) (hn:n∈l) (h:needL m (T n).its=true) (hm:Up T l d m):Up T l d n
theorem Up.trans {T:Int->Iss} {l:List Int} {d m n:Int} (h1:Up T l d m) (h2:Up T l m n):Up T l d n:=by
 induction h2 with
 |base n hn h=>exact .step n m hn h h1
 |step n k hn h _ ih=>exact .step n k hn h ih
theorem Up.mem {T:Int->Iss} {l:List Int} {d n:Int} (h:Up T l d n):n∈l:=by cases h <;> assumption
section
variable {G:Nat->Option (List AV)}
theorem Zf3 (a b:List (Int×Int)) (ha:Sml a):PC Tryz.prog G 33 [.vsl (a.map ita),.vsl (b.map ita)] (.bool (decide (a=b))):=by
 (refine Zf0 rfl λR hG hrd=>Qga ?_;subst hG)
 by_cases hl:a.length=b.length
 . have hl':(a.length:Int)=b.length:=(by omega);simp -implicitDefEqProofs[ZeY,ZeZ,hl'];refine Zba (λi=>⟨[(5,.int .i64 i),(0,.vsl (a.map ita)),(1,.vsl (b.map ita))],[]⟩) (λi=>∀ j (h:j<a.length),j<i->a[j]=b[j]) a.length (by (first|exact Yn.tm (by simp[lk])|exact Yn.sub (by simp[lk,Ya,AV.keys]) (by simp[lk,Yd,Ya,AV.keys]))) (by simp) ?_ ?_
   . intro i hi he;refine Qga ?_;unfold Sml at ha;have hi2:i<b.length:=(by omega);have w1:IntKind.i64.wrap ((i:Int)+1)=((i+1:Nat):Int):=Yg (by omega) (by omega);simp -implicitDefEqProofs[hi,hi2,ita];refine ⟨rfl,?_⟩;by_cases h2:a[i]=b[i]
     . simp -implicitDefEqProofs[h2,w1];refine ⟨(by (first|exact Yn.tm (by simp[lk])|exact Yn.sub (by simp[lk,Ya,AV.keys]) (by simp[lk,Yd,Ya,AV.keys]))),λj h1 h3=>?_⟩;by_cases e:j=i
       . subst e;exact h2
       . exact he j h1 (by omega)
     . have h3:¬a=b:=λe=>h2 (by subst e;rfl)
       rw[Zbk h2];simp -implicitDefEqProofs[];refine Qgr ?_;simp -implicitDefEqProofs[h3]
   . intro he;refine Qga ?_;have h3:a=b:=List.ext_getElem hl λj h1 h2=>he j h1 h1
     simp -implicitDefEqProofs[];refine Qgr ?_;simp -implicitDefEqProofs[h3]
 . have hl':¬(a.length:Int)=b.length:=(by omega);have h3:¬a=b:=λe=>hl (by rw[e])
   simp -implicitDefEqProofs[ZeY,ZeZ,hl',h3]
end
def Yh (l:List (List AV)):AV:=if l=[] then .nils else .vsl l
theorem Zf4 {l:List (List AV)} (h:l.all (λr=>r.all AV.pure)=true):(Yh l).pure=true:=by
 unfold Yh;split
 . simp[AV.pure]
 . simp[AV.pure]
theorem Zf5 (l:List (List AV)):(Yh l).keys=[]:=by unfold Yh;split <;> simp[AV.keys]
theorem Zf6 (l:List (List AV)) (ok:Nat->Bool) (st:St) (n:Nat):Yi ok st n (Yh l)=some (Yh l):=by unfold Yh;split <;> cases n <;> simp[Yi,AV.pure]
section
variable {G:Nat->Option (List AV)}
end
def ja (j:Nat):List AV:=[.int .i64 (j:Int)]
theorem Zf7 (o:List (Nat×AObj)) (l:List Nat):Yd o (.row 1 (l.map ja))=true:=by
 simp only[Yd,List.all_eq_true,List.mem_map];rintro x ⟨y,-,rfl⟩ v hv;simp only[ja,List.mem_singleton]at hv;subst hv;simp[Ya,AV.keys]
def opW (r:List Iss) (l:List Nte) (i:Nat):St :=
 if opI l i=[] then ⟨[(4,.int .i64 i),(3,.nils),(1,.ptr 1 0)],[(1,.box [.vsl (r.map isa),.vsl (l.map na)])]⟩
 else ⟨[(4,.int .i64 i),(3,.osl 24 (opI l i).length),(1,.ptr 1 0)],[(24,.row 1 ((opI l i).map ja)),(1,.box [.vsl (r.map isa),.vsl (l.map na)])]⟩
def jnK (L:List Nat) (i p:Nat):List Nat:=L.take p++i::L.drop p
def opX (r:List Iss) (l:List Nte) (i:Nat) (L:List Nat) (p:Nat):St:=⟨[(5,.int .i64 p),(4,.int .i64 i),(3,.osl 24 (L.length+1)),(1,.ptr 1 0)],[(24,.row 1 ((jnK L i p).map ja)),(1,.box [.vsl (r.map isa),.vsl (l.map na)])]⟩
theorem Zf8 {L:List Nat} {i p:Nat} (h:p<L.length):(jnK L i (p+1))[p]? = some L[p]/\(jnK L i (p+1))[p+1]? = some i/\(jnK L i (p+1)).length=L.length+1/\((jnK L i (p+1)).set (p+1) L[p]).set p i=jnK L i p:=by
 unfold jnK;have hl:(L.take p).length=p:=(by simp;omega);rw[List.take_succ_eq_append_getElem h,List.append_assoc,List.cons_append,List.nil_append];refine ⟨?_,?_,?_,?_⟩
 . rw[List.getElem?_append_right (by omega),hl,Nat.sub_self];rfl
 . rw[List.getElem?_append_right (by omega),hl,Nat.add_sub_cancel_left];rfl
 . simp;omega
 . rw[List.set_append_right _ _ (by omega),List.set_append_right _ _ (by omega),hl,List.drop_eq_getElem_cons h];simp
section
variable {G:Nat->Option (List AV)}
set_option maxHeartbeats 1000000 in
theorem Zf9 (r:List Iss) (l:List Nte) (hl:l.length<=12):PC Tryz.prog G 46 [.agg [.vsl (r.map isa),.vsl (l.map na)]] (Yh ((opI l l.length).map ja)):=by
 (refine ZeC rfl λR hG hrd=>Qga ?_;subst hG)
 simp -implicitDefEqProofs[ZeA,ZeB];refine Zba (opW r l) (λ_=>True) l.length ?_ trivial ?_ ?_
 . have e:opI l 0=[]:=rfl;simp only[opW,e,if_true]
   (refine Yn.sub (by simp[lk,Ya,AV.keys]) ?_;simp only[Wkl,and_true];(try simp[lk,Yd,Ya,AV.keys]))
 . intro i hi _;have hx:=ZdW hi;have hnx:na (nAt l i)=[.int .i64 (nAt l i).nu,.int .i64 (nAt l i).dy,.int .u8 (nAt l i).sg,.int .i64 (nAt l i).dr,.int .i64 (nAt l i).lt,.int .i64 (nAt l i).fr,.int .i64 (nAt l i).tu,.int .i64 (nAt l i).ca,.bool (nAt l i).up,.int .u8 (nAt l i).wy]:=rfl;have hO:opI l (i+1)=if (nAt l i).sg=1 then insK (λj=>(nAt l j).nu) (opI l i) i else opI l i:=rfl
   have hlt:=ZeS l i;have hsr:=ZeU l i;have hln:=ZeQ l i;have wi:IntKind.i64.wrap ((i:Int)+1)=(i:Int)+1:=Yg (by omega) (by omega);unfold opW;generalize opI l i=L at *;have hF:∀ j,(nAt l j).nu=(λj=>(nAt l j).nu) j:=λ_=>rfl
   refine Qga ?_;by_cases c:(nAt l i).sg=1
   . rw [if_pos c]at hO;have hne:opI l (i+1)≠[]:=(by rw[hO];intro h;have:=ZeP (λj=>(nAt l j).nu) L i;rw[h]at this;cases this);have hlen:(opI l (i+1)).length=L.length+1:=(by rw[hO,ZeP]);have bb:(L.length+1)*8<=70368744177664:=(by omega);have wl:IntKind.i64.wrap (L.length:Int)=(L.length:Int):=(by rw[Yg (by omega) (by omega)]);have wz:IntKind.i64.wrap 0=0:=rfl;have hmid:=λp (hp:p<L.length)=>Zf8 (i:=i) hp
     have hend:=λp (h1:p<=L.length)=>ZeV (f:=λj=>(nAt l j).nu) (x:=i) (k:=p) hsr h1
     by_cases c0:L=[]
     case' pos=>simp -implicitDefEqProofs[c0,hi,<- hx,hnx,c,wz]
     case' neg=>simp -implicitDefEqProofs[c0,hi,<- hx,hnx,c,bb,wl]
     all_goals
      refine Z1Q (opX r l i L) (λp=>p<=L.length/\∀ y∈L.drop p,(nAt l i).nu<(nAt l y).nu) (λp=>p) L.length ?_ ⟨Nat.le_refl _,λy hy=>by rw[List.drop_of_length_le (Nat.le_refl _)]at hy;cases hy⟩ ?_
      . unfold opX jnK;rw[List.take_of_length_le (Nat.le_refl _),List.drop_of_length_le (Nat.le_refl _),List.map_append]
        first
         |(subst c0;((try simp only[ja]);refine Yn.sub (by simp[lk,Ya,AV.keys,ja]) ?_;simp only[ja,Wkl,and_true];(try simp[lk,Yd,Ya,AV.keys,ja]));done)
         |(((try simp only[ja]);refine Yn.sub (by simp[lk,Ya,AV.keys,ja]) ?_;simp only[ja,Wkl,and_true];(try simp[lk,Yd,Ya,AV.keys,ja]));done)
      rintro p ⟨hp,hd⟩;refine Qga ?_
      cases p with
      | zero =>
        have he:=hend 0 (Nat.zero_le _) hd (λq hq=>by omega);simp -implicitDefEqProofs[opX];refine ⟨rfl,?_⟩;refine Qgr ?_;simp -implicitDefEqProofs[wi];simp only[hne,if_false,hlen];change jnK L i 0=_ at he;rw[hO,<- he]
        ((try simp only[ja]);refine Yn.sub (by simp[lk,Ya,AV.keys,ja]) ?_;simp only[ja,Wkl,Zf7,and_true];(try simp[lk,Yd,Ya,AV.keys,ja]))
      | succ p =>
        obtain ⟨m1,m2,m3,m4⟩:=hmid p hp;have he:=hend (p+1) hp hd;obtain ⟨j,hj⟩ : ∃ j,j=L[p]:=⟨_,rfl⟩;have hji:=(hlt j (by rw[hj];exact List.getElem_mem _)).1;have hjl:j<l.length:=(by omega);have hpj:L[p]? = some j:=(by rw[hj];exact List.getElem?_eq_getElem _);rw[<- hj]at m1 m4;unfold opX;replace he:_->jnK L i (p+1)=_:=he;generalize jnK L i (p+1)=Q at *;obtain ⟨q1,g1⟩:=List.getElem?_eq_some_iff.1 m1;obtain ⟨q2,g2⟩:=List.getElem?_eq_some_iff.1 m2;have hxj:=ZdW hjl;have hnj:na (nAt l j)=[.int .i64 (nAt l j).nu,.int .i64 (nAt l j).dy,.int .u8 (nAt l j).sg,.int .i64 (nAt l j).dr,.int .i64 (nAt l j).lt,.int .i64 (nAt l j).fr,.int .i64 (nAt l j).tu,.int .i64 (nAt l j).ca,.bool (nAt l j).up,.int .u8 (nAt l j).wy]:=rfl;have w2:IntKind.i64.wrap ((p:Int))=(p:Int):=Yg (by omega) (by omega);have k1:(0:Int)<(p:Int)+1:=(by omega);have k2:((p:Int)+1).toNat=p+1:=(by omega);have k3:(0:Int)<=(p:Int)+1:=(by omega);have k4:p<L.length:=(by omega);have k5:p<=L.length:=(by omega);have k6:p<L.length+1:=(by omega);have k7:(p:Int)<(L.length:Int)+1:=(by omega);have k8:(p:Int)+1<(L.length:Int)+1:=(by omega);by_cases hlt2:(nAt l i).nu<(nAt l j).nu
        . simp -implicitDefEqProofs[w2,k1,k2,k3,k4,k5,k6,k7,k8,g1,g2,m3,ja,hi,hjl,<- hx,<- hxj,hnx,hnj,hlt2];refine ⟨rfl,p,?_,⟨by omega,λu hu=>?_⟩,Nat.lt_succ_self _⟩
          . have e1:∀ z:Nat,[AV.int .i64 (z:Int)]=ja z:=λ_=>rfl
            simp only[e1];rw[<- List.map_set,<- List.map_set,m4]
            (refine Yn.sub (by simp[lk,Ya,AV.keys]) ?_;simp only[Wkl,Zf7,and_true];(try simp[lk,Yd,Ya,AV.keys]))
          . have hps:=(List.getElem?_eq_some_iff.1 hpj).1;have gs:=(List.getElem?_eq_some_iff.1 hpj).2;rw[List.drop_eq_getElem_cons hps,gs]at hu;rcases List.mem_cons.1 hu with rfl|hu
            . exact hlt2
            . exact hd u hu
        . have he:=he (λq hq u hu=>by
           have:q=p:=(by omega);subst this;rw[hpj]at hu
           cases hu
           exact Int.not_lt.1 hlt2)
          simp -implicitDefEqProofs[w2,k1,k2,k3,k4,k5,k6,k7,k8,g1,g2,m3,ja,hi,hjl,<- hx,<- hxj,hnx,hnj,hlt2];refine ⟨rfl,?_⟩;refine Qgr ?_;simp -implicitDefEqProofs[wi];simp only[hne,if_false,hlen];rw[hO,<- he]
          (refine Yn.sub (by simp[lk,Ya,AV.keys]) ?_;simp only[Wkl,Zf7,and_true];(try simp[lk,Yd,Ya,AV.keys]))
   . rw[if_neg c]at hO;by_cases c0:L=[]
     . simp -implicitDefEqProofs[c0,hi,<- hx,hnx,c,wi];simp only[hO,c0,if_true]
       (refine Yn.sub (by simp[lk,Ya,AV.keys]) ?_;simp only[Wkl,and_true];(try simp[lk,Yd,Ya,AV.keys]))
     . simp -implicitDefEqProofs[c0,hi,<- hx,hnx,c,wi];simp only[hO,c0,if_false]
       (refine Yn.sub (by simp[lk,Ya,AV.keys]) ?_;simp only[Wkl,Zf7,and_true];(try simp[lk,Yd,Ya,AV.keys]))
 . intro _;refine Qga ?_;by_cases c:opI l l.length=[]
   . simp -implicitDefEqProofs[opW,c];refine Qgr ?_;simp -implicitDefEqProofs[Yh]
   . simp -implicitDefEqProofs[opW,c];refine Qgr ?_;simp -implicitDefEqProofs[Yh,c,ja]
end
open Qq in
def Zfa:RCode :=
 .seq (r 0 [b 3 0,b 4 1,n 6 (.bool false)]) (.seq (r 1 [m 7 2,w 8 (.mkf (.func 116) [] [.t 3,.t 4]),c 9 91 [7,8],t 10 9,m 6 10]) .ret)
def Zfb:List RRes:=[.t 6]
theorem Zfc:PCt Tryz.prog 94 Tryz.f94 Zfa Zfb:=pcT Tryz.func94 rfl (by kernel_rfl) (by kernel_rfl) (by kernel_rfl)
open Qq in
def Zfd:RCode :=
 .seq (r 0 [n 4 (.bool false)]) (.seq (r 1 [m 5 0,l 6 1,o 7 .lss 5 6,m 8 7,g 8 false (m 9 0),g 8 false (l 10 2),g 8 false (o 11 .gtr 9 10),u 12 8 11,m 4 12]) .ret)
def Zfe:List RRes:=[.t 4]
theorem Zff:PCt Tryz.prog 116 Tryz.f116 Zfd Zfe:=pcT Tryz.func116 rfl (by kernel_rfl) (by kernel_rfl) (by kernel_rfl)
open Qq in
def Zfg:RCode :=
 .seq (r 0 [b 2 0,n 4 (.bool false)]) (.seq (r 1 [f 5 1 2,l 6 5,m 7 1,i 8 10 6 7,f 9 0 8,l 10 9,w 11 (.bsl false 1 1 [O] [(0,.t 10)]),w 12 (.call 94 [.c I,.c (.int .i64 9999),.t 11]),m 13 12,g 13 true (f 14 1 2),g 13 true (l 15 14),g 13 true (m 16 1),g 13 true (i 17 10 15 16),g 13 true (f 18 1 17),g 13 true (l 19 18),g 13 true (w 20 (.bsl false 1 1 [O] [(0,.t 19)])),g 13 true (w 21 (.call 94 [.c O,.c (.int .i64 14610),.t 20])),v 22 13 21,m 4 22]) .ret)
def Zfh:List RRes:=[.t 4]
theorem Zfi:PCt Tryz.prog 184 Tryz.f184 Zfg Zfh:=pcT Tryz.func184 rfl (by kernel_rfl) (by kernel_rfl) (by kernel_rfl)
open Qq in
def Zfj:RCode :=
 .seq (r 0 [b 2 0,n 4 (.bool false)]) (.seq (r 1 [f 5 1 2,l 6 5,m 7 1,i 8 10 6 7,f 9 2 8,l 10 9,k 11 .leq 10 (.int .u8 2),m 12 11,g 12 true (f 13 1 2),g 12 true (l 14 13),g 12 true (m 15 1),g 12 true (i 16 10 14 15),g 12 true (f 17 9 16),g 12 true (l 18 17),g 12 true (k 19 .leq 18 (.int .u8 3)),v 20 12 19,m 4 20]) .ret)
def Zfk:List RRes:=[.t 4]
theorem Zfl:PCt Tryz.prog 185 Tryz.f185 Zfj Zfk:=pcT Tryz.func185 rfl (by kernel_rfl) (by kernel_rfl) (by kernel_rfl)
open Qq in
def Zfm:RCode :=
 .seq (r 0 [b 2 0,n 4 (.bool false)]) (.seq (r 1 [f 6 1 2,l 7 6,m 8 1,i 9 10 7 8,L 10 10 9,w 5 (.alloc [O,O,.int .u8 0,O,O,O,O,O,.bool false,.int .u8 0]),s 10 5 10]) (.seq (r 2 [f 11 5 5,l 12 11,f 13 6 5,l 14 13,w 15 (.bsl false 1 2 [O,O] [(0,.t 12),(1,.t 14)]),w 16 (.call 94 [.c I,.c (.int .i64 999),.t 15]),m 17 16,g 17 true (f 18 5 5),g 17 true (l 19 18),g 17 true (f 20 6 5),g 17 true (l 21 20),g 17 true (o 22 .leq 19 21),v 23 17 22,m 4 23]) .ret))
def Zfn:List RRes:=[.t 4]
theorem Zfo:PCt Tryz.prog 186 Tryz.f186 Zfm Zfn:=pcT Tryz.func186 rfl (by kernel_rfl) (by kernel_rfl) (by kernel_rfl)
open Qq in
def Zfp:RCode :=
 .seq (r 0 [b 2 0,n 4 (.bool false)]) (.seq (r 1 [f 8 1 2,l 9 8,m 10 1,i 11 10 9 10,L 12 10 11,w 5 (.alloc [O,O,.int .u8 0,O,O,O,O,O,.bool false,.int .u8 0]),s 10 5 12]) (.seq (.seq (r 2 [w 13 (.build [O,O] []),f 14 3 5,l 15 14,f 16 4 5,l 17 16,w 18 (.build [O,O] [(0,1,.t 15),(1,1,.t 17)]),w 19 (.eqs false [.i,.i] (.t 13) (.t 18))]) (.cond (.t 19) (.seq (r 3 [f 20 7 5,l 21 20,k 22 .neq 21 O,m 4 22]) .ret) .skip)) (.seq (r 4 [f 24 0 2,L 25 1 24,f 26 3 5,l 27 26,f 28 4 5,l 29 28,w 30 (.build [O,O] [(0,1,.t 27),(1,1,.t 29)]),c 31 188 [25,30],m 23 31,x 32 0 23,x 33 1 23,w 6 (.alloc [O,O,.int .u8 0,.nils,.nils]),s 5 6 32,m 7 33]) (.seq (r 5 [m 34 7,k 35 .eql 34 O,m 4 35]) .ret))))
def Zfq:List RRes:=[.t 4]
theorem Zfr:PCt Tryz.prog 187 Tryz.f187 Zfp Zfq:=pcT Tryz.func187 rfl (by kernel_rfl) (by kernel_rfl) (by kernel_rfl)
open Qq in
def Zfs:RCode :=
 .seq (r 0 [b 2 0,n 4 (.bool false)]) (.seq (r 1 [f 6 1 2,l 7 6,m 8 1,i 9 10 7 8,L 10 10 9,w 5 (.alloc [O,O,.int .u8 0,O,O,O,O,O,.bool false,.int .u8 0]),s 10 5 10]) (.seq (r 2 [f 11 4 5,l 12 11,k 13 .geq 12 (.int .i64 2),m 14 13,g 14 false (f 15 8 5),g 14 false (l 16 15),g 14 false (t 17 16),g 14 false (m 18 17),g 18 true (f 19 9 5),g 18 true (l 20 19),g 18 true (k 21 .eql 20 (.int .u8 0)),g 14 false (v 22 18 21),u 23 14 22,m 4 23]) .ret))
def Zft:List RRes:=[.t 4]
theorem Zfu:PCt Tryz.prog 189 Tryz.f189 Zfs Zft:=pcT Tryz.func189 rfl (by kernel_rfl) (by kernel_rfl) (by kernel_rfl)
open Qq in
def Zfv:RCode :=
 .seq (r 0 [b 2 0,n 4 (.bool false)]) (.seq (r 1 [f 6 1 2,l 7 6,m 8 1,i 9 10 7 8,L 10 10 9,w 5 (.alloc [O,O,.int .u8 0,O,O,O,O,O,.bool false,.int .u8 0]),s 10 5 10]) (.seq (r 2 [f 11 7 5,l 12 11,k 13 .eql 12 O,m 14 13,g 14 false (f 15 1 2),g 14 false (l 16 15),g 14 false (m 17 1),g 14 false (w 18 (.slc 10 (.t 16) none (some (.t 17)))),g 14 false (w 19 (.mkf (.func 192) [] [.t 5])),g 14 false (c 20 191 [18,19]),u 21 14 20,m 4 21]) .ret))
def Zfw:List RRes:=[.t 4]
theorem Zfx:PCt Tryz.prog 190 Tryz.f190 Zfv Zfw:=pcT Tryz.func190 rfl (by kernel_rfl) (by kernel_rfl) (by kernel_rfl)
open Qq in
def Zfy:RCode :=
 .seq (r 0 [b 2 0,n 3 (.bool false)]) (.seq (r 1 [f 4 0 2,l 5 4,f 6 7 1,l 7 6,o 8 .eql 5 7,m 3 8]) .ret)
def Zfz:List RRes:=[.t 3]
theorem ZfA:PCt Tryz.prog 192 Tryz.f192 Zfy Zfz:=pcT Tryz.func192 rfl (by kernel_rfl) (by kernel_rfl) (by kernel_rfl)
open Qq in
def ZfB:RCode :=
 .seq (r 0 [b 2 0,b 3 1,n 4 (.bool false)]) (.seq (r 1 [f 5 1 2,l 6 5,l 7 3,w 8 (.slc 10 (.t 6) none (some (.t 7))),w 9 (.mkf (.func 194) [] [.t 2,.t 3]),c 10 191 [8,9],t 11 10,m 4 11]) .ret)
def ZfC:List RRes:=[.t 4]
theorem ZfD:PCt Tryz.prog 193 Tryz.f193 ZfB ZfC:=pcT Tryz.func193 rfl (by kernel_rfl) (by kernel_rfl) (by kernel_rfl)
open Qq in
def ZfE:RCode :=
 .seq (r 0 [b 3 0,n 4 (.bool false)]) (.seq (R 1 [f 5 0 3,a [0] (l 6 5),f 7 1 1,a [2] (l 8 7),l 9 2,a [3,4] (i 10 10 8 9),a [5] (f 11 0 10),a [6] (l 12 11),a [1,7] (o 13 .eql 6 12),a [8,0,1,2,3,4,5,6,7,8] (m 4 13)]) .ret)
def ZfF:List RRes:=[.t 4]
theorem ZfG:PCt Tryz.prog 194 Tryz.f194 ZfE ZfF:=pcT Tryz.func194 rfl (by kernel_rfl) (by kernel_rfl) (by kernel_rfl)
open Qq in
def ZfH:RCode :=
 .seq (r 0 [b 2 0,n 4 (.bool false)]) (.seq (R 1 [m 5 1,a [0] (k 6 .eql 5 O),a [1] (m 7 6),a [2] (g 7 false (f 8 1 2)),a [3,2] (g 7 false (l 9 8)),a [2] (g 7 false (m 10 1)),a [5,2] (g 7 false (k 11 .sub 10 I)),a [4,6,2] (g 7 false (i 12 10 9 11)),a [7,2] (g 7 false (f 13 1 12)),a [8,2] (g 7 false (l 14 13)),a [2] (g 7 false (f 15 1 2)),a [10,2] (g 7 false (l 16 15)),a [2] (g 7 false (m 17 1)),a [11,12,2] (g 7 false (i 18 10 16 17)),a [13,2] (g 7 false (f 19 1 18)),a [14,2] (g 7 false (l 20 19)),a [9,15,2,2] (g 7 false (c 21 114 [14,20])),a [2] (g 7 false (f 22 1 2)),a [17,2] (g 7 false (l 23 22)),a [2] (g 7 false (m 24 1)),a [19,2] (g 7 false (k 25 .sub 24 I)),a [18,20,2] (g 7 false (i 26 10 23 25)),a [21,2] (g 7 false (f 27 0 26)),a [22,2] (g 7 false (l 28 27)),a [2] (g 7 false (f 29 1 2)),a [24,2] (g 7 false (l 30 29)),a [2] (g 7 false (m 31 1)),a [25,26,2] (g 7 false (i 32 10 30 31)),a [27,2] (g 7 false (f 33 0 32)),a [28,2] (g 7 false (l 34 33)),a [23,29,16,2] (g 7 false (c 35 114 [28,34])),a [16,30,2] (g 7 false (w 36 (.bsl false 1 2 [O,O] [(0,.t 21),(1,.t 35)]))),a [31,30,2] (g 7 false (c 37 113 [36])),a [32,2] (g 7 false (k 38 .lss 37 O)),a [2,33] (u 39 7 38),a [34,32,0,1,2,3,4,5,6,7,8,9,10,11,12,13,14,15,16,17,18,19,20,21,22,23,24,25,26,27,28,29,30,31,32,33,34] (m 4 39)]) .ret)
def ZfI:List RRes:=[.t 4]
theorem ZfJ:PCt Tryz.prog 195 Tryz.f195 ZfH ZfI:=pcT Tryz.func195 rfl (by kernel_rfl) (by kernel_rfl) (by kernel_rfl)
open Qq in
def ZfK:RCode :=
 .seq (r 0 [b 1 0,n 2 .nilp,n 3 O]) (.scope (.seq (r 1 [f 13 0 1,L 14 1 13,c 15 70 [14],m 12 15,x 16 0 12,x 17 1 12,m 4 16,m 5 17]) (.seq (.seq (r 2 [m 18 5,k 19 .neq 18 O]) (.cond (.t 19) (.seq (r 3 [m 20 5,n 2 .nilp,m 3 20]) .ret) .skip)) (.seq (.seq (r 4 [f 21 1 1,l 22 21,e 23 22,k 24 .gtr 23 (.int .i64 12)]) (.cond (.t 24) (.seq (r 5 [n 2 .nilp,n 3 (.int .i64 30)]) .ret) .skip)) (.seq (r 6 [L 25 2 1,m 26 4,w 27 (.build [.nils,.nils,.nils,.nils] [(0,2,.t 25),(2,1,.t 26)]),b 28 27,m 6 28]) (.seq (r 7 [n 7 (.bool false)]) (.seq (.label 0) (.seq (.seq (r 8 [f 29 1 1,l 30 29,e 31 30,n 32 O]) (.block 0 (.loop (.seq (r 9 [o 33 .lss 32 31]) (.seq (.cond (.t 33) .skip (.exit 0)) (.seq (.block 1 (.seq (r 10 [m 34 32,i 35 10 30 32,L 36 10 35,w 9 (.alloc [O,O,.int .u8 0,O,O,O,O,O,.bool false,.int .u8 0]),m 8 34,s 10 9 36]) (.seq (.seq (r 11 [w 37 (.load true 8 (.g 1)),n 38 O]) (.block 2 (.loop (.seq (r 12 [k 39 .lss 38 (.int .i64 8)]) (.seq (.cond (.t 39) .skip (.exit 2)) (.seq (.block 3 (.seq (r 13 [w 40 (.vop (.aidx true 8 1) [(.t 37),(.t 38)]),w 11 (.alloc [.nilf]),s 1 11 40]) (.seq (r 14 [f 41 0 11,l 42 41,L 43 2 1,m 44 8,w 45 (.callv (.t 42) [.t 43,.t 44]),t 46 45]) (.cond (.t 46) (.seq (r 15 [n 7 (.bool true)]) (.exit 0)) .skip)))) (r 16 [k 47 .add 38 I,m 38 47]))))))) (.seq (r 17 [f 48 2 9,l 49 48,k 50 .eql 49 (.int .u8 1)]) (.cond (.t 50) (R 18 [m 51 6,m 52 6,a [1] (w 53 (.nilck (.t 52))),a [2] (f 54 3 53),a [3] (l 55 54),f 56 0 9,a [5] (l 57 56),a [6] (w 58 (.bsl false 1 1 [O] [(0,.t 57)])),a [4,7] (w 59 (.app 1 8 (.t 55) (.t 58))),a [0,0,1,2,3,4,5,6,7,8] (w 60 (.nilck (.t 51))),a [9,0,1,2,3,4,5,6,7,8] (f 61 3 60),a [10,8,8,0,1,2,3,4,5,6,7,8] (s 1 61 59)]) .skip))))) (r 19 [k 62 .add 32 I,m 32 62]))))))) (.seq (.seq (r 20 [m 63 7,m 64 63,g 64 false (m 65 6),g 64 false (w 66 (.nilck (.t 65))),g 64 false (f 67 3 66),g 64 false (l 68 67),g 64 false (e 69 68),g 64 false (k 70 .gtr 69 (.int .i64 5)),u 71 64 70]) (.cond (.t 71) (.seq (r 21 [n 2 .nilp,n 3 (.int .i64 30)]) .ret) .skip)) (.seq (r 22 [m 72 6,w 73 (.nilck (.t 72)),f 74 3 73,l 75 74,c 76 73 [75]]) (.seq (r 23 [m 77 6,m 2 77,n 3 O]) .ret)))))))))))
def ZfL:List RRes:=[.t 2,.t 3]
theorem ZfM:PCt Tryz.prog 74 Tryz.f74 ZfK ZfL:=pcT Tryz.func74 rfl (by kernel_rfl) (by kernel_rfl) (by kernel_rfl)
open Qq in
def ZfN:RCode :=
 .seq (r 0 [b 1 0,n 2 O]) (.seq (r 1 [L 6 2 1,c 7 74 [6],m 5 7,x 8 0 5,x 9 1 5,m 3 8,m 4 9]) (.seq (r 2 [m 10 4,m 2 10]) .ret))
def ZfO:List RRes:=[.t 2]
theorem ZfP:PCt Tryz.prog 89 Tryz.f89 ZfN ZfO:=pcT Tryz.func89 rfl (by kernel_rfl) (by kernel_rfl) (by kernel_rfl)
open Qq in
def ZfQ:RCode :=
 .seq (r 0 [n 4 O]) (.seq (r 1 [w 10 (.mkmap),m 5 10]) (.seq (.seq (r 2 [m 11 0,w 12 (.nilck (.t 11)),f 13 3 12,l 14 13,e 15 14,n 16 O]) (.block 0 (.loop (.seq (r 3 [o 17 .lss 16 15]) (.seq (.cond (.t 17) .skip (.exit 0)) (.seq (.block 1 (.seq (r 4 [i 18 1 14 16,l 19 18,m 7 19]) (r 5 [m 20 5,m 21 7,z (.mupd (.i .i64) (.t 20) (.t 21) (.c (.bool true)))]))) (r 6 [k 22 .add 16 I,m 16 22]))))))) (.seq (.seq (r 7 [m 23 1,e 24 23,n 25 O]) (.block 2 (.loop (.seq (r 8 [o 26 .lss 25 24]) (.seq (.cond (.t 26) .skip (.exit 2)) (.seq (.block 3 (.seq (r 9 [m 27 25,i 28 1 23 25,l 29 28,m 8 27,m 9 29]) (.seq (.seq (r 10 [m 30 5,m 31 9,w 32 (.look (.i .i64) (.bool false) false (.t 30) (.t 31)),t 33 32,m 34 33,g 34 false (m 35 8),g 34 false (k 36 .gtr 35 O),g 34 false (m 37 36),g 37 true (m 38 1),g 37 true (m 39 8),g 37 true (k 40 .sub 39 I),g 37 true (i 41 1 38 40),g 37 true (l 42 41),g 37 true (m 43 9),g 37 true (o 44 .gtr 42 43),g 34 false (v 45 37 44),u 46 34 45]) (.cond (.t 46) (.seq (r 11 [n 4 (.int .i64 31)]) .ret) .skip)) (r 12 [m 47 5,m 48 9,z (.mdel (.i .i64) (.t 47) (.t 48))])))) (r 13 [k 49 .add 25 I,m 25 49]))))))) (.seq (r 14 [n 4 O]) .ret))))
def ZfR:List RRes:=[.t 4]
theorem ZfS:PCt Tryz.prog 93 Tryz.f93 ZfQ ZfR:=pcT Tryz.func93 rfl (by kernel_rfl) (by kernel_rfl) (by kernel_rfl)
open Qq in
def ZfT:RCode :=
 .seq (r 0 [b 3 0,n 6 .nilp,n 7 O]) (.seq (r 1 [L 12 2 3,c 13 74 [12],m 11 13,x 14 0 11,x 15 1 11,m 8 14,m 9 15]) (.seq (.seq (r 2 [m 16 9,k 17 .neq 16 O]) (.cond (.t 17) (.seq (r 3 [m 18 9,n 6 .nilp,m 7 18]) .ret) .skip)) (.seq (.seq (r 4 [m 19 8,m 20 1,c 21 93 [19,20],m 10 21]) (.seq (r 5 [m 22 10,k 23 .neq 22 O]) (.cond (.t 23) (.seq (r 6 [m 24 10,n 6 .nilp,m 7 24]) .ret) .skip))) (.seq (.seq (r 7 [m 25 2,w 26 (.bsl false 1 1 [O] [(0,.t 25)]),w 27 (.call 94 [.c I,.c (.int .i64 999),.t 26]),t 28 27]) (.cond (.t 28) (.seq (r 8 [n 6 .nilp,n 7 (.int .i64 2)]) .ret) .skip)) (.seq (r 9 [m 29 8,m 6 29,n 7 O]) .ret)))))
def ZfU:List RRes:=[.t 6,.t 7]
theorem ZfV:PCt Tryz.prog 64 Tryz.f64 ZfT ZfU:=pcT Tryz.func64 rfl (by kernel_rfl) (by kernel_rfl) (by kernel_rfl)
open Qq in
def ZfW:RCode :=
 .seq (r 0 [b 4 0,b 5 1,b 6 2,b 7 3,n 8 .nilf]) (.seq (r 1 [w 11 (.mkmap),w 9 (.alloc [.nilm]),s 1 9 11]) (.seq (r 2 [w 10 (.alloc [.nilf])]) (.seq (r 3 [w 12 (.mkf (.func 95) [] [.t 9,.t 4,.t 5,.t 6,.t 7,.t 10]),s 1 10 12]) (.seq (r 4 [l 13 10,m 8 13]) .ret))))
def ZfX:List RRes:=[.t 8]
open Qq in
def ZfY:RCode :=
 .seq (r 0 [n 8 (.bool false)]) (.seq (.seq (r 1 [l 15 1,m 16 0,w 17 (.look (.i .i64) (.bool false) true (.t 15) (.t 16)),m 14 17,x 18 0 14,x 19 1 14,m 9 18,m 10 19]) (.seq (r 2 [m 20 10]) (.cond (.t 20) (.seq (r 3 [m 21 9,m 8 21]) .ret) .skip))) (.seq (r 4 [l 22 2,w 23 (.nilck (.t 22)),f 24 0 23,f 25 1 24,l 26 25,m 27 0,i 28 10 26 27,L 29 10 28,w 11 (.alloc [O,O,.int .u8 0,O,O,O,O,O,.bool false,.int .u8 0]),s 10 11 29]) (.seq (r 5 [f 30 2 11,l 31 30,k 32 .eql 31 (.int .u8 2),m 33 32,g 33 false (l 34 3),g 33 false (f 35 0 11),g 33 false (l 36 35),g 33 false (c 37 75 [34,36]),u 38 33 37,m 39 38,g 39 true (l 40 4),g 39 true (f 41 0 11),g 39 true (l 42 41),g 39 true (c 43 75 [40,42]),g 39 true (t 44 43),v 45 39 44,m 46 45,g 46 true (f 47 5 11),g 46 true (l 48 47),g 46 true (f 49 6 11),g 46 true (l 50 49),g 46 true (l 51 5),g 46 true (w 52 (.bsl false 1 1 [O] [(0,.t 51)])),g 46 true (c 53 94 [48,50,52]),v 54 46 53,m 12 54]) (.seq (.seq (r 6 [m 55 0,k 56 .add 55 I,m 13 56]) (.block 0 (.loop (.seq (.seq (r 7 [m 57 12,m 58 57,g 58 true (m 59 13),g 58 true (l 60 2),g 58 true (w 61 (.nilck (.t 60))),g 58 true (f 62 0 61),g 58 true (f 63 1 62),g 58 true (l 64 63),g 58 true (e 65 64),g 58 true (o 66 .lss 59 65),v 67 58 66]) (.cond (.t 67) .skip (.exit 0))) (.seq (.block 1 (R 9 [l 70 2,a [0] (w 71 (.nilck (.t 70))),a [1] (f 72 0 71),a [2] (f 73 1 72),a [3] (l 74 73),m 75 13,a [4,5] (i 76 10 74 75),a [6] (f 77 7 76),a [7] (l 78 77),f 79 0 11,a [9] (l 80 79),a [8,10] (o 81 .neq 78 80),a [11] (m 82 81),a [12] (g 82 false (l 83 6)),a [12] (g 82 false (m 84 13)),a [13,14,12,12] (g 82 false (w 85 (.callv (.t 83) [.t 84]))),a [15,12] (g 82 false (t 86 85)),a [12,16] (u 87 82 86),a [17,15,0,1,2,3,4,5,6,7,8,9,10,11,12,13,14,15,16,17] (m 12 87)])) (r 8 [m 68 13,k 69 .add 68 I,m 13 69])))))) (.seq (r 10 [l 88 1,m 89 0,m 90 12,z (.mupd (.i .i64) (.t 88) (.t 89) (.t 90))]) (.seq (r 11 [m 91 12,m 8 91]) .ret))))))
def ZfZ:List RRes:=[.t 8]
theorem Zg0 {G:Nat->Option (List AV)} {objs objs':List (Nat×AObj)} {args:List AV} {v:AV} (hn:args.length<=Tryz.f95.ntmps) (h:∀ R:Run,R.G=G->R.Top->AR Tryz.prog R ZfY ⟨iniT 0 args,objs⟩ (FinB ZfZ v objs')):PB Tryz.prog G 95 objs args v objs' :=
 PB_of Tryz.func95 rfl (by kernel_rfl) (rc:=ZfY) (by kernel_rfl) (rs:=ZfZ) (by kernel_rfl) hn (λR _ hG hr=>h R hG hr)
open Qq in
def Zg1:RCode :=
 .seq (r 0 [b 3 0,n 6 .nils,n 7 O]) (.seq (r 1 [L 14 2 3,m 15 1,m 16 2,c 17 64 [14,15,16],m 13 17,x 18 0 13,x 19 1 13,m 8 18,m 9 19]) (.seq (.seq (r 2 [m 20 9,k 21 .neq 20 O]) (.cond (.t 21) (.seq (r 3 [m 22 9,n 6 .nils,m 7 22]) .ret) .skip)) (.seq (r 4 [m 23 8,m 24 1,m 25 2,w 26 (.call 65 [.t 23,.t 24,.c .nils,.t 25]),m 10 26]) (.seq (r 5 [n 11 .nils]) (.seq (.seq (r 6 [f 27 1 3,l 28 27,e 29 28,n 30 O]) (.block 0 (.loop (.seq (r 7 [o 31 .lss 30 29]) (.seq (.cond (.t 31) .skip (.exit 0)) (.seq (.block 1 (.seq (r 8 [m 32 30,m 12 32]) (.seq (r 9 [m 33 10,m 34 12,w 35 (.callv (.t 33) [.t 34])]) (.cond (.t 35) (r 10 [m 36 11,f 37 1 3,l 38 37,m 39 12,i 40 10 38 39,f 41 0 40,l 42 41,w 43 (.bsl false 1 1 [O] [(0,.t 42)]),w 44 (.app 1 8 (.t 36) (.t 43)),m 11 44]) .skip)))) (r 11 [k 45 .add 30 I,m 30 45]))))))) (.seq (r 12 [m 46 11,m 6 46,n 7 O]) .ret))))))
def Zg2:List RRes:=[.t 6,.t 7]
theorem Zg3:PCt Tryz.prog 22 Tryz.f22 Zg1 Zg2:=pcT Tryz.func22 rfl (by kernel_rfl) (by kernel_rfl) (by kernel_rfl)
open Qq in
def Zg4:RCode :=
 .seq (r 0 [n 4 (.bool false)]) (.seq (r 1 [m 5 0,m 6 1,c 7 79 [5,6],k 8 .geq 7 O,m 4 8]) .ret)
def Zg5:List RRes:=[.t 4]
theorem Zg6:PCt Tryz.prog 191 Tryz.f191 Zg4 Zg5:=pcT Tryz.func191 rfl (by kernel_rfl) (by kernel_rfl) (by kernel_rfl)
open Qq in
def Zg7:RCode :=
 .seq (r 0 [n 4 O]) (.seq (.seq (r 1 [m 6 0,e 7 6,n 8 O]) (.block 0 (.loop (.seq (r 2 [o 9 .lss 8 7]) (.seq (.cond (.t 9) .skip (.exit 0)) (.seq (.block 1 (.seq (r 3 [m 10 8,m 5 10]) (.seq (r 4 [m 11 1,m 12 0,m 13 5,i 14 10 12 13,L 15 10 14,w 16 (.callv (.t 11) [.t 15])]) (.cond (.t 16) (.seq (r 5 [m 17 5,m 4 17]) .ret) .skip)))) (r 6 [k 18 .add 8 I,m 8 18]))))))) (.seq (r 7 [n 4 (.int .i64 (-1))]) .ret))
def Zg8:List RRes:=[.t 4]
theorem Zg9:PCt Tryz.prog 79 Tryz.f79 Zg7 Zg8:=pcT Tryz.func79 rfl (by kernel_rfl) (by kernel_rfl) (by kernel_rfl)
open Qq in
def Zga:RCode :=
 .seq (r 0 [n 4 (.bool false)]) (.seq (r 1 [m 5 0,m 6 1,c 7 104 [5,6],k 8 .geq 7 O,m 4 8]) .ret)
def Zgb:List RRes:=[.t 4]
theorem Zgc:PCt Tryz.prog 75 Tryz.f75 Zga Zgb:=pcT Tryz.func75 rfl (by kernel_rfl) (by kernel_rfl) (by kernel_rfl)
open Qq in
def Zgd:RCode :=
 .seq (r 0 [n 4 O]) (.seq (.seq (r 1 [m 6 0,e 7 6,n 8 O]) (.block 0 (.loop (.seq (r 2 [o 9 .lss 8 7]) (.seq (.cond (.t 9) .skip (.exit 0)) (.seq (.block 1 (.seq (r 3 [m 10 8,m 5 10]) (.seq (r 4 [m 11 1,m 12 0,m 13 5,i 14 1 12 13,l 15 14,o 16 .eql 11 15]) (.cond (.t 16) (.seq (r 5 [m 17 5,m 4 17]) .ret) .skip)))) (r 6 [k 18 .add 8 I,m 8 18]))))))) (.seq (r 7 [n 4 (.int .i64 (-1))]) .ret))
def Zge:List RRes:=[.t 4]
theorem Zgf:PCt Tryz.prog 104 Tryz.f104 Zgd Zge:=pcT Tryz.func104 rfl (by kernel_rfl) (by kernel_rfl) (by kernel_rfl)
open Qq in
def Zgg:RCode :=
 .seq (r 0 [m 3 0,e 4 3,m 2 4]) (r 1 [m 5 0,m 6 2,m 7 2,w 8 (.conv .u64 (.t 7)),c 9 103 [8],w 10 (.call 102 [.t 5,.c O,.t 6,.t 9])])
def Zgh:List RRes:=[]
theorem Zgi:PCt Tryz.prog 73 Tryz.f73 Zgg Zgh:=pcT Tryz.func73 rfl (by kernel_rfl) (by kernel_rfl) (by kernel_rfl)
theorem Zgj {G:Nat->Option (List AV)} {objs objs':List (Nat×AObj)} {args:List AV} {v:AV} (hn:args.length<=Tryz.f73.ntmps) (h:∀ R:Run,R.G=G->R.Top->AR Tryz.prog R Zgg ⟨iniT 0 args,objs⟩ (FinB Zgh v objs')):PB Tryz.prog G 73 objs args v objs' :=
 PB_of Tryz.func73 rfl (by kernel_rfl) (rc:=Zgg) (by kernel_rfl) (rs:=Zgh) (by kernel_rfl) hn (λR _ hG hr=>h R hG hr)
open Qq in
def Zgk:RCode :=
 .seq (r 0 [n 8 (.bool true)]) (.seq (r 1 [n 9 (.bool true)]) (.block 0 (.loop (.block 1 (.seq (r 2 [m 19 2,m 20 1,o 21 .sub 19 20,m 10 21]) (.seq (.seq (r 3 [m 22 10,k 23 .leq 22 (.int .i64 12)]) (.cond (.t 23) (.seq (r 4 [m 24 0,m 25 1,m 26 2,c 27 124 [24,25,26]]) .ret) .skip)) (.seq (.seq (r 5 [m 28 3,k 29 .eql 28 O]) (.cond (.t 29) (.seq (r 6 [m 30 0,m 31 1,m 32 2,c 33 125 [30,31,32]]) .ret) .skip)) (.seq (.seq (r 7 [m 34 8,t 35 34]) (.cond (.t 35) (.seq (r 8 [m 36 0,m 37 1,m 38 2,c 39 126 [36,37,38]]) (r 9 [m 40 3,k 41 .sub 40 I,m 3 41])) .skip)) (.seq (r 10 [m 43 0,m 44 1,m 45 2,c 46 127 [43,44,45],m 42 46,x 47 0 42,x 48 1 42,m 11 47,m 12 48]) (.seq (.seq (r 11 [m 49 12,k 50 .eql 49 (.int .i64 2)]) (.cond (.t 50) (.seq (r 12 [m 51 0,m 52 1,m 53 2,c 54 128 [51,52,53]]) (.seq (r 13 [m 55 2,k 56 .sub 55 I,m 57 11,m 58 1,o 59 .sub 57 58,o 60 .sub 56 59,m 11 60]) (r 14 [n 12 I]))) .skip)) (.seq (.seq (r 15 [m 61 8,m 62 61,g 62 true (m 63 9),v 64 62 63,m 65 64,g 65 true (m 66 12),g 65 true (k 67 .eql 66 I),v 68 65 67]) (.cond (.t 68) (.seq (r 16 [m 69 0,m 70 1,m 71 2,c 72 129 [69,70,71]]) (.cond (.t 72) .ret .skip)) .skip)) (.seq (.seq (R 17 [m 73 1,a [0] (k 74 .gtr 73 O),a [1] (m 75 74),a [2] (g 75 true (m 76 0)),a [2] (g 75 true (m 77 1)),a [4,2] (g 75 true (k 78 .sub 77 I)),a [3,5,2] (g 75 true (i 79 1 76 78)),a [6,2] (g 75 true (l 80 79)),a [2] (g 75 true (m 81 0)),a [2] (g 75 true (m 82 11)),a [8,9,2] (g 75 true (i 83 1 81 82)),a [10,2] (g 75 true (l 84 83)),a [7,11,2,2] (g 75 true (c 85 130 [80,84])),a [12,2] (g 75 true (t 86 85)),a [2,13] (v 87 75 86)]) (.cond (.t 87) (.seq (r 18 [m 88 0,m 89 1,m 90 2,m 91 11,c 92 131 [88,89,90,91],m 13 92]) (.seq (r 19 [m 93 13,m 1 93]) (.exit 1))) .skip)) (.seq (r 20 [m 95 0,m 96 1,m 97 2,m 98 11,c 99 132 [95,96,97,98],m 94 99,x 100 0 94,x 101 1 94,m 14 100,m 15 101]) (.seq (r 21 [m 102 15,m 9 102]) (.seq (r 22 [m 103 14,m 104 1,o 105 .sub 103 104,m 106 2,m 107 14,o 108 .sub 106 107,m 16 105,m 17 108]) (.seq (r 23 [m 109 10,k 110 .quo 109 (.int .i64 8),m 18 110]) (.seq (r 24 [m 111 16,m 112 17,o 113 .lss 111 112]) (.cond (.t 113) (.seq (r 25 [m 114 16,m 115 18,o 116 .geq 114 115,m 8 116]) (.seq (r 26 [m 117 0,m 118 1,m 119 14,m 120 3,c 121 102 [117,118,119,120]]) (r 27 [m 122 14,k 123 .add 122 I,m 1 123]))) (.seq (r 28 [m 124 17,m 125 18,o 126 .geq 124 125,m 8 126]) (.seq (r 29 [m 127 0,m 128 14,k 129 .add 128 I,m 130 2,m 131 3,c 132 102 [127,129,130,131]]) (r 30 [m 133 14,m 2 133])))))))))))))))))))))
def Zgl:List RRes:=[]
theorem Zgm:PCt Tryz.prog 102 Tryz.f102 Zgk Zgl:=pcT Tryz.func102 rfl (by kernel_rfl) (by kernel_rfl) (by kernel_rfl)
theorem Zgn {G:Nat->Option (List AV)} {objs objs':List (Nat×AObj)} {args:List AV} {v:AV} (hn:args.length<=Tryz.f102.ntmps) (h:∀ R:Run,R.G=G->R.Top->AR Tryz.prog R Zgk ⟨iniT 0 args,objs⟩ (FinB Zgl v objs')):PB Tryz.prog G 102 objs args v objs' :=
 PB_of Tryz.func102 rfl (by kernel_rfl) (rc:=Zgk) (by kernel_rfl) (rs:=Zgl) (by kernel_rfl) hn (λR _ hG hr=>h R hG hr)
open Qq in
def Zgo:RCode :=
 .seq (r 0 [m 8 1,k 9 .add 8 I,m 6 9]) (.block 0 (.loop (.seq (.seq (r 1 [m 10 6,m 11 2,o 12 .lss 10 11]) (.cond (.t 12) .skip (.exit 0))) (.seq (.block 1 (.seq (r 3 [m 15 6,m 7 15]) (.block 2 (.loop (.seq (.seq (R 4 [m 16 7,m 17 1,a [0,1] (o 18 .gtr 16 17),a [2] (m 19 18),a [3] (g 19 true (m 20 0)),a [3] (g 19 true (m 21 7)),a [4,5,3] (g 19 true (i 22 1 20 21)),a [6,3] (g 19 true (l 23 22)),a [3] (g 19 true (m 24 0)),a [3] (g 19 true (m 25 7)),a [9,3] (g 19 true (k 26 .sub 25 I)),a [8,10,3] (g 19 true (i 27 1 24 26)),a [11,3] (g 19 true (l 28 27)),a [7,12,3,3] (g 19 true (c 29 130 [23,28])),a [3,13] (v 30 19 29)]) (.cond (.t 30) .skip (.exit 2))) (.seq (.block 3 (R 6 [m 33 0,m 34 7,m 35 0,m 36 7,a [3] (k 37 .sub 36 I),m 38 0,m 39 7,a [6] (k 40 .sub 39 I),a [5,7] (i 41 1 38 40),a [8] (l 42 41),m 43 0,m 44 7,a [10,11] (i 45 1 43 44),a [12] (l 46 45),a [0,1,0,1,5,6,7,8,9,13] (i 47 1 33 34),a [14,9,0,1,5,6,7,8,9,13] (s 1 47 42),a [2,4,0,1,2,3,4,5,6,7,8,9,10,11,12,13,14,15] (i 48 1 35 37),a [16,13,15,0,1,2,3,4,5,6,7,8,9,10,11,12,13,14,15] (s 1 48 46)])) (r 5 [m 31 7,k 32 .sub 31 I,m 7 32]))))))) (r 2 [m 13 6,k 14 .add 13 I,m 6 14])))))
def Zgp:List RRes:=[]
theorem Zgq:PCt Tryz.prog 124 Tryz.f124 Zgo Zgp:=pcT Tryz.func124 rfl (by kernel_rfl) (by kernel_rfl) (by kernel_rfl)
theorem Zgr {G:Nat->Option (List AV)} {objs objs':List (Nat×AObj)} {args:List AV} {v:AV} (hn:args.length<=Tryz.f124.ntmps) (h:∀ R:Run,R.G=G->R.Top->AR Tryz.prog R Zgo ⟨iniT 0 args,objs⟩ (FinB Zgp v objs')):PB Tryz.prog G 124 objs args v objs' :=
 PB_of Tryz.func124 rfl (by kernel_rfl) (rc:=Zgo) (by kernel_rfl) (rs:=Zgp) (by kernel_rfl) hn (λR _ hG hr=>h R hG hr)
open Qq in
def Zgs:RCode :=
 .seq (r 0 [n 2 O]) (.seq (r 1 [n 3 O]) (.seq (.seq (r 2 [m 6 0,e 7 6,n 8 O]) (.block 0 (.loop (.seq (r 3 [o 9 .lss 8 7]) (.seq (.cond (.t 9) .skip (.exit 0)) (.seq (.block 1 (.seq (r 4 [i 10 1 6 8,l 11 10,m 5 11]) (.seq (r 5 [m 12 5,m 13 3,o 14 .neq 12 13]) (.cond (.t 14) (.seq (r 6 [m 15 5,m 2 15]) .ret) .skip)))) (r 7 [k 16 .add 8 I,m 8 16]))))))) (.seq (r 8 [m 17 3,m 2 17]) .ret)))
def Zgt:List RRes:=[.t 2]
theorem Zgu:PCt Tryz.prog 113 Tryz.f113 Zgs Zgt:=pcT Tryz.func113 rfl (by kernel_rfl) (by kernel_rfl) (by kernel_rfl)
open Qq in
def Zgv:RCode :=
 .seq (r 0 [n 2 O]) (.seq (.cond (.c (.bool false)) (.seq (r 1 [m 3 0,w 4 (.conv .u32 (.t 3)),c 5 133 [4],m 2 5]) .ret) .skip) (.seq (r 2 [m 6 0,c 7 134 [6],m 2 7]) .ret))
def Zgw:List RRes:=[.t 2]
theorem Zgx:PCt Tryz.prog 103 Tryz.f103 Zgv Zgw:=pcT Tryz.func103 rfl (by kernel_rfl) (by kernel_rfl) (by kernel_rfl)
open Qq in
def Zgy:RCode :=
 .seq (r 0 [n 2 O]) (.seq (.seq (r 1 [m 3 0,k 4 .geq 3 (.int .u64 4294967296)]) (.cond (.t 4) (.seq (r 2 [m 5 0,w 6 (.vop (.sh false) [(.t 5),(.c (.int .u64 32))]),m 0 6]) (r 3 [n 2 (.int .i64 32)])) .skip)) (.seq (.seq (r 4 [m 7 0,k 8 .geq 7 (.int .u64 65536)]) (.cond (.t 8) (.seq (r 5 [m 9 0,w 10 (.vop (.sh false) [(.t 9),(.c (.int .u64 16))]),m 0 10]) (r 6 [m 11 2,k 12 .add 11 (.int .i64 16),m 2 12])) .skip)) (.seq (.seq (r 7 [m 13 0,k 14 .geq 13 (.int .u64 256)]) (.cond (.t 14) (.seq (r 8 [m 15 0,w 16 (.vop (.sh false) [(.t 15),(.c (.int .u64 8))]),m 0 16]) (r 9 [m 17 2,k 18 .add 17 (.int .i64 8),m 2 18])) .skip)) (.seq (r 10 [m 19 2,m 20 0,w 21 (.conv .u8 (.t 20)),w 22 (.vop .sidx [(.c (.str ⟨#[0,1,2,2,3,3,3,3,4,4,4,4,4,4,4,4,5,5,5,5,5,5,5,5,5,5,5,5,5,5,5,5,6,6,6,6,6,6,6,6,6,6,6,6,6,6,6,6,6,6,6,6,6,6,6,6,6,6,6,6,6,6,6,6,7,7,7,7,7,7,7,7,7,7,7,7,7,7,7,7,7,7,7,7,7,7,7,7,7,7,7,7,7,7,7,7,7,7,7,7,7,7,7,7,7,7,7,7,7,7,7,7,7,7,7,7,7,7,7,7,7,7,7,7,7,7,7,7,8,8,8,8,8,8,8,8,8,8,8,8,8,8,8,8,8,8,8,8,8,8,8,8,8,8,8,8,8,8,8,8,8,8,8,8,8,8,8,8,8,8,8,8,8,8,8,8,8,8,8,8,8,8,8,8,8,8,8,8,8,8,8,8,8,8,8,8,8,8,8,8,8,8,8,8,8,8,8,8,8,8,8,8,8,8,8,8,8,8,8,8,8,8,8,8,8,8,8,8,8,8,8,8,8,8,8,8,8,8,8,8,8,8,8,8,8,8,8,8,8,8,8,8,8,8,8,8]⟩)),(.t 21)]),w 23 (.conv .i64 (.t 22)),o 24 .add 19 23,m 2 24]) .ret))))
def Zgz:List RRes:=[.t 2]
theorem ZgA:PCt Tryz.prog 134 Tryz.f134 Zgy Zgz:=pcT Tryz.func134 rfl (by kernel_rfl) (by kernel_rfl) (by kernel_rfl)
theorem ZgB (l:List Iss):(l.map isa).all (λr=>r.all AV.pure)=true:=by simp[isa,AV.pure]
section
variable {G:Nat->Option (List AV)}
theorem ZgC (x:Iss) (h1:Sml x.its) (h2:Sml x.dms):PC Tryz.prog G 197 [.agg (isa x)] (.agg (isa x)):=by
 have p1:(x.its.map ita).all (λr=>r.all AV.pure)=true:=(by simp[ita,AV.pure]);have p2:(x.dms.map dma).all (λr=>r.all AV.pure)=true:=by simp[dma,AV.pure]
 (refine Zae rfl λR hG hrd=>Qga ?_;subst hG)
 by_cases e1:x.its=[] <;> by_cases e2:x.dms=[]
 . simp -implicitDefEqProofs[Zac,Zad,isa,e1,e2];refine Z2O.of Zdh (by simp) ?_;simp -implicitDefEqProofs[];refine Z2O.of Zdi (by simp) ?_;simp -implicitDefEqProofs[];exact rfl
 . simp -implicitDefEqProofs[Zac,Zad,isa,e1];refine Z2O.of Zdh (by simp) ?_;simp -implicitDefEqProofs[];refine Z2O.new (Zdg _ e2 h2) (by simp) (by simp[lk,St.get]) ?_;simp -implicitDefEqProofs[p2];exact rfl
 . simp -implicitDefEqProofs[Zac,Zad,isa,e2];refine Z2O.new (Zdf _ e1 h1) (by simp) (by simp[lk,St.get]) ?_;simp -implicitDefEqProofs[];refine Z2O.of Zdi (by simp) ?_;simp -implicitDefEqProofs[p1];exact rfl
 . simp -implicitDefEqProofs[Zac,Zad,isa];refine Z2O.new (Zdf _ e1 h1) (by simp) (by simp[lk,St.get]) ?_;simp -implicitDefEqProofs[];refine Z2O.new (Zdg _ e2 h2) (by simp) (by simp[lk,St.get]) ?_;simp -implicitDefEqProofs[p1,p2];exact rfl
theorem at_pc (hG:GC G) (r:List Iss) (d l:Int) (h:Wf r):PC Tryz.prog G 188 [rega r,.agg [.int .i64 d,.int .i64 l]] (.tup [.agg (isa (atP r d l).1),.int .i64 (atP r d l).2]):=by
 by_cases e:openV r=0
 case neg =>
  refine PC.nzR (v:=.tup [.agg [.int .i64 0,.int .i64 0,.int .u8 0,.nils,.nils],.int .i64 (openV r)]) ?_ (by simp[nz,atP,e,zI,isa])
  (refine Zao rfl λR hG hrd=>Qga ?_;subst hG)
  simp -implicitDefEqProofs[Zam,Zan,rega];refine Qco (Zdn hG r h) (by simp) ?_;simp -implicitDefEqProofs[openA,e]
 have hL:=Zdo e;have hO:=ZbD hL
 cases hf:findN d l r with
 | none =>
   refine PC.nzR (v:=.tup [.agg [.int .i64 0,.int .i64 0,.int .u8 0,.nils,.nils],.int .i64 6]) ?_ (by simp[nz,atP,e,hf,zI,isa])
   (refine Zao rfl λR hG hrd=>Qga ?_;subst hG)
   simp -implicitDefEqProofs[Zam,Zan,rega];refine Qco (Zdn hG r h) (by simp) ?_;simp -implicitDefEqProofs[openA,e];refine Qco (ZcO r (nums r) d l (Zdr hO) h.1.1 (Zdt hL)) (by simp) ?_;simp -implicitDefEqProofs[hf,fndA,noIs]
 | some x =>
   have ev:atP r d l=(x,0):=(by simp[atP,e,hf]);have hx:=h.1.2 x (ZbV hf).1;have ex:isa x=[.int .i64 x.d,.int .i64 x.l,.int .u8 x.k,.vsl (x.its.map ita),.vsl (x.dms.map dma)]:=rfl;have cp:=ZgC (G:=G) x hx.1 hx.2;rw[ev];rw[ex]at cp
   (refine Zao rfl λR hG hrd=>Qga ?_;subst hG)
   simp -implicitDefEqProofs[Zam,Zan,rega];refine Qco (Zdn hG r h) (by simp) ?_;simp -implicitDefEqProofs[openA,e];refine Qco (ZcO r (nums r) d l (Zdr hO) h.1.1 (Zdt hL)) (by simp) ?_;simp -implicitDefEqProofs[hf,fndA,ex];refine Qco (cp) (by simp) ?_;simp -implicitDefEqProofs[ex]
end
section
variable {G:Nat->Option (List AV)}
theorem ZgD (n lo hi:Int):PC Tryz.prog G 116 [.int .i64 n,.vptr [.int .i64 lo] 0,.vptr [.int .i64 hi] 0] (.bool (!inR n lo hi)):=by
 (refine Zff rfl λR hG hrd=>Qga ?_;subst hG)
 by_cases h1:n<lo
 . have h2:¬lo<=n:=(by omega);simp -implicitDefEqProofs[Zfd,Zfe,h1,h2,inR]
 . have h2:lo<=n:=(by omega);by_cases h3:hi<n
   . have h4:¬n<=hi:=(by omega);simp -implicitDefEqProofs[Zfd,Zfe,h1,h2,h3,h4,inR]
   . have h4:n<=hi:=(by omega);simp -implicitDefEqProofs[Zfd,Zfe,h1,h2,h3,h4,inR]
theorem ZgE (lo hi:Int) (l:List Int) (hl:Sml l):PC Tryz.prog G 94 [.int .i64 lo,.int .i64 hi,.vsl (l.map ia)] (.bool (l.all λn=>inR n lo hi)):=by
 (refine Zfc rfl λR hG hrd=>Qga ?_;subst hG)
 simp -implicitDefEqProofs[Zfa,Zfb]
 (first|refine Ye.flat (Zc2 116 [.vptr [.int .i64 lo] 0,.vptr [.int .i64 hi] 0] (λn=>!inR n lo hi) l (by simp[AV.pure]) hl (λn _=>ZgD n lo hi)) (by simp[AV.flat]) (by simp) ?_|refine Yf.flat (Zc2 116 [.vptr [.int .i64 lo] 0,.vptr [.int .i64 hi] 0] (λn=>!inR n lo hi) l (by simp[AV.pure]) hl (λn _=>ZgD n lo hi)) (by simp[AV.flat]) (by simp) ?_)
 have e:(!l.any λn=>!inR n lo hi)=l.all λn=>inR n lo hi:=by simp[List.all_eq_not_any_not]
 simp -implicitDefEqProofs[e]
theorem ZgF (lo hi n:Int):PC Tryz.prog G 94 [.int .i64 lo,.int .i64 hi,.vsl [[.int .i64 n]]] (.bool (inR n lo hi)):=by
 have h:=ZgE (G:=G) lo hi [n] (by simp[Sml]);simpa [ia] using h
theorem ZgG (lo hi n m:Int):PC Tryz.prog G 94 [.int .i64 lo,.int .i64 hi,.vsl [[.int .i64 n],[.int .i64 m]]] (.bool (inR n lo hi&&inR m lo hi)):=by
 have h:=ZgE (G:=G) lo hi [n,m] (by simp[Sml]);simpa [ia] using h
theorem ZgH (g:Nat) (caps:List AV) (p:Nte->Bool) (l:List Nte) (hc:caps.all AV.pure=true) (hl:Sml l)
  (hg:∀ x∈l,PC Tryz.prog G g (.agg (na x)::caps) (.bool (p x))) :
  PC Tryz.prog G 79 [.vsl (l.map na),.func (.func g) [] caps] (.int .i64 (fstOf p l)):=by
 (refine Zg9 rfl λR hG hrd=>Qga ?_;subst hG)
 unfold Sml at hl;have hc2:∀ x∈caps,x.pure=true:=List.all_eq_true.1 hc;simp -implicitDefEqProofs[Zg7,Zg8];refine Zba (λi=>⟨[(8,.int .i64 i),(7,.int .i64 l.length),(0,.vsl (l.map na)),(1,.func (.func g) [] caps)],[]⟩) (λi=>∀ j (h:j<l.length),j<i->p l[j]=false) l.length (by (first|exact Yn.tm (by simp[lk])|exact Yn.sub (by simp[lk,Ya,AV.keys]) (by simp[lk,Yd,Ya,AV.keys]))) (by simp) ?_ ?_
 . intro i hi he;refine Qga ?_;have w1:IntKind.i64.wrap ((i:Int)+1)=((i+1:Nat):Int):=Yg (by omega) (by omega);have hgi:=hg _ (List.getElem_mem hi);have hln:(na l[i]).length=10:=rfl;have htk:(na l[i]).take 10=na l[i]:=rfl;simp -implicitDefEqProofs[hi,hln,htk];refine Ye.of hgi (by simpa [AV.pure,na] using hc2) ?_
   cases h3:p l[i]
   . simp -implicitDefEqProofs[w1];refine ⟨(by (first|exact Yn.tm (by simp[lk])|exact Yn.sub (by simp[lk,Ya,AV.keys]) (by simp[lk,Yd,Ya,AV.keys]))),λj q1 q2=>?_⟩;by_cases e:j=i
     . subst e;exact h3
     . exact he j q1 (by omega)
   . simp -implicitDefEqProofs;refine Qgr ?_;simp -implicitDefEqProofs[ZbY hi h3 he]
 . intro he;refine Qga ?_;simp -implicitDefEqProofs[];refine Qgr ?_;simp -implicitDefEqProofs[ZbZ (p:=p) (l:=l) (λj hj=>he j hj hj)]
theorem ZgI (g:Nat) (caps:List AV) (p:Nte->Bool) (l:List Nte) (hc:caps.all AV.pure=true) (hl:Sml l)
  (hg:∀ x∈l,PC Tryz.prog G g (.agg (na x)::caps) (.bool (p x))) :
  PC Tryz.prog G 191 [.vsl (l.map na),.func (.func g) [] caps] (.bool (l.any p)):=by
 (refine Zg6 rfl λR hG hrd=>Qga ?_;subst hG)
 simp -implicitDefEqProofs[Zg4,Zg5];have hc2:∀ x∈caps,x.pure=true:=List.all_eq_true.1 hc;refine Ye.of (ZgH g caps p l hc hl hg) (by simpa [AV.pure] using hc2) ?_;have e:=Zc0 p l;simp -implicitDefEqProofs[e]
theorem ZgJ (a b:Int):PC Tryz.prog G 113 [.vsl [[.int .i64 a],[.int .i64 b]]] (.int .i64 (if a=0 then b else a)):=by
 (refine Zgu rfl λR hG hrd=>Qga ?_;subst hG)
 simp -implicitDefEqProofs[Zgs,Zgt];refine Zba (λi=>⟨[(8,.int .i64 i),(7,.int .i64 2),(6,.vsl [[.int .i64 a],[.int .i64 b]]),(3,.int .i64 0)],[]⟩) (λi=>(0<i->a=0)/\(1<i->b=0)) 2 (by (first|exact Yn.tm (by simp[lk])|exact Yn.sub (by simp[lk,Ya,AV.keys]) (by simp[lk,Yd,Ya,AV.keys]))) (by simp) ?_ ?_
 . intro i hi he;refine Qga ?_
   match i,hi,he with
   | 0,_,_ =>
     have w1:IntKind.i64.wrap 1=1:=rfl;by_cases h:a=0
     . simp -implicitDefEqProofs[h,w1]
       (first|exact Yn.tm (by simp[lk])|exact Yn.sub (by simp[lk,Ya,AV.keys]) (by simp[lk,Yd,Ya,AV.keys]))
     . simp -implicitDefEqProofs[h];refine Qgr ?_;simp -implicitDefEqProofs[h]
   | 1,_,he =>
     have h0:=he.1 (by omega);have w1:IntKind.i64.wrap 2=2:=rfl;by_cases h:b=0
     . simp -implicitDefEqProofs[h,w1];exact ⟨(by (first|exact Yn.tm (by simp[lk])|exact Yn.sub (by simp[lk,Ya,AV.keys]) (by simp[lk,Yd,Ya,AV.keys]))),h0⟩
     . simp -implicitDefEqProofs[h];refine Qgr ?_;simp -implicitDefEqProofs[h,h0]
 . rintro ⟨h0,h1⟩;refine Qga ?_;have e0:=h0 (by omega);have e1:=h1 (by omega);simp -implicitDefEqProofs[];refine Qgr ?_;simp -implicitDefEqProofs[e0,e1]
theorem ZgK (x y:Nte):PC Tryz.prog G 192 [.agg (na y),.vptr (na x) 0] (.bool (decide (y.nu=x.ca))):=by
 (refine ZfA rfl λR hG hrd=>Qga ?_;subst hG)
 simp -implicitDefEqProofs[Zfy,Zfz,na]
section
variable (r:List Iss) (l:List Nte) (i:Nat) (hi:i<l.length) (hw:WfN l) (hr:Wf r)
include hi hw hr
theorem ZgL:PC Tryz.prog G 184 [.agg [.vsl (r.map isa),.vsl (l.map na)],.int .i64 i] (.bool (cN1 (nAt l i))):=by
 rw[ZdW hi]
 (refine Zfi rfl λR hG hrd=>Qga ?_;subst hG)
 simp -implicitDefEqProofs[Zfg,Zfh,hi,na];refine Qco (ZgF 1 9999 l[i].nu) (by simp) ?_
 cases h1:inR l[i].nu 1 9999
 . simp -implicitDefEqProofs[cN1,h1]
 simp -implicitDefEqProofs[hi,na];refine Qco (ZgF 0 14610 l[i].dy) (by simp) ?_;simp -implicitDefEqProofs[cN1,h1]
theorem ZgM:PC Tryz.prog G 185 [.agg [.vsl (r.map isa),.vsl (l.map na)],.int .i64 i] (.bool (cN2 (nAt l i))):=by
 rw[ZdW hi]
 (refine Zfl rfl λR hG hrd=>Qga ?_;subst hG)
 by_cases h1:l[i].sg<=2 <;> by_cases h2:l[i].wy<=3 <;> simp -implicitDefEqProofs[Zfj,Zfk,hi,na,cN2,h1,h2]
theorem ZgN:PC Tryz.prog G 186 [.agg [.vsl (r.map isa),.vsl (l.map na)],.int .i64 i] (.bool (cN3 (nAt l i))):=by
 rw[ZdW hi]
 (refine Zfo rfl λR hG hrd=>Qga ?_;subst hG)
 simp -implicitDefEqProofs[Zfm,Zfn,hi,na];refine Qco (ZgG 1 999 l[i].fr l[i].tu) (by simp) ?_
 cases h1:inR l[i].fr 1 999&&inR l[i].tu 1 999
 . simp -implicitDefEqProofs[cN3,h1]
 . by_cases h2:l[i].fr<=l[i].tu <;> simp -implicitDefEqProofs[cN3,h1,h2]
end
section
variable (hG:GC G) (r:List Iss) (l:List Nte) (i:Nat) (hi:i<l.length) (hw:WfN l) (hr:Wf r)
include hi hw hr
include hG in
theorem ZgO (ho:openV r=0):PC Tryz.prog G 187 [.agg [.vsl (r.map isa),.vsl (l.map na)],.int .i64 i] (.bool (cN4 r (nAt l i))):=by
 rw[ZdW hi];have ha:=at_pc hG r l[i].dr l[i].lt hr;rw[rega]at ha;obtain ⟨x,hxx⟩ : ∃ x,x=l[i]:=⟨_,rfl⟩;rw[<- hxx]at ha ⊢;have hlx:l[i]=x:=hxx.symm;have hna:na x=[.int .i64 x.nu,.int .i64 x.dy,.int .u8 x.sg,.int .i64 x.dr,.int .i64 x.lt,.int .i64 x.fr,.int .i64 x.tu,.int .i64 x.ca,.bool x.up,.int .u8 x.wy]:=rfl
 have he:(atP r x.dr x.lt).2=0↔(findN x.dr x.lt r).isSome=true:=by
  unfold atP;rw[if_pos ho]
  cases findN x.dr x.lt r <;> simp
 (refine Zfr rfl λR hG hrd=>Qga ?_;subst hG)
 by_cases hz:x.dr=0/\x.lt=0
 . simp -implicitDefEqProofs[Zfp,Zfq,hi,hlx,hna,hz.1,hz.2,cN4]
 . have hz1:¬(0=x.dr/\0=x.lt):=λh=>hz ⟨h.1.symm,h.2.symm⟩
   have e4:cN4 r x=decide ((atP r x.dr x.lt).2=0):=by
    rw[cN4,if_neg hz]
    cases q:(findN x.dr x.lt r).isSome
    . rw[eq_comm,decide_eq_false_iff_not,he,q];simp
    . rw[eq_comm,decide_eq_true_eq,he,q]
   rw[e4];have ey:isa (atP r x.dr x.lt).1=[.int .i64 (atP r x.dr x.lt).1.d,.int .i64 (atP r x.dr x.lt).1.l,.int .u8 (atP r x.dr x.lt).1.k,.vsl ((atP r x.dr x.lt).1.its.map ita),.vsl ((atP r x.dr x.lt).1.dms.map dma)]:=rfl;rw[ey]at ha;generalize atP r x.dr x.lt=v at *;by_cases q1:x.dr=0
   . have q2:¬x.lt=0:=λh=>hz ⟨q1,h⟩
     have q2':¬0=x.lt:=λh=>q2 h.symm
     rw[q1]at ha;simp -implicitDefEqProofs[Zfp,Zfq,hi,hlx,hna,q1,q2,q2'];refine Qco (ha) (by simp) ?_;simp -implicitDefEqProofs[]
   . have q1':¬0=x.dr:=λh=>q1 h.symm
     simp -implicitDefEqProofs[Zfp,Zfq,hi,hlx,hna,q1,q1'];refine Qco (ha) (by simp) ?_;simp -implicitDefEqProofs[]
theorem ZgP:PC Tryz.prog G 189 [.agg [.vsl (r.map isa),.vsl (l.map na)],.int .i64 i] (.bool (cN5 (nAt l i))):=by
 rw[ZdW hi]
 (refine Zfu rfl λR hG hrd=>Qga ?_;subst hG)
 by_cases h1:2<=l[i].lt
 . simp -implicitDefEqProofs[Zfs,Zft,hi,na,cN5,h1]
 . cases h2:l[i].up
   . by_cases h3:l[i].wy=0 <;> simp -implicitDefEqProofs[Zfs,Zft,hi,na,cN5,h1,h2,h3]
   . simp -implicitDefEqProofs[Zfs,Zft,hi,na,cN5,h1,h2]
theorem ZgQ:PC Tryz.prog G 190 [.agg [.vsl (r.map isa),.vsl (l.map na)],.int .i64 i] (.bool (cN6 l i (nAt l i))):=by
 have hl:=hw.1;unfold Sml at hl;rw[ZdW hi];obtain ⟨x,hxx⟩ : ∃ x,x=l[i]:=⟨_,rfl⟩;rw[<- hxx];have hlx:l[i]=x:=hxx.symm;have hna:na x=[.int .i64 x.nu,.int .i64 x.dy,.int .u8 x.sg,.int .i64 x.dr,.int .i64 x.lt,.int .i64 x.fr,.int .i64 x.tu,.int .i64 x.ca,.bool x.up,.int .u8 x.wy]:=rfl;have hc:=ZgI (G:=G) 192 [.vptr (na x) 0] (λy=>decide (y.nu=x.ca)) (l.take i) (by simp[AV.pure,na]) (by unfold Sml;simp;omega) (λy _=>ZgK x y);have i1:i<=l.length:=(by omega);have bl:∀ x:Nte,(na x).length=10:=λ_=>rfl
 rw[List.map_take]at hc
 have pu:∀ x∈List.take i (List.map na l),∀ y∈x,y.pure=true:=λx hx y hy=>by
  obtain ⟨z,-,rfl⟩:=List.mem_map.1 (List.mem_of_mem_take hx);simp only[na,List.mem_cons,List.not_mem_nil,or_false]at hy;rcases hy with rfl|rfl|rfl|rfl|rfl|rfl|rfl|rfl|rfl|rfl <;> simp[AV.pure]
 (refine Zfx rfl λR hG hrd=>Qga ?_;subst hG)
 by_cases h1:x.ca=0
 . simp -implicitDefEqProofs[Zfv,Zfw,hi,hlx,hna,cN6,h1]
 . simp -implicitDefEqProofs[Zfv,Zfw,hi,hlx,hna,cN6,h1,i1,bl];rw[hna]at hc;refine Ye.flat hc (by simp[AV.flat]) (by simp) ?_;simp -implicitDefEqProofs[]
theorem ZgR:PC Tryz.prog G 195 [.agg [.vsl (r.map isa),.vsl (l.map na)],.int .i64 i] (.bool (cN8 l i (nAt l i))):=by
 have hl:=hw.1;unfold Sml at hl
 cases i with
 | zero =>
   (refine ZfJ rfl λR hG hrd=>Qga ?_;subst hG)
   simp -implicitDefEqProofs[ZfH,ZfI,cN8];rfl
 | succ k =>
   have hk:k<l.length:=(by omega);have w1:IntKind.i64.wrap ((k:Int)+1-1)=(k:Int):=(by rw[Yg (by omega) (by omega)];omega);have w2:IntKind.i64.wrap (k:Int)=(k:Int):=Yg (by omega) (by omega);have i0:¬(k:Int)+1=0:=(by omega);have k1:(0:Int)<=(k:Int)+1:=(by omega);have k2:((k:Int)+1).toNat=k+1:=(by omega);have e8:cN8 l (k+1) (nAt l (k+1))=(decide (l[k].dy<l[k+1].dy)||(decide (l[k].dy=l[k+1].dy)&&decide (l[k].nu<l[k+1].nu))):=(by rw[cN8,ZdW hk,ZdW hi]);have hc1:=ZcE (G:=G) l[k].dy l[k+1].dy;have hc2:=ZcE (G:=G) l[k].nu l[k+1].nu;have hR:∀ a b:AV,(List.range 2).map (λi=>List.take 1 (List.drop i [a,b]))=[[a],[b]]:=λ_ _=>rfl
   obtain ⟨a,b,ha,hb,hv⟩ : ∃ a b:Int,(if l[k].dy<l[k+1].dy then (-1:Int) else if l[k+1].dy<l[k].dy then 1 else 0)=a/\(if l[k].nu<l[k+1].nu then (-1:Int) else if l[k+1].nu<l[k].nu then 1 else 0)=b/\decide ((if a=0 then b else a)<0)=(decide (l[k].dy<l[k+1].dy)||(decide (l[k].dy=l[k+1].dy)&&decide (l[k].nu<l[k+1].nu))):=by
    refine ⟨_,_,rfl,rfl,?_⟩;rcases Int.lt_trichotomy l[k].dy l[k+1].dy with q|q|q
    . simp[q]
    . rw[q];rcases Int.lt_trichotomy l[k].nu l[k+1].nu with q2|q2|q2
      . simp[q2]
      . rw[q2];simp
      . have:¬l[k].nu<l[k+1].nu:=(by omega);simp[q2,this]
    . have h1:¬l[k].dy<l[k+1].dy:=(by omega);have h2:¬l[k].dy=l[k+1].dy:=(by omega);simp[q,h1,h2]
   rw[ha]at hc1;rw[hb]at hc2;have ho:=ZgJ (G:=G) a b;rw[e8,<- hv];clear hv;generalize (if a=0 then b else a)=c at *
   (refine ZfJ rfl λR hG hrd=>Qga ?_;subst hG)
   simp -implicitDefEqProofs[ZfH,ZfI,hi,hk,w1,w2,i0,k1,k2,na];refine Qco (hc1) (by simp) ?_;simp -implicitDefEqProofs[hi,hk,w1,w2,i0,k1,k2,na];refine Qco (hc2) (by simp) ?_;simp -implicitDefEqProofs[hR];refine Qco (ho) (by simp) ?_;simp -implicitDefEqProofs[];rfl
theorem ZgS (y:Nte):PC Tryz.prog G 194 [.agg (na y),.vptr [.vsl (r.map isa),.vsl (l.map na)] 0,.vptr [.int .i64 i] 0] (.bool (decide (y.nu=(nAt l i).nu))):=by
 rw[ZdW hi]
 (refine ZfG rfl λR hG hrd=>Qga ?_;subst hG)
 simp -implicitDefEqProofs[ZfE,ZfF,na,hi];rfl
theorem ZgT:PC Tryz.prog G 193 [.agg [.vsl (r.map isa),.vsl (l.map na)],.int .i64 i] (.bool (cN7 l i (nAt l i))):=by
 have hl:=hw.1;unfold Sml at hl;have hc:=ZgI (G:=G) 194 [.vptr [.vsl (r.map isa),.vsl (l.map na)] 0,.vptr [.int .i64 i] 0] (λy=>decide (y.nu=(nAt l i).nu)) (l.take i) (by simp[AV.pure,isa,na]) (by unfold Sml;simp;omega) (λy _=>ZgS r l i hi hw hr y);have i1:i<=l.length:=(by omega);have bl:∀ x:Nte,(na x).length=10:=λ_=>rfl
 rw[List.map_take]at hc
 have pu:∀ x∈List.take i (List.map na l),∀ y∈x,y.pure=true:=λx hx y hy=>by
  obtain ⟨z,-,rfl⟩:=List.mem_map.1 (List.mem_of_mem_take hx);simp only[na,List.mem_cons,List.not_mem_nil,or_false]at hy;rcases hy with rfl|rfl|rfl|rfl|rfl|rfl|rfl|rfl|rfl|rfl <;> simp[AV.pure]
 have pn:(l.map na).all (λr=>r.all AV.pure)=true:=(by simp[na,AV.pure]);have pi:=ZgB r;have e7:cN7 l i (nAt l i) = !(l.take i).any λy=>decide (y.nu=(nAt l i).nu):=rfl
 rw[e7]
 (refine ZfD rfl λR hG hrd=>Qga ?_;subst hG)
 simp -implicitDefEqProofs[ZfB,ZfC,i1,bl];refine Ye.flat hc (by simp[AV.flat]) (by simp[pn,pi]) ?_;simp -implicitDefEqProofs[]
end
end
end Go.Proofs.YtjogcghofinemaaGreatDoor
