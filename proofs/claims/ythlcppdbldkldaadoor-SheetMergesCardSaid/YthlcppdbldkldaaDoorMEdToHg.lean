/-
  What the iterator over a drawing's issues yields: the walk.
-/
import Derived.Test.YthlcppdbldkldaaDoorMRcTkToEc
import Derived.Test.YthlcppdbldkldaaDoorMOpenToOpen
import Derived.Test.YthlcppdbldkldaaDoorMRowToRow
import Derived.Test.YthlcppdbldkldaaDoorMHaToHa
set_option linter.all false
set_option maxHeartbeats 8000000
namespace Go.Proofs.YthlcppdbldkldaaDoor
open Go.Proofs.Tryd (prog)
open IntKind (i64)
open Go.RowKit
variable {G:Jg}
def Zau {P:Program} {R:Run} {st:St} {a:Act} {W:World} {κ:Nat->Option (Nat×Nat)} {rd:Option Nat} {m:Nat} {ops:Array Oper} {r:ROper} {j l:Nat} {o:Oper} {f y:RA} {K:Act->World->Prop} {Q:Exit->Act->World->Prop}
  (hr:r.op = .callv f [y]) (hf:evA R.G st f = .func (.yield l) [] []) (hw:wants st r.guard=some true) (ho:ops[j]? = some o) (hk:Z1z P R.N ops o r=true) (hκ:SK R st a W κ)
  (hc:∀ u,VR (st.env R.M κ) W (evA R.G st y) u->YieldAt (FW rd) (m-1) P l #[u] W fun
   |.returned v,W'=>K (a.put o.dst v) W'
   |.panicked ch,W'=>Q (.panic ch) a W'
   |.outgrown,_=>LetsOut Q):wpOpIn (FW rd) m P ops Q j K a W:=by
 simp only[Z1z,W01,W0b]at hk;obtain ⟨⟨⟨hd,hdn⟩,hop⟩,hg⟩:=hk;unfold wpOpIn;simp only[ho];rw[if_pos (Z20 hκ hg hw)];rw[hr]at hop;simp only[Z1y,if_true,Z1x]at hop
 split at hop <;> try (simp at hop;done)
 . simp_all
 . simp_all
 . rename_i r0 x xs ats y' ys e1 e2;simp only[W01]at hop;simp only[ROp.callv.injEq]at e2;obtain ⟨rfl,rfl⟩:=e2;have hx:=hκ.ev hop.1;rw[hf]at hx;obtain ⟨us,vs,hv1,hv2,hv3⟩:=hx.func_inv
   obtain rfl:us = #[]:=by
    have:=hv2.1;rw[<- W16];exact W0l.1 (by simpa using this)
   obtain rfl:vs = #[]:=by
    have:=hv3.1;rw[<- W16];exact W0l.1 (by simpa using this)
   cases xs with
   |nil=>simp[allB2]at hop
   | cons z xs =>
     cases xs with
     |cons _ _=>simp[allB2]at hop
     | nil =>
       have hz:=hκ.ev (show okA z y=true by simpa [allB2] using hop.2);obtain ⟨fn,tmps,assign,body,h1,h2⟩:=hc _ hz;refine ⟨λ_ _=>trivial,?_⟩;rw[Oper.semAt_eq _ _ _ (λc e=>by rw[e1]at e;cases e)]
       have:(execOp a.eval o).run P W = .ok (.round l fn tmps assign body) W:=by
        rw[<- h1];simp[execOp,e1,resolve,hv1,Deferred.ofValue,invoke,Sem.run_bind]
       rw[this];exact ⟨Z24,h2⟩
def elsOf (r:Jr) (n:Int):List AV:=(r.filter (λx=>decide (x.d=n))).map (λx=>.agg (isa x))
def Zav {n:Int}:∀ (l:Jr),(l.map (·.d)).Pairwise (· <= ·)->(∀ x∈l,n<=x.d) ->
  (l.filter (λx=>decide (x.d=n))).length<=l.length/\(∀ i,i<(l.filter (λx=>decide (x.d=n))).length->(l.filter (λx=>decide (x.d=n)))[i]? = l[i]? /\ ∀ x,l[i]? = some x->x.d=n) /\
   ∀ x,l[(l.filter (λx=>decide (x.d=n))).length]? = some x->x.d≠n
 |[],_,_=>by simp
 | y :: l,hs,hg=>by
   simp only[W0F,W1j]at hs;obtain ⟨h1,h2,h3⟩:=Zav l hs.2 λx hx=>hg x (W0z _ hx)
   by_cases hy:y.d=n
   . have e:(y::l).filter (λx=>decide (x.d=n))=y::l.filter (λx=>decide (x.d=n)):=(by simp[hy]);rw[e];refine ⟨by simpa using h1,λi hi=>?_,λx hx=>h3 x (by simpa using hx)⟩
     cases i with
     |zero=>exact ⟨rfl,λx hx=>by simp at hx;subst hx;exact hy⟩
     |succ i=>exact ⟨by simpa using (h2 i (by simpa using hi)).1,λx hx=>(h2 i (by simpa using hi)).2 x (by simpa using hx)⟩
   . have gt:n<y.d:=by have:=hg y (W0H ..);omega
     have e:(y::l).filter (λx=>decide (x.d=n))=[]:=by
      rw[W27];intro x hx;rcases W0g.1 hx with rfl|hx
      . simpa using hy
      . have:=hs.1 x.d (W0i.2 ⟨x,hx,rfl⟩);simp;omega
     rw[e];refine ⟨by simp,by simp,λx hx=>?_⟩;simp at hx;subst hx;exact hy
def Zaw {r:Jr} {n:Int} (hs:(r.map (·.d)).Pairwise (· <= ·)):∃ cnt,cnt=(r.filter (λx=>decide (x.d=n))).length/\cnt<=(r.drop (lowB (r.map (·.d)) n)).length /\
  (∀ i,i<cnt->(r.filter (λx=>decide (x.d=n)))[i]? = (r.drop (lowB (r.map (·.d)) n))[i]? /\ ∀ x,(r.drop (lowB (r.map (·.d)) n))[i]? = some x->x.d=n)/\(∀ x,(r.drop (lowB (r.map (·.d)) n))[cnt]? = some x->x.d≠n):=by
 have e:r.filter (λx=>decide (x.d=n))=(r.drop (lowB (r.map (·.d)) n)).filter (λx=>decide (x.d=n)):=by
  conv=>lhs;rw[<- W11 (lowB (r.map (·.d)) n) r]
  rw[W19]
  have:(r.take (lowB (r.map (·.d)) n)).filter (λx=>decide (x.d=n))=[]:=by
   rw[W27];intro x hx;obtain ⟨i,hi,rfl⟩:=W0k hx;simp only[W15]at hi;have:=(Zad hs n i (by simp;omega)).1 (by omega);simp only[W1t]at this;simp only[W1O];simp;omega
  rw[this,W18]
 refine ⟨_,rfl,?_⟩;rw[e];refine Zav _ ?_ λx hx=>?_
 . rw[List.map_drop];exact hs.sublist (List.drop_sublist _ _)
 . obtain ⟨i,hi,rfl⟩:=W0k hx;simp only[List.length_drop]at hi;have q:=Zad hs n (lowB (r.map (·.d)) n+i) (by simp;omega);simp only[W1t]at q;simp only[List.getElem_drop];by_cases h:r[lowB (r.map (·.d)) n+i].d<n
   . have:=q.2 h;omega
   . omega
def Zax (a b:Int):PC prog G 96 [.int .i64 a,.int .i64 b] (.int .i64 (if a<b then -1 else if b<a then 1 else 0)):=by
 (refine Z7K rfl λR hG hrd=>Qga ?_;subst hG)
 by_cases h1:a<b
 . simp -implicitDefEqProofs[Z7I,Z7J];refine Qco (Zah a) ?_;simp -implicitDefEqProofs;refine Qco (Zah b) ?_;simp -implicitDefEqProofs[h1]
 . by_cases h2:b<a
   . simp -implicitDefEqProofs[Z7I,Z7J];refine Qco (Zah a) ?_;simp -implicitDefEqProofs;refine Qco (Zah b) ?_;simp -implicitDefEqProofs[h1,h2]
   . simp -implicitDefEqProofs[Z7I,Z7J];refine Qco (Zah a) ?_;simp -implicitDefEqProofs;refine Qco (Zah b) ?_;simp -implicitDefEqProofs[h1,h2]
def Zay (x:Iss) (n:Int):PC prog G 95 [.agg (isa x),.int .i64 n] (.int .i64 (if x.d<n then -1 else if n<x.d then 1 else 0)):=by
 (refine Z7T rfl λR hG hrd=>Qga ?_;subst hG)
 simp -implicitDefEqProofs[Z7R,Z7S,isa];refine Qco (Zax _ _) ?_;simp -implicitDefEqProofs
def Zaz (r:Jr) (n:Int) (hs:(r.map (·.d)).Pairwise (· <= ·)) (hl:Sml r):∃ b,PC prog G 94 [.vsl (r.map isa),.int .i64 n,.func (.func 95) [] []] (.tup [.int .i64 (lowB (r.map (·.d)) n),.bool b]):=by
 have hle:=Zac (r.map (·.d)) n;simp only[W0N]at hle;refine ⟨if h:lowB (r.map (·.d)) n<r.length then decide ((if r[lowB (r.map (·.d)) n].d<n then (-1:Int) else if n<r[lowB (r.map (·.d)) n].d then 1 else 0)=0) else false,?_⟩
 (refine Z7N rfl λR hG hrd=>Qga ?_;subst hG)
 unfold Sml at hl;simp -implicitDefEqProofs[Z7L,Z7M];refine Z1Q (λp:Nat×Nat=>⟨[(10,.int .i64 p.2),(9,.int .i64 p.1),(8,.int .i64 r.length),(0,.vsl (r.map isa)),(1,.int .i64 n),(2,.func (.func 95) [] [])],[]⟩) (λp=>p.1<=lowB (r.map (·.d)) n/\lowB (r.map (·.d)) n<=p.2/\p.2<=r.length) (λp=>p.2-p.1) (0,r.length) (by (first|exact Wka|exact Wkb)) ⟨by omega,hle,W0f _⟩ ?_;rintro ⟨lo,hi⟩ ⟨h1,h2,h3⟩;simp only at h1 h2 h3;refine Qga ?_;by_cases h4:lo<hi
 . obtain ⟨m,hm⟩:=Qex ((lo+hi) / 2);have hw:=Zag (i:=lo) (j:=hi) (by omega);rw[<- hm]at hw;have m1:m<r.length:=(by omega);have w1:i64.wrap ((m:Int)+1)=((m+1:Nat):Int):=Yf;have hb:=Zad hs n m (by simpa using m1);simp only[W1t]at hb;by_cases h5:r[m].d<n
   . have c1:(-1:Int)<0:=(by omega);simp -implicitDefEqProofs[h4,hw,m1,isa];refine Qco (Zay r[m] n) ?_;simp -implicitDefEqProofs[h5,w1];exact ⟨(m+1,hi),(by (first|exact Wka|exact Wkb)),⟨by have:=hb.2 h5;show m+1<=_;omega,h2,h3⟩,by show hi-(m+1)<hi-lo;omega⟩
   . simp -implicitDefEqProofs[h4,hw,m1,isa];refine Qco (Zay r[m] n) ?_;by_cases h6:n<r[m].d
     . simp -implicitDefEqProofs[h5,h6];exact ⟨(lo,m),(by (first|exact Wka|exact Wkb)),⟨h1,by have:¬m<lowB (r.map (·.d)) n:=λh=>h5 (hb.1 h);show _<=m;omega,by show m<=_;omega⟩,by show m-lo<hi-lo;omega⟩
     . simp -implicitDefEqProofs[h5,h6];exact ⟨(lo,m),(by (first|exact Wka|exact Wkb)),⟨h1,by have:¬m<lowB (r.map (·.d)) n:=λh=>h5 (hb.1 h);show _<=m;omega,by show m<=_;omega⟩,by show m-lo<hi-lo;omega⟩
 . obtain rfl:lo=lowB (r.map (·.d)) n:=(by omega);by_cases h5:lowB (r.map (·.d)) n<r.length
   . simp -implicitDefEqProofs[h4];refine Qgr ?_;simp -implicitDefEqProofs[h5,isa];refine Qco (Zay r[lowB (r.map (·.d)) n] n) ?_;simp -implicitDefEqProofs
   . simp -implicitDefEqProofs[h4];refine Qgr ?_;simp -implicitDefEqProofs[h5]
def issA:RCode->RCode
 |.seq a _=>a
 |c=>c
def ZaA:RCode->RCode
 |.seq _ b=>b
 |c=>c
def issB1 (c:RCode):RCode:=issA (ZaA c)
def issB2 (c:RCode):RCode:=ZaA (ZaA c)
def issB3 (c:RCode):RCode:=match issB2 c with
 |.block _ b=>b
 |c=>c
def issL (c:RCode):RCode:=match issB3 c with
 |.loop b=>b
 |c=>c
def issBk:RCode->RCode
 |.block _ b=>b
 |c=>c
def ZaB:RCode->List ROper
 |.reg _ _ l=>l
 |_=>[]
def itS (seg:Jr) (bk:AV) (n:Int) (l i:Nat):List (Nat×AV) :=
 [(26,.int .i64 i),(25,.int .i64 seg.length),(24,.vsl (seg.map isa)),(2,.vptr [.int .i64 n] 0),(1,.vptr [bk] 0),(0,.func (.yield l) [] [])]
def ZaC (r:Jr) (n:Int) (ds:AV) (hs:(r.map (·.d)).Pairwise (· <= ·)) (hl:Sml r):IterP prog 93 [.vptr [.vptr [.vsl (r.map isa),ds] 0] 0,.vptr [.int .i64 n] 0] (elsOf r n):=by
 refine ⟨by kernel_rfl,?_⟩;intro n' l lb J K M W hn hJe hKe hJM hC hY h0;obtain ⟨cnt,hcnt,hc1,hc2,hc3⟩:=Zaw (n:=n) hs;generalize hseg:r.drop (lowB (r.map (·.d)) n)=seg at hc1 hc2 hc3;have hsl:seg.length<=16777216:=(by rw[<- hseg];simp;unfold Sml at hl;omega);have hle:=Zac (r.map (·.d)) n;simp only[W0N]at hle;unfold Sml at hl;have hel:(elsOf r n).length=cnt:=(by rw[hcnt];simp[elsOf]);obtain ⟨c,hc,hok⟩ : ∃ c,Tryd.f93.body=some c/\Z1A prog Tryd.f93.ntmps c Zal=true:=⟨_,rfl,by kernel_rfl⟩;obtain ⟨N,hN⟩:=Qex Tryd.f93.ntmps;have hN3:3<=N:=(by rw[hN];decide);rw[<- hN]at hok;refine callsIn_of_wp (F:=Fence.wide) Tryd.func93 hc trivial ?_ rfl
 have hres:∀ (tm:Array Value) (W':World),(results Tryd.f93 tm).run prog W' = .ok (.tuple #[]) W':=λtm W'=>by
  have e:Tryd.f93.results = #[]:=rfl;simp[results,e,Sem.run_bind]
 obtain ⟨Q,hQ⟩:=Qex (bodyPost prog Tryd.f93 (λe W'=>(∃ v,e = .returned v)/\((∃ M,J (elsOf r n).length M W')∨K W')))
 have hfin:∀ (a:Act) (W':World),a.defers=[]->((∃ M,J (elsOf r n).length M W')∨K W')->Q .ret a W'/\Q .normal a W':=λa W' hd h=>by
  rw[hQ];exact ⟨⟨hd,_,hres _ _,⟨_,rfl⟩,h⟩,⟨hd,_,hres _ _,⟨_,rfl⟩,h⟩⟩
 rw[<- hQ];have hwide:Fence.wide=FW none:=rfl;rw[hwide];obtain ⟨cA,c1,rfl,okA',ok1⟩:=Zam (a:=issA Zal) (b:=ZaA Zal) hok;obtain ⟨cB,c2,rfl,okB',ok2⟩:=Zam (a:=issB1 Zal) (b:=issB2 Zal) ok1;obtain ⟨c3,rfl,ok3⟩:=Zan (id:=0) (a:=issB3 Zal) ok2;obtain ⟨c4,rfl,ok4⟩:=Zao (a:=issL Zal) ok3
 have hbk:∃ v1 v2,lb = #[v1,v2]/\PV M W (.vptr [.vptr [.vsl (r.map isa),ds] 0] 0) v1/\PV M W (.vptr [.int .i64 n] 0) v2:=by
  obtain ⟨h1,h2⟩:=hC
  match lb,h1,h2 with
  | ⟨[v1,v2]⟩,_,h2=>exact ⟨v1,v2,rfl,h2 0 _ v1 rfl rfl,h2 1 _ v2 rfl rfl⟩
 obtain ⟨v1,v2,rfl,hv1,hv2⟩:=hbk;obtain ⟨bk,hbk⟩:=Qex (AV.vptr [.vsl (r.map isa),ds] 0);rw[<- hbk]at hv1
 have start:SR (Zar M W N none) ⟨[(2,.vptr [.int .i64 n] 0),(1,.vptr [bk] 0),(0,.func (.yield l) [] [])],[]⟩ { tmps:=(#[.func (.yield l) #[] #[]] ++ #[v1,v2]:Array Value)++Array.replicate (N-3) Go.undef,defers:=[] } W:=by
  refine Zas (hJM 0 M W h0) rfl (by simp;omega) λk x hx=>?_
  have g0:((#[.func (.yield l) #[] #[]] ++ #[v1,v2]:Array Value)++Array.replicate (N-3) Go.undef).getD 0 Go.undef = .func (.yield l) #[] #[]:=(by simp[Array.getD]);have g1:((#[.func (.yield l) #[] #[]] ++ #[v1,v2]:Array Value)++Array.replicate (N-3) Go.undef).getD 1 Go.undef=v1:=(by simp[Array.getD];omega);have g2:((#[.func (.yield l) #[] #[]] ++ #[v1,v2]:Array Value)++Array.replicate (N-3) Go.undef).getD 2 Go.undef=v2:=(by simp[Array.getD];omega);simp only[lk]at hx
  split at hx
  . rename_i e;subst e;cases hx;rw[g2];exact hv2
  . split at hx
    . rename_i e;subst e;cases hx;rw[g1];exact hv1
    . split at hx
      . rename_i e;subst e;cases hx;rw[g0];exact .func _ [] [] #[] #[] rfl rfl (by simp) (by simp)
      . cases hx
 have hact:({ tmps:=(#[.func (.yield l) #[] #[]] ++ #[v1,v2]:Array Value)++Array.replicate (Tryd.f93.ntmps-(#[.func (.yield l) #[] #[]] ++ #[v1,v2]:Array Value).size) Go.undef,defers:=[] }:Act)={ tmps:=(#[.func (.yield l) #[] #[]] ++ #[v1,v2]:Array Value)++Array.replicate (N-3) Go.undef,defers:=[] }:=(by rw[hN];rfl);rw[hact]
 have arA:AR prog (Zar M W N none) (issA Zal) ⟨[(2,.vptr [.int .i64 n] 0),(1,.vptr [bk] 0),(0,.func (.yield l) [] [])],[]⟩ (λe s=>e = .normal/\Ym s ⟨[(4,.int .i64 (lowB (r.map (·.d)) n)),(2,.vptr [.int .i64 n] 0),(1,.vptr [bk] 0),(0,.func (.yield l) [] [])],[]⟩):=by
  obtain ⟨b,hb⟩:=Zaz (G:=λ_=>none) r n hs hl;refine Qga ?_;simp -implicitDefEqProofs[issA,Zal,hbk];refine Ye.of hb (by simp[AV.pure]) ?_;simp -implicitDefEqProofs;exact ⟨rfl,(by (first|exact Wka|exact Wkb))⟩
 have hdr:List.drop (lowB (r.map (·.d)) n) (r.map isa)=seg.map isa:=(by rw[<- List.map_drop,hseg]);have hsg:seg.length=r.length-lowB (r.map (·.d)) n:=(by rw[<- hseg];simp);have htk:List.take r.length (r.map isa)=r.map isa:=W0J (by simp);have k5:(r.map isa).all (λr=>r.length == 5)=true:=by simp[isa]
 have arB:∀ R':Run,AR prog R' (issB1 Zal) ⟨[(4,.int .i64 (lowB (r.map (·.d)) n)),(2,.vptr [.int .i64 n] 0),(1,.vptr [bk] 0),(0,.func (.yield l) [] [])],[]⟩ (λe s=>e = .normal/\Ym s ⟨itS seg bk n l 0,[]⟩):=λR'=>by
  refine Qga ?_;simp -implicitDefEqProofs[issA,issB1,ZaA,Zal,hbk,hle,k5,hdr];exact (by (first|exact Ym.tm (by simp[lk,itS,hsg,htk,hdr])|exact Ym.sub (by simp[lk,Ya,AV.keys,itS,hsg,htk,hdr]) (by simp[lk,Yc,Ya,AV.keys,itS,hsg,htk,hdr])))
 refine wpIn_seq (wpIn_mono (arA cA okA' _ _ W start) ?_);rintro e a1 W1 ⟨s1,⟨rfl,hw1⟩,hs1⟩;refine wpIn_seq (wpIn_mono (arB _ cB okB' _ a1 W1 (hw1 _ _ _ hs1)) ?_);rintro e a2 W2 ⟨s2,⟨rfl,hw2⟩,hs2⟩;obtain ⟨d2,n2,t2,e2⟩:=Zat hs2 hw2 (by simp[itS,AV.pure,hbk]);have hJ2:=hJe _ _ _ _ h0 e2;clear hs2 hw2 hs1 hw1 arA arB start hact;refine wpIn_block ?_;refine wpIn_loop_ghost (λm a A=>∃ i M,i<=cnt/\m=seg.length-i/\J i M A/\a.defers=[]/\a.tmps.size=N/\TT' M A (itS seg bk n l i) a) seg.length ⟨0,M,W1e _,by simp,hJ2,d2,n2,t2⟩ ?_;clear hJ2 d2 n2 t2 e2 h0 hv1 hv2 hC;rintro m a A ⟨i,M,hi,rfl,hJ,hd,hn2,ht⟩;have hfr:SR (Zar M A N none) ⟨itS seg bk n l i,[]⟩ a A:=Zas (hJM i M A hJ) hd hn2 ht;by_cases hlt:i<seg.length
 case neg =>
  have hic:i=cnt:=(by omega);subst hic
  have ar:∀ R':Run,AR prog R' (issL Zal) ⟨itS seg bk n l i,[]⟩ (λe s=>e = .exit 0/\Ym s ⟨[],[]⟩):=λR'=>by
   refine Qga ?_;simp -implicitDefEqProofs[issL,issB3,issB2,ZaA,Zal,itS,hlt];exact (by (first|exact Wka|exact Wkb))
  refine wpIn_mono (ar _ c4 ok4 _ a A hfr) ?_;rintro e a3 A3 ⟨s3,⟨rfl,hw3⟩,hs3⟩;obtain ⟨d3,-,-,e3⟩:=Zat hs3 hw3 (by simp);refine (hfin a3 A3 d3 (.inl ⟨M,?_⟩)).2;rw[hel];exact hJe _ _ _ _ hJ e3
 by_cases hd2:seg[i].d=n
 case neg =>
  have hic:i=cnt:=by
   by_cases e:i<cnt
   . exact absurd ((hc2 i e).2 _ (W07 hlt)) hd2
   . omega
  subst hic
  have ar:∀ R':Run,AR prog R' (issL Zal) ⟨itS seg bk n l i,[]⟩ (λe s=>e = .ret/\Ym s ⟨[],[]⟩):=λR'=>by
   refine Qga ?_;simp -implicitDefEqProofs[issL,issB3,issB2,ZaA,Zal,itS,hlt,isa,hd2];exact (by (first|exact Wka|exact Wkb))
  refine wpIn_mono (ar _ c4 ok4 _ a A hfr) ?_;rintro e a3 A3 ⟨s3,⟨rfl,hw3⟩,hs3⟩;obtain ⟨d3,-,-,e3⟩:=Zat hs3 hw3 (by simp);refine (hfin a3 A3 d3 (.inl ⟨M,?_⟩)).1;rw[hel];exact hJe _ _ _ _ hJ e3
 have hic:i<cnt:=by
  by_cases e:i<cnt
  . exact e
  . exact absurd hd2 (hc3 _ (by rw[show cnt=i by omega];exact W07 hlt))
 have helt:(elsOf r n)[i]? = some (.agg (isa seg[i])):=by
  simp only[elsOf,W09,(hc2 i hic).1,W07 hlt,W0m]
 obtain ⟨L,hL⟩:=Qex (issL Zal);obtain ⟨r2,q1,rfl,okr2,okq1⟩:=Zam (a:=issA (issL Zal)) (b:=ZaA (issL Zal)) ok4;obtain ⟨k1,q2,rfl,okk1,okq2⟩:=Zam (a:=issA (ZaA (issL Zal))) (b:=ZaA (ZaA (issL Zal))) okq1;obtain ⟨q3,r5,rfl,okq3,okr5⟩:=Zam (a:=issA (ZaA (ZaA (issL Zal)))) (b:=ZaA (ZaA (ZaA (issL Zal)))) okq2;obtain ⟨q4,rfl,okq4⟩:=Zan (id:=1) (a:=issBk (issA (ZaA (ZaA (issL Zal))))) okq3;obtain ⟨r3,q5,rfl,okr3,okq5⟩:=Zam (a:=issA (issBk (issA (ZaA (ZaA (issL Zal)))))) (b:=ZaA (issBk (issA (ZaA (ZaA (issL Zal)))))) okq4;obtain ⟨r4,k2,rfl,okr4,okk2⟩:=Zam (a:=issA (ZaA (issBk (issA (ZaA (ZaA (issL Zal))))))) (b:=ZaA (ZaA (issBk (issA (ZaA (ZaA (issL Zal))))))) okq5;obtain ⟨ops,rfl,hops⟩:=Zap (id:=4) (rs:=ZaB (issA (ZaA (issBk (issA (ZaA (ZaA (issL Zal)))))))) okr4;obtain ⟨hol,hoo⟩:=Zc hops;have hol:ops.size=10:=hol
 have ar2:AR prog (Zar M A N none) (issA (issL Zal)) ⟨itS seg bk n l i,[]⟩ (λe s=>e = .normal/\Ym s ⟨(27,.bool true)::itS seg bk n l i,[]⟩):=by
  refine Qga ?_;simp -implicitDefEqProofs[issL,issB3,issB2,issA,ZaA,Zal,itS,hlt];exact (by (first|exact Wka|exact Wkb))
 refine wpIn_seq (wpIn_mono (ar2 r2 okr2 _ a A hfr) ?_);rintro e b1 B1 ⟨s1,⟨rfl,w1⟩,hs1⟩
 have ark:AR prog (Zar M A N none) (issA (ZaA (issL Zal))) ⟨(27,.bool true)::itS seg bk n l i,[]⟩ (λe s=>e = .normal/\Ym s ⟨itS seg bk n l i,[]⟩):=by
  refine Qga ?_;simp -implicitDefEqProofs[issL,issB3,issB2,issA,ZaA,Zal,itS];exact (by (first|exact Wka|exact Wkb))
 refine wpIn_seq (wpIn_mono (ark k1 okk1 _ b1 B1 (w1 _ _ _ hs1)) ?_);rintro e b2 B2 ⟨s2,⟨rfl,w2⟩,hs2⟩;refine wpIn_seq (wpIn_block ?_)
 have ar3:AR prog (Zar M A N none) (issA (issBk (issA (ZaA (ZaA (issL Zal)))))) ⟨itS seg bk n l i,[]⟩ (λe s=>e = .normal/\Ym s ⟨(7,.ptr 7 0)::itS seg bk n l i,[(7,.box (isa seg[i]))]⟩):=by
  refine Qga ?_;simp -implicitDefEqProofs[issL,issB3,issB2,issA,ZaA,issBk,Zal,itS,hlt,isa];exact (by (first|exact Wka|exact Wkb))
 refine wpIn_seq (wpIn_mono (ar3 r3 okr3 _ b2 B2 (w2 _ _ _ hs2)) ?_);rintro e b3 B3 ⟨s3,⟨rfl,w3⟩,hs3⟩;have hs3:=w3 _ _ _ hs3;clear hs1 hs2 w1 w2 w3 ar2 ark ar3;refine wpIn_seq (wpIn_region ?_);have hrg:List.range ops.size=[0,1,2,3,4,5,6]++[7,8,9]:=(by rw[hol];rfl);rw[hrg]
 have okAt:∀ (k:Nat) (r:ROper),(ZaB (issA (ZaA (issBk (issA (ZaA (ZaA (issL Zal))))))))[k]? = some r->∃ o,ops[k]? = some o/\Z1z prog N ops o r=true:=λk r hk=>by
  have hlt:k<ops.size:=by
   have:=(W02.1 hk).1;rw[hol];exact this
  exact ⟨ops[k],by simp[hlt],hoo k _ r (by simp[hlt]) hk⟩
 refine Zaq (R:=Zar M A N none) [7,8,9] _ ((ZaB (issA (ZaA (issBk (issA (ZaA (ZaA (issL Zal)))))))).take 7) ⟨(7,.ptr 7 0)::itS seg bk n l i,[(7,.box (isa seg[i]))]⟩
  (λs=>Ym s ⟨(36,.agg (isa seg[i]))::(35,.func (.yield l) [] [])::(34,.bool false)::itS seg bk n l i,[]⟩) b3 B3 ?_ rfl ?_ ?_ hs3
 . intro k r hk;rw[W1k]at hk
   split at hk
   . rename_i h7;obtain ⟨o,h1,h2⟩:=okAt k r hk;refine ⟨k,o,?_,h1,h2⟩
     match k,h7 with
     |0,_|1,_|2,_|3,_|4,_|5,_|6,_=>rfl
   . cases hk
 . intro s4 b4 B4 w4 hs4;obtain ⟨κ4,hk4⟩:=w4 _ _ _ hs4;obtain ⟨d4,n4,t4,e4⟩:=Zat hs4 w4 (by simp[itS,AV.pure,hbk,isa]);obtain ⟨o7,ho7,hk7⟩:=okAt 7 _ rfl;rw[wpOpsIn_cons];refine Zau (R:=Zar M A N none) (l:=l) (f:=.t 35) (y:=.t 36) rfl (by simp[evA,St.tmp,lk]) (by simp[wants,St.tmp,lk]) ho7 hk7 hk4 λu hu=>?_
   have hpu:PV M B4 (.agg (isa seg[i])) u:=by
    have h36:evA (Zar M A N none).G ⟨(36,.agg (isa seg[i]))::(35,.func (.yield l) [] [])::(34,.bool false)::itS seg bk n l i,[]⟩ (.t 36) = .agg (isa seg[i]):=(by simp[evA,St.tmp,lk]);rw[h36]at hu;exact (hu.toPV (by simp[AV.pure,isa])).mono (λb _ hb=>⟨λh=>hb (.inl h),rfl⟩) (W0f _)
   have hdst:o7.dst=some 37:=by
    simp only[Z1z,W01,W0b]at hk7;exact hk7.1.1.1
   have h34:b4.tmps.getD 34 Go.undef = .bool false:=by
    have:=t4 34 (.bool false) (by simp[lk]);generalize b4.tmps.getD 34 Go.undef=v at this
    cases this;rfl
   have suffix:∀ (b:Bool) (T:List (Nat×AV)) (M':Nat->Prop) (A':World),(T=itS seg bk n l i∨T=[])->(∀ x,M' x->x<A'.heap.size)->TT' M' A' T b4->∀ (Qx:Exit->Act->World->Prop),
     (∀ a5 A5,SR (Zar M' A' N none) ⟨(39,.bool (!b))::T,[]⟩ a5 A5->Qx .normal a5 A5)->wpOpsIn (FW none) n' prog ops Qx [8,9] (b4.put (some 37) (.bool b)) A':=by
    intro b T M' A' hTT hM' hT Qx hQx;have n37:37<N:=by rw[hN];decide
    have hsr:SR (Zar M' A' N none) ⟨(37,.bool b)::(34,.bool false)::T,[]⟩ (b4.put (some 37) (.bool b)) A':=by
     refine Zas hM' d4 (by simpa [Act.put] using n4) λk x hx=>?_
     show PV M' A' x ((b4.tmps.setIfInBounds 37 (.bool b)).getD k Go.undef);simp only[lk]at hx
     split at hx
     . rename_i e;subst e
       cases hx
       have:(b4.tmps.setIfInBounds 37 (.bool b)).getD 37 Go.undef = .bool b:=(by simp[Array.getD,n4,n37]);rw[this];exact .bool b
     . rename_i e
       have h3:(b4.tmps.setIfInBounds 37 (.bool b)).getD k Go.undef=b4.tmps.getD k Go.undef:=by
        simp only[W0a,W0p,if_neg e]
       rw[h3]
       split at hx
       . rename_i e2;subst e2;cases hx;rw[h34];exact .bool false
       . exact hT k x hx
    refine Z27 (R:=Zar M' A' N none) [8,9] ((ZaB (issA (ZaA (issBk (issA (ZaA (ZaA (issL Zal)))))))).drop 8) ⟨(37,.bool b)::(34,.bool false)::T,[]⟩
     (λe s=>e = .normal/\Ym s ⟨(39,.bool (!b))::T,[]⟩) Qx _ A' ?_ rfl ?_ ?_ hsr
    . intro k r hk;rw[W13]at hk;obtain ⟨o,h1,h2⟩:=okAt (8+k) r hk
      have h7:k<2:=by
       have:=(W02.1 hk).1;have e:(ZaB (issA (ZaA (issBk (issA (ZaA (ZaA (issL Zal)))))))).length=10:=rfl;omega
      refine ⟨8+k,o,?_,h1,h2⟩
      match k,h7 with
      |0,_|1,_=>rfl
    . rintro e s5 a5 A5 ⟨rfl,w5⟩ hs5;exact hQx a5 A5 (w5 _ _ _ hs5)
    . rcases hTT with rfl|rfl <;> cases b
      all_goals
       simp -implicitDefEqProofs[issL,issB3,issB2,issA,ZaA,issBk,ZaB,Zal,itS];exact (by (first|exact Wka|exact Wkb))
   obtain ⟨fn,tm,asg,bo,y1,y2⟩:=hY i _ u M B4 (hJe _ _ _ _ hJ e4) helt hpu;refine ⟨fn,tm,asg,bo,y1,y2.mono ?_⟩;rintro e A' (⟨rfl,M',hJ',hSi⟩ | ⟨rfl,hK'⟩)
   . show wpOpsIn (FW none) n' prog ops _ [8,9] (b4.put o7.dst (.bool true)) A';rw[hdst]
     have hT':TT' M' A' (itS seg bk n l i) b4:=λk x hx=>by
      refine (t4 k x ?_).mono hSi.2 hSi.1;simp only[lk];rw[if_neg (by rintro rfl;simp[itS,lk]at hx),if_neg (by rintro rfl;simp[itS,lk]at hx),if_neg (by rintro rfl;simp[itS,lk]at hx)];exact hx
     refine suffix true _ M' A' (.inl rfl) (hJM _ _ _ hJ') hT' _ λa5 A5 h5=>?_
     have ark2:AR prog (Zar M' A' N none) (ZaA (ZaA (issBk (issA (ZaA (ZaA (issL Zal))))))) ⟨(39,.bool (!true))::itS seg bk n l i,[]⟩ (λe s=>e = .normal/\Ym s ⟨itS seg bk n l i,[]⟩):=by
      refine Qga ?_;simp -implicitDefEqProofs[issL,issB3,issB2,issA,ZaA,issBk,Zal,itS];exact (by (first|exact Wka|exact Wkb))
     refine wpIn_mono (ark2 k2 okk2 _ a5 A5 h5) ?_;rintro e b6 B6 ⟨s6,⟨rfl,w6⟩,hs6⟩
     have ar5:AR prog (Zar M' A' N none) (ZaA (ZaA (ZaA (issL Zal)))) ⟨itS seg bk n l i,[]⟩ (λe s=>e = .normal/\Ym s ⟨itS seg bk n l (i+1),[]⟩):=by
      have w1:i64.wrap ((i:Int)+1)=((i+1:Nat):Int):=Yf;refine Qga ?_;simp -implicitDefEqProofs[issL,issB3,issB2,issA,ZaA,issBk,Zal,itS,w1];exact (by (first|exact Wka|exact Wkb))
     refine wpIn_mono (ar5 r5 okr5 _ b6 B6 (w6 _ _ _ hs6)) ?_;rintro e b7 B7 ⟨s7,⟨rfl,w7⟩,hs7⟩;obtain ⟨d7,n7,t7,e7⟩:=Zat hs7 w7 (by simp[itS,AV.pure,hbk]);exact ⟨seg.length-(i+1),by omega,i+1,M',by omega,rfl,hJe _ _ _ _ hJ' e7,d7,n7,t7⟩
   . show wpOpsIn (FW none) n' prog ops _ [8,9] (b4.put o7.dst (.bool false)) A';rw[hdst];refine suffix false [] (λ_=>False) A' (.inr rfl) (λ_ h=>h.elim) (λk x hx=>by simp[lk]at hx) _ λa5 A5 h5=>?_
     have ark2:AR prog (Zar (λ_=>False) A' N none) (ZaA (ZaA (issBk (issA (ZaA (ZaA (issL Zal))))))) ⟨[(39,.bool (!false))],[]⟩ (λe s=>e = .ret/\Ym s ⟨[],[]⟩):=by
      refine Qga ?_;simp -implicitDefEqProofs[issL,issB3,issB2,issA,ZaA,issBk,Zal];exact (by (first|exact Wka|exact Wkb))
     refine wpIn_mono (ark2 k2 okk2 _ a5 A5 h5) ?_;rintro e b6 B6 ⟨s6,⟨rfl,w6⟩,hs6⟩;obtain ⟨d6,-,-,e6⟩:=Zat hs6 w6 (by simp);exact (hfin b6 B6 d6 (.inr (hKe _ _ hK' e6))).1
 . simp -implicitDefEqProofs[issL,issB3,issB2,issA,ZaA,issBk,ZaB,Zal,itS,isa,hd2];exact (by (first|exact Wka|exact Wkb))
def bkA (r:Jr) (ds:List Int):AV:=.vptr [.vsl (r.map isa),.vsl (ds.map ia)] 0
def ZaD (r:Jr) (ds:List Int):(bkA r ds).pure=true:=by simp[bkA,AV.pure]
attribute [simp] ZaD
def ZaE (r:Jr) (ds:List Int) (n:Int) (hs:ds.Pairwise (· <= ·)) (hl:Sml ds):PC prog G 77 [bkA r ds,.int .i64 n] (.bool (decide (n∈ds))):=by
 (refine Z7v rfl λR hG hrd=>Qga ?_;subst hG)
 simp -implicitDefEqProofs[Z7t,Z7u,bkA];refine Qco (Zak ds n hs hl) ?_;simp -implicitDefEqProofs
def ZaF (r:Jr) (ds:List Int) (y:Int×Int) (hs:ds.Pairwise (· <= ·)) (hl:Sml ds):PC prog G 76 [.agg [.int .i64 y.1,.int .i64 y.2],.vptr [bkA r ds] 0] (.bool (!decide (y.1∈ds))):=by
 (refine Z7s rfl λR hG hrd=>Qga ?_;subst hG)
 simp -implicitDefEqProofs[Z7q,Z7r];refine Qco (ZaE r ds y.1 hs hl) ?_;simp -implicitDefEqProofs
def ZaG (r:Jr) (ds:List Int) (n:Int):PC prog G 78 [bkA r ds,.int .i64 n] (.func (.func 93) [] [.vptr [bkA r ds] 0,.vptr [.int .i64 n] 0]):=by
 (refine Z7Q rfl λR hG hrd=>Qga ?_;subst hG)
 simp -implicitDefEqProofs[Z7O,Z7P,bkA]
def ZaH (r:Jr) (ds:List Int) (d l:Int) (hs:(r.map (·.d)).Pairwise (· <= ·)) (hl:Sml r) (hu:∀ y∈r,findN y.d y.l r=some y):PC prog G 62 [bkA r ds,.agg [.int .i64 d,.int .i64 l]] (fndA (findN d l r)):=by
 (refine Z7W rfl λR hG hrd=>Qga ?_;subst hG)
 simp -implicitDefEqProofs[Z7U,Z7V];refine Qco (ZaG r ds d) ?_;simp -implicitDefEqProofs
 refine Z5a hrd (ZaC r d (.vsl (ds.map ia)) hs hl) (by simp[evA,St.tmp,lk,bkA]) (by simp[AV.pure]) (λk=>k-1000) [(3,.ptr 1003 0),(4,.ptr 1004 0),(5,.ptr 1005 0)] (λ_=>[(1003,.box [.int .i64 d,.int .i64 l]),(1004,.box [.int .i64 0,.int .i64 0,.int .u8 0,.nils,.nils]),(1005,.box [.bool false])])
  [1003,1004,1005] (λk=>∀ j,j<k->∀ y,(r.filter (λx=>decide (x.d=d)))[j]? = some y->y.l≠l) (by simp) (λ_=>rfl) (by simp) (by simp) (by simp[Yl,St.set,putO,AObj.ren,AV.ren]) (by simp[Yc,Ya,AV.keys]) (by simp[lk,AV.ren,AV.keys]) ?_ ?_
 . intro k x hx hI R' hG hN
   obtain ⟨y,hy,rfl⟩ : ∃ y,(r.filter (λx=>decide (x.d=d)))[k]? = some y/\x = .agg (isa y):=by
    simp only[elsOf,W09,W04]at hx;obtain ⟨y,h1,h2⟩:=hx;exact ⟨y,h1,h2.symm⟩
   have hym:=W0G.1 (W0d hy);have hyd:y.d=d:=W0X hym.2;refine Qga ?_;simp -implicitDefEqProofs[isa];intro R'' hG'' hN'';refine Qga ?_;simp -implicitDefEqProofs;refine Qco (Za5 y) ?_;simp -implicitDefEqProofs;refine ⟨rfl,?_⟩;by_cases e:y.l=l
   . simp -implicitDefEqProofs[hyd,e,RndB,Yi,newK,frzO,frzA,frz,AV.keys,Yl,AObj.ren,AV.ren];refine Qgr ?_
     have hf:findN d l r=some y:=by
      have:=hu y hym.1;rw[hyd,e]at this;exact this
     simp -implicitDefEqProofs[hf,fndA,isa,hyd,e]
   . simp -implicitDefEqProofs[hyd,e,RndB,Yi,newK,frzO,frzA,frz,AV.keys];intro j hj z hz;by_cases e2:j=k
     . subst e2;rw[hy]at hz;cases hz;exact e
     . exact hI j (by omega) z hz
 . intro hI
   have hn:findN d l r=none:=by
    cases hf:findN d l r with
    |none=>rfl
    | some y =>
      obtain ⟨h1,h2,h3⟩:=Z9O hf;obtain ⟨j,hj,he⟩:=W0k (show y∈r.filter (λx=>decide (x.d=d)) from W0G.2 ⟨h1,W0M h2⟩);exact absurd h3 (hI j (by simp[elsOf];exact hj) y (by rw[W07 hj,he]))
   simp -implicitDefEqProofs[Yl,AObj.ren,AV.ren];refine Qgr ?_;simp -implicitDefEqProofs[hn,fndA,noIs]
def dpA (dp:List (Int×Int)):List (AV×AV):=dp.map λp=>(.int .i64 p.1,.int .i64 p.2)
def lfA (lf:List Int):List (AV×AV):=lf.map λn=>(.int .i64 n,.bool true)
def dpLk (n:Int):List (Int×Int)->Option Int
 |[]=>none
 |p::r=>if n=p.1 then some p.2 else dpLk n r
def dpG (dp:List (Int×Int)) (n:Int):Int:=(dpLk n dp).getD 0
def ZaI (n:Int):∀ dp:List (Int×Int),∃ o:Option Nat,(KK.i .i64).find (.int .i64 n) (dpA dp)=some o/\match o with
  |some j=>∃ v,dp[j]? = some (n,v)/\dpLk n dp=some v
  |none=>dpLk n dp=none/\∀ p∈dp,p.1≠n
 |[]=>⟨none,rfl,rfl,by simp⟩
 | p :: r=>by
   obtain ⟨o,h1,h2⟩:=ZaI n r;by_cases e:n=p.1
   . refine ⟨some 0,by simp[dpA,KK.find,KK.eq,e],p.2,by simp[e],by simp[dpLk,e]⟩
   . refine ⟨o.map (· + 1),?_,?_⟩
     . simp only[dpA,W0F,KK.find,KK.eq,and_self,if_true,e,W1u];rw[show r.map (λp=>(AV.int .i64 p.1,AV.int .i64 p.2))=dpA r from rfl,h1];rfl
     . cases o with
       |none=>exact ⟨by simp only[dpLk,e,if_false];exact h2.1,λq hq=>by
        rcases W0g.1 hq with rfl|hq
        . exact λh=>e h.symm
        . exact h2.2 q hq⟩
       | some j =>
         obtain ⟨v,h3,h4⟩:=h2;exact ⟨v,by simpa using h3,by simp only[dpLk,e,if_false];exact h4⟩
def ZaJ (n:Int) (dp:List (Int×Int)):(KK.i .i64).get (.int .i64 n) (dpA dp)=some ((dpLk n dp).map λv=>.int .i64 v):=by
 obtain ⟨o,h1,h2⟩:=ZaI n dp;have hi:(KK.i .i64).is (.int .i64 n)=true:=(by simp[KK.is]);unfold KK.get;rw[if_pos hi,h1]
 cases o with
 |none=>simp[h2.1]
 |some j=>obtain ⟨v,h3,h4⟩:=h2;simp[dpA,h3,h4]
def ZaK {n:Int} (v:Int) {dp:List (Int×Int)} (h:n ∉ dp.map (·.1)):(KK.i .i64).put (.int .i64 n) (.int .i64 v) (dpA dp)=some (dpA (dp++[(n,v)])):=by
 obtain ⟨o,h1,h2⟩:=ZaI n dp;have hi:(KK.i .i64).is (.int .i64 n)=true:=(by simp[KK.is]);unfold KK.put;rw[if_pos hi,h1]
 cases o with
 |none=>simp[dpA]
 | some j =>
   obtain ⟨w,h3,h4⟩:=h2;exact absurd (W0i.2 ⟨_,W0d h3,rfl⟩) h
def ZaL (n:Int):∀ lf:List Int,∃ o:Option Nat,(KK.i .i64).find (.int .i64 n) (lfA lf)=some o/\match o with
  |some j=>lf[j]? = some n/\n∈lf/\lf.eraseIdx j=lf.erase n
  |none=>n ∉ lf
 |[]=>⟨none,rfl,by simp⟩
 | x :: r=>by
   obtain ⟨o,h1,h2⟩:=ZaL n r;by_cases e:n=x
   . subst e;exact ⟨some 0,by simp[lfA,KK.find,KK.eq],by simp⟩
   . refine ⟨o.map (· + 1),?_,?_⟩
     . simp only[lfA,W0F,KK.find,KK.eq,and_self,if_true,e,W1u];rw[show r.map (λn=>(AV.int .i64 n,AV.bool true))=lfA r from rfl,h1];rfl
     . cases o with
       |none=>simp only[Option.map_none,W0g,not_or];exact ⟨e,h2⟩
       | some j =>
         obtain ⟨h3,h4,h5⟩:=h2;refine ⟨by simpa using h3,W0z _ h4,?_⟩;simp only[List.eraseIdx_cons_succ,h5];rw[List.erase_cons_tail];simpa using λq=>e q.symm
def ZaM (n:Int) (lf:List Int):(KK.i .i64).get (.int .i64 n) (lfA lf)=some (if n∈lf then some (.bool true) else none):=by
 obtain ⟨o,h1,h2⟩:=ZaL n lf;have hi:(KK.i .i64).is (.int .i64 n)=true:=(by simp[KK.is]);unfold KK.get;rw[if_pos hi,h1]
 cases o with
 | none => have h2:n ∉ lf:=h2
           simp[h2]
 |some j=>obtain ⟨h3,h4,h5⟩:=h2;simp[lfA,h3,h4]
def ZaN {n:Int} {lf:List Int} (h:n ∉ lf):(KK.i .i64).put (.int .i64 n) (.bool true) (lfA lf)=some (lfA (lf++[n])):=by
 obtain ⟨o,h1,h2⟩:=ZaL n lf;have hi:(KK.i .i64).is (.int .i64 n)=true:=(by simp[KK.is]);unfold KK.put;rw[if_pos hi,h1]
 cases o with
 |none=>simp[lfA]
 |some j=>exact absurd h2.2.1 h
def ZaO {α β:Type} (f:α->β):∀ (l:List α) (j:Nat),(l.map f).eraseIdx j=(l.eraseIdx j).map f
 |[],_=>by simp
 |x::l,0=>by simp
 |x::l,j+1=>by simp[ZaO f l j]
def ZaP {n:Int} {lf:List Int} (h:n∈lf):(KK.i .i64).del (.int .i64 n) (lfA lf)=some (lfA (lf.erase n)):=by
 obtain ⟨o,h1,h2⟩:=ZaL n lf;have hi:(KK.i .i64).is (.int .i64 n)=true:=(by simp[KK.is]);unfold KK.del;rw[if_pos hi,h1]
 cases o with
 |none=>exact absurd h h2
 | some j =>
   obtain ⟨h3,h4,h5⟩:=h2;simp only[lfA,<- h5];rw[ZaO]
def rdIt (lf:List Int) (b:Bool) (its:List (Int×Int)):Bool:=its.foldl (λb y=>b && !decide (y.1∈lf)) b
def msIt (dp:List (Int×Int)) (m:Int) (its:List (Int×Int)):Int:=its.foldl (λm y=>max m (dpG dp y.1)) m
def rdN (lf:List Int) (b:Bool) (l:Jr):Bool:=l.foldl (λb x=>rdIt lf b x.its) b
def msN (dp:List (Int×Int)) (m:Int) (l:Jr):Int:=l.foldl (λm x=>msIt dp m x.its) m
def issOf (r:Jr) (n:Int):List Iss:=r.filter (λx=>decide (x.d=n))
def dStep (r:Jr) (s:List (Int×Int)×List Int) (n:Int):List (Int×Int)×List Int :=
 if rdN s.2 (decide (n∈s.2)) (issOf r n)=true then (s.1++[(n,msN s.1 0 (issOf r n)+1)],s.2.erase n) else s
def dPass (r:Jr) (s:List (Int×Int)×List Int):List (Int×Int)×List Int:=(nums r).foldl (dStep r) s
def dRun (r:Jr):Nat->List (Int×Int)×List Int
 |0=>([],nums r)
 |k+1=>dPass r (dRun r k)
def ZaQ (lf:List Int) (b:Bool) (its:List (Int×Int)) (k:Nat) (h:k<its.length):rdIt lf b (its.take (k+1))=(rdIt lf b (its.take k) && !decide (its[k].1∈lf)):=by
 rw[W08 h,rdIt,W1o];rfl
def ZaR (dp:List (Int×Int)) (m:Int) (its:List (Int×Int)) (k:Nat) (h:k<its.length):msIt dp m (its.take (k+1))=max (msIt dp m (its.take k)) (dpG dp its[k].1):=by
 rw[W08 h,msIt,W1o];rfl
def ZaS (lf:List Int) (b:Bool) (l:Jr) (k:Nat) (h:k<l.length):rdN lf b (l.take (k+1))=rdIt lf (rdN lf b (l.take k)) l[k].its:=by
 rw[W08 h,rdN,W1o];rfl
def ZaT (dp:List (Int×Int)) (m:Int) (l:Jr) (k:Nat) (h:k<l.length):msN dp m (l.take (k+1))=msIt dp (msN dp m (l.take k)) l[k].its:=by
 rw[W08 h,msN,W1o];rfl
def ZaU (lf:List Int):∀ its:List (Int×Int),rdIt lf false its=false
 |[]=>rfl
 |y::its=>by simp only[rdIt,W23,W1F];exact ZaU lf its
def ZaV (lf:List Int):∀ l:List Iss,rdN lf false l=false
 |[]=>rfl
 |x::l=>by simp only[rdN,W23,ZaU];exact ZaV lf l
def ZaW {lf:List Int} {n:Int} {l:Jr} (h:rdN lf (decide (n∈lf)) l=true):n∈lf:=by
 by_cases e:n∈lf
 . exact e
 . rw[W0S e,ZaV]at h;cases h
structure DInv (r:Jr) (s:List (Int×Int)×List Int):Prop where
 perm:(s.1.map (·.1)++s.2).Perm (nums r)
 bd:∀ p∈s.1,1<=p.2/\p.2<=(s.1.length:Nat)
def ZaX {n v:Int}:∀ {dp:List (Int×Int)},dpLk n dp=some v->(n,v)∈dp
 | p::r,h=>by
   simp only[dpLk]at h
   split at h
   . rename_i e;cases h;rw[e];exact W0H ..
   . exact W0z _ (ZaX h)
def ZaY {r:Jr} {s:List (Int×Int)×List Int} (h:DInv r s) (n:Int):0<=dpG s.1 n/\dpG s.1 n<=(s.1.length:Nat):=by
 unfold dpG
 cases e:dpLk n s.1 with
 |none=>simp
 |some v=>have:=h.bd _ (ZaX e);simp only[W0P];omega
def ZaZ {r:Jr} {s:List (Int×Int)×List Int} (h:DInv r s):∀ (its:List (Int×Int)) (m:Int),0<=m->m<=(s.1.length:Nat)->0<=msIt s.1 m its/\msIt s.1 m its<=(s.1.length:Nat)
 |[],m,h1,h2=>⟨h1,h2⟩
 | y::its,m,h1,h2=>by
   have:=ZaY h y.1;exact ZaZ h its (max m (dpG s.1 y.1)) (by omega) (by omega)
def Zb0 {r:Jr} {s:List (Int×Int)×List Int} (h:DInv r s):∀ (l:Jr) (m:Int),0<=m->m<=(s.1.length:Nat)->0<=msN s.1 m l/\msN s.1 m l<=(s.1.length:Nat)
 |[],m,h1,h2=>⟨h1,h2⟩
 | x::l,m,h1,h2=>by
   have:=ZaZ h x.its m h1 h2;exact Zb0 h l (msIt s.1 m x.its) this.1 this.2
def DInv.len {r:Jr} {s:List (Int×Int)×List Int} (h:DInv r s):s.1.length+s.2.length=(nums r).length:=by
 have:=h.perm.length_eq;simpa using this
def DInv.step {r:Jr} {s:List (Int×Int)×List Int} (h:DInv r s) (n:Int):DInv r (dStep r s n):=by
 unfold dStep
 split
 . rename_i hb;have hm:=ZaW hb;have hbd:=Zb0 h (issOf r n) 0 (W1R _) (by omega);refine ⟨?_,λp hp=>?_⟩
   . refine List.Perm.trans ?_ h.perm;simp only[W0r,W0F,W1c,W0U,W1d,W18];exact (List.perm_cons_erase hm).symm.append_left _
   . simp only[W0s,W1n,W1N];rcases W0h.1 hp with hp|hp
     . have:=h.bd p hp;omega
     . simp only[W0B]at hp;subst hp;simp only;omega
 . exact h
def DInv.fold {r:Jr}:∀ (l:List Int) {s:List (Int×Int)×List Int},DInv r s->DInv r (l.foldl (dStep r) s)
 |[],s,h=>h
 |n::l,s,h=>DInv.fold l (h.step n)
def DInv.run (r:Jr):∀ k,DInv r (dRun r k)
 |0=>⟨by simp[dRun],by simp[dRun]⟩
 |k+1=>(DInv.run r k).fold (nums r)
def Zb1 {α β:Type} (f:β->α->β) (s:β) (l:List α) (k:Nat) (h:k<l.length):(l.take (k+1)).foldl f s=f ((l.take k).foldl f s) l[k]:=by
 rw[W08 h,W1o];rfl
set_option maxRecDepth 8000 in
def Zb2 (r:Jr) (hw:Wf r) (hO:Ord r) (hn:(nums r).length<=20):PC prog G 59 [bkA r (nums r)] (.tup [.vmap (dpA (dRun r (nums r).length).1),.bool (decide (0<(dRun r (nums r).length).2.length))]):=by
 (refine Z7Z rfl λR hG hrd=>Qga ?_;subst hG)
 have hs:(r.map (·.d)).Pairwise (· <= ·):=by
  rw[List.pairwise_map,W0Y];intro i j hi hj hij;have:=hO.mono (Nat.le_of_lt hij) hj
  rwa [at_eq hi,at_eq hj]at this
 have hl:=hw.1.1;have hnd:=Z9z hO;simp -implicitDefEqProofs[Z7X,Z7Y,bkA];refine Z91 (λi=>⟨[(22,.int .i64 i),(21,.int .i64 (nums r).length),(20,.vsl ((nums r).map ia)),(5,.ptr 5 0),(4,.ptr 4 0),(0,bkA r (nums r))],[(15,.mp []),(4,.box [.mp 15]),(16,.mp (lfA ((nums r).take i))),(5,.box [.mp 16])]⟩) (λ_=>True) (nums r).length (by (first|exact Ym.tm (by simp[lk,lfA,bkA])|exact Ym.sub (by simp[lk,Ya,AV.keys,lfA,bkA]) (by simp[lk,Yc,Ya,AV.keys,lfA,bkA]))) trivial ?_ ?_
 . intro i hi _;refine Qga ?_;have w1:i64.wrap ((i:Int)+1)=((i+1:Nat):Int):=Yf
   have hni:(nums r)[i] ∉ (nums r).take i:=by
    intro hm;obtain ⟨j,hj,e⟩:=W0k hm;simp only[W15]at hj;simp only[W1O]at e;have:=(List.getElem_inj hnd).1 e;omega
   have hp:=ZaN hni;rw[<- W08 hi]at hp;simp -implicitDefEqProofs[hi,w1,ia,hp];exact (by (first|exact Ym.tm (by simp[lk,bkA])|exact Ym.sub (by simp[lk,Ya,AV.keys,bkA]) (by simp[lk,Yc,Ya,AV.keys,bkA])))
 . intro _;refine Qga ?_;simp -implicitDefEqProofs;refine Qgr ?_;simp -implicitDefEqProofs[bkA];refine Z91 (λk=>⟨[(34,.int .i64 k),(33,.int .i64 (nums r).length),(5,.ptr 5 0),(4,.ptr 4 0),(0,bkA r (nums r))],[(15,.mp (dpA (dRun r k).1)),(4,.box [.mp 15]),(16,.mp (lfA (dRun r k).2)),(5,.box [.mp 16])]⟩) (λ_=>True) (nums r).length (by (first|exact Ym.tm (by simp[lk,dRun,dpA,bkA])|exact Ym.sub (by simp[lk,Ya,AV.keys,dRun,dpA,bkA]) (by simp[lk,Yc,Ya,AV.keys,dRun,dpA,bkA]))) trivial ?_ ?_
   . intro k hk _;refine Qga ?_;have w1:i64.wrap ((k:Int)+1)=((k+1:Nat):Int):=Yf;simp -implicitDefEqProofs[hk,bkA]
     refine Z91 (λi=>⟨[(41,.int .i64 i),(40,.int .i64 (nums r).length),(39,.vsl ((nums r).map ia)),(34,.int .i64 k),(33,.int .i64 (nums r).length),(5,.ptr 5 0),(4,.ptr 4 0),(0,bkA r (nums r))],
      [(15,.mp (dpA (((nums r).take i).foldl (dStep r) (dRun r k)).1)),(4,.box [.mp 15]),(16,.mp (lfA (((nums r).take i).foldl (dStep r) (dRun r k)).2)),(5,.box [.mp 16])]⟩) (λ_=>True) (nums r).length (by (first|exact Ym.tm (by simp[lk,bkA])|exact Ym.sub (by simp[lk,Ya,AV.keys,bkA]) (by simp[lk,Yc,Ya,AV.keys,bkA]))) trivial ?_ ?_
     . intro i hi _;refine Qga ?_;have w2:i64.wrap ((i:Int)+1)=((i+1:Nat):Int):=Yf;obtain ⟨s,hsd⟩:=Qex (((nums r).take i).foldl (dStep r) (dRun r k));have hI:DInv r s:=(by rw[hsd];exact (DInv.run r k).fold _);have hst:=Zb1 (dStep r) (dRun r k) (nums r) i hi;rw[<- hsd]at hst ⊢;obtain ⟨n,hne⟩:=Qex ((nums r)[i]);rw[<- hne]at hst;have hgl:=ZaM n s.2
       cases hm:decide (n∈s.2)
       . have hm':¬n∈s.2:=of_decide_eq_false hm;rw[if_neg hm']at hgl;simp -implicitDefEqProofs[hi,ia,<- hne,hgl];refine ⟨rfl,?_⟩;refine Qco (ZaG r (nums r) n) ?_;simp -implicitDefEqProofs
         refine Z5a hrd (ZaC r n (.vsl ((nums r).map ia)) hs hl) (by simp[evA,St.tmp,lk,bkA]) (by simp[AV.pure]) (λk=>k-1000) [(4,.ptr 1004 0),(5,.ptr 1005 0),(10,.ptr 1010 0),(11,.ptr 1011 0)]
          (λq=>[(1015,.mp (dpA s.1)),(1004,.box [.mp 1015]),(1016,.mp (lfA s.2)),(1005,.box [.mp 1016]),(1010,.box [.int .i64 (msN s.1 0 ((issOf r n).take q))]),(1011,.box [.bool (rdN s.2 false ((issOf r n).take q))])])
          [1015,1004,1016,1005,1010,1011] (λ_=>True) trivial (λ_=>rfl) (by simp) (by simp) (by simp[Yl,St.set,putO,AObj.ren,AV.ren,dpA,lfA,msN,rdN,W0y]) (by simp[Yc,Ya,AV.keys,dpA,lfA,lk]) (by simp[lk,AV.ren,AV.keys]) ?_ ?_
         . intro q x hx _ R' hG hN
           obtain ⟨y,hq,hy,rfl⟩ : ∃ y,∃ hq:q<(issOf r n).length,(issOf r n)[q]=y/\x = .agg (isa y):=by
            simp only[elsOf,W09,W04]at hx;obtain ⟨y,h1,h2⟩:=hx;obtain ⟨h3,h4⟩:=W02.1 h1;exact ⟨y,h3,h4,h2.symm⟩
           have hyr:y∈r:=(by rw[<- hy];exact (W0G.1 (W0e hq)).1);have hyl:=(hw.1.2 y hyr).1;unfold Sml at hyl;have tm:=ZaT s.1 0 (issOf r n) q hq;have tr:=ZaS s.2 false (issOf r n) q hq;rw[hy]at tm tr;generalize msN s.1 0 ((issOf r n).take q)=m0 at tm ⊢;generalize rdN s.2 false ((issOf r n).take q)=b0 at tr ⊢;refine Qga ?_;simp -implicitDefEqProofs[isa];intro R'' hG'' hN'';refine Qga ?_;simp -implicitDefEqProofs
           refine Z91 (λm=>⟨[(55,.int .i64 m),(54,.int .i64 y.its.length),(53,.vsl (y.its.map ita)),(12,.ptr 12 0),(4,.ptr 1004 0),(5,.ptr 1005 0),(10,.ptr 1010 0),(11,.ptr 1011 0)],
            [(1015,.mp (dpA s.1)),(1004,.box [.mp 1015]),(1016,.mp (lfA s.2)),(1005,.box [.mp 1016]),(1010,.box [.int .i64 (msIt s.1 m0 (y.its.take m))]),(1011,.box [.bool (rdIt s.2 b0 (y.its.take m))]),(12,.box (isa y))]⟩) (λ_=>True) y.its.length (by (first|exact Ym.tm (by simp[lk,isa,dpA,lfA,msIt,rdIt])|exact Ym.sub (by simp[lk,Ya,AV.keys,isa,dpA,lfA,msIt,rdIt]) (by simp[lk,Yc,Ya,AV.keys,isa,dpA,lfA,msIt,rdIt]))) trivial ?_ ?_
           . intro m hm _;refine Qga ?_;have w3:i64.wrap ((m:Int)+1)=((m+1:Nat):Int):=Yf;have um:=ZaR s.1 m0 y.its m hm;have ur:=ZaQ s.2 b0 y.its m hm;generalize msIt s.1 m0 (y.its.take m)=m1 at um ⊢;generalize rdIt s.2 b0 (y.its.take m)=b1 at ur ⊢;have gd:=ZaJ y.its[m].1 s.1;have gl:=ZaM y.its[m].1 s.2;have wkE:∀ c1 c2:Prop,c1->c2->c1/\c2:=λ_ _ a b=>⟨a,b⟩
             cases b1
             . simp only[W1F]at ur
               cases hk1:dpLk y.its[m].1 s.1 with
               | none =>
                 rw[hk1]at gd;simp only[dpG,hk1,W1T]at um;simp -implicitDefEqProofs[hm,ita,w3,gd];exact Ym.sub (by simp[lk,Ya,AV.keys]) (by simp[lk,Yc,Ya,AV.keys,dpA,lfA,um,ur,isa])
               | some v =>
                 rw[hk1]at gd;simp only[dpG,hk1,W0P]at um;simp -implicitDefEqProofs[hm,ita,w3,gd];exact Ym.sub (by simp[lk,Ya,AV.keys]) (by simp[lk,Yc,Ya,AV.keys,dpA,lfA,um,ur,isa])
             . by_cases hin:y.its[m].1∈s.2
               . rw[if_pos hin]at gl;simp only[hin,W1g,W17,Bool.and_false]at ur
                 cases hk1:dpLk y.its[m].1 s.1 with
                 | none =>
                   rw[hk1]at gd;simp only[dpG,hk1,W1T]at um;simp -implicitDefEqProofs[hm,ita,w3,gd,gl];exact Ym.sub (by simp[lk,Ya,AV.keys]) (by simp[lk,Yc,Ya,AV.keys,dpA,lfA,um,ur,isa])
                 | some v =>
                   rw[hk1]at gd;simp only[dpG,hk1,W0P]at um;simp -implicitDefEqProofs[hm,ita,w3,gd,gl];exact Ym.sub (by simp[lk,Ya,AV.keys]) (by simp[lk,Yc,Ya,AV.keys,dpA,lfA,um,ur,isa])
               . rw[if_neg hin]at gl;simp only[hin,W1u,W1z,W21]at ur
                 cases hk1:dpLk y.its[m].1 s.1 with
                 | none =>
                   rw[hk1]at gd;simp only[dpG,hk1,W1T]at um;simp -implicitDefEqProofs[hm,ita,w3,gd,gl];exact Ym.sub (by simp[lk,Ya,AV.keys]) (by simp[lk,Yc,Ya,AV.keys,dpA,lfA,um,ur,isa])
                 | some v =>
                   rw[hk1]at gd;simp only[dpG,hk1,W0P]at um;simp -implicitDefEqProofs[hm,ita,w3,gd,gl];exact Ym.sub (by simp[lk,Ya,AV.keys]) (by simp[lk,Yc,Ya,AV.keys,dpA,lfA,um,ur,isa])
           . intro _;refine Qga ?_;simp -implicitDefEqProofs;refine Qgr ?_;simp -implicitDefEqProofs[RndB,Yi,newK,frzO,frzA,frz,AV.keys,tm,tr,dpA,lfA,W0y]
             try trivial
         . intro _;have hel:(elsOf r n).length=(issOf r n).length:=(by simp[elsOf,issOf]);have etk:(issOf r n).take (issOf r n).length=issOf r n:=W0J (W0f _);have hbd:=Zb0 hI (issOf r n) 0 (W1R _) (by omega);have hlen:=hI.len;have w4:i64.wrap (msN s.1 0 (issOf r n)+1)=msN s.1 0 (issOf r n)+1:=Yf;have rdpA:∀ dp,AObj.ren (λk=>k-1000) (.mp (dpA dp)) = .mp (dpA dp):=λdp=>by simp[AObj.ren,dpA,AV.ren,W0y]
           have rlfA:∀ lf,AObj.ren (λk=>k-1000) (.mp (lfA lf)) = .mp (lfA lf):=λlf=>by simp[AObj.ren,lfA,AV.ren,W0y]
           have rbx:∀ cs,AObj.ren (λk=>k-1000) (.box cs) = .box (cs.map (AV.ren λk=>k-1000)):=λ_=>rfl
           cases hrd2:rdN s.2 false (issOf r n)
           . have hst2:dStep r s n=s:=(by simp[dStep,hm,hrd2]);rw[hst2]at hst;simp -implicitDefEqProofs[Yl,rdpA,rlfA,rbx,AV.ren,hel,etk,hrd2];refine Qgr ?_;simp -implicitDefEqProofs[w2];rw[hst];exact Ym.sub (by simp[lk,Ya,AV.keys,bkA]) (by simp[lk,Yc,Ya,AV.keys,dpA,lfA])
           . have hmem:n∈s.2:=ZaW (by rw[hm];exact hrd2);have hst2:dStep r s n=(s.1++[(n,msN s.1 0 (issOf r n)+1)],s.2.erase n):=(by simp[dStep,hm,hrd2]);rw[hst2]at hst
             have hnk:n ∉ s.1.map (·.1):=λhin=>by
              have:=(List.nodup_append.1 (hI.perm.nodup_iff.2 hnd)).2.2 n hin n hmem;exact this rfl
             have pd:=ZaK (msN s.1 0 (issOf r n)+1) hnk;have dl:=ZaP hmem;simp -implicitDefEqProofs[Yl,rdpA,rlfA,rbx,AV.ren,hel,etk,hrd2];refine Qgr ?_;simp -implicitDefEqProofs[w2,w4,pd,dl];rw[hst];exact Ym.sub (by simp[lk,Ya,AV.keys,bkA]) (by simp[lk,Yc,Ya,AV.keys,dpA,lfA])
       . have hm':n∈s.2:=W0X hm;rw[if_pos hm']at hgl;simp -implicitDefEqProofs[hi,ia,<- hne,hgl];refine ⟨rfl,?_⟩;refine Qco (ZaG r (nums r) n) ?_;simp -implicitDefEqProofs
         refine Z5a hrd (ZaC r n (.vsl ((nums r).map ia)) hs hl) (by simp[evA,St.tmp,lk,bkA]) (by simp[AV.pure]) (λk=>k-1000) [(4,.ptr 1004 0),(5,.ptr 1005 0),(10,.ptr 1010 0),(11,.ptr 1011 0)]
          (λq=>[(1015,.mp (dpA s.1)),(1004,.box [.mp 1015]),(1016,.mp (lfA s.2)),(1005,.box [.mp 1016]),(1010,.box [.int .i64 (msN s.1 0 ((issOf r n).take q))]),(1011,.box [.bool (rdN s.2 true ((issOf r n).take q))])])
          [1015,1004,1016,1005,1010,1011] (λ_=>True) trivial (λ_=>rfl) (by simp) (by simp) (by simp[Yl,St.set,putO,AObj.ren,AV.ren,dpA,lfA,msN,rdN,W0y]) (by simp[Yc,Ya,AV.keys,dpA,lfA,lk]) (by simp[lk,AV.ren,AV.keys]) ?_ ?_
         . intro q x hx _ R' hG hN
           obtain ⟨y,hq,hy,rfl⟩ : ∃ y,∃ hq:q<(issOf r n).length,(issOf r n)[q]=y/\x = .agg (isa y):=by
            simp only[elsOf,W09,W04]at hx;obtain ⟨y,h1,h2⟩:=hx;obtain ⟨h3,h4⟩:=W02.1 h1;exact ⟨y,h3,h4,h2.symm⟩
           have hyr:y∈r:=(by rw[<- hy];exact (W0G.1 (W0e hq)).1);have hyl:=(hw.1.2 y hyr).1;unfold Sml at hyl;have tm:=ZaT s.1 0 (issOf r n) q hq;have tr:=ZaS s.2 true (issOf r n) q hq;rw[hy]at tm tr;generalize msN s.1 0 ((issOf r n).take q)=m0 at tm ⊢;generalize rdN s.2 true ((issOf r n).take q)=b0 at tr ⊢;refine Qga ?_;simp -implicitDefEqProofs[isa];intro R'' hG'' hN'';refine Qga ?_;simp -implicitDefEqProofs
           refine Z91 (λm=>⟨[(55,.int .i64 m),(54,.int .i64 y.its.length),(53,.vsl (y.its.map ita)),(12,.ptr 12 0),(4,.ptr 1004 0),(5,.ptr 1005 0),(10,.ptr 1010 0),(11,.ptr 1011 0)],
            [(1015,.mp (dpA s.1)),(1004,.box [.mp 1015]),(1016,.mp (lfA s.2)),(1005,.box [.mp 1016]),(1010,.box [.int .i64 (msIt s.1 m0 (y.its.take m))]),(1011,.box [.bool (rdIt s.2 b0 (y.its.take m))]),(12,.box (isa y))]⟩) (λ_=>True) y.its.length (by (first|exact Ym.tm (by simp[lk,isa,dpA,lfA,msIt,rdIt])|exact Ym.sub (by simp[lk,Ya,AV.keys,isa,dpA,lfA,msIt,rdIt]) (by simp[lk,Yc,Ya,AV.keys,isa,dpA,lfA,msIt,rdIt]))) trivial ?_ ?_
           . intro m hm _;refine Qga ?_;have w3:i64.wrap ((m:Int)+1)=((m+1:Nat):Int):=Yf;have um:=ZaR s.1 m0 y.its m hm;have ur:=ZaQ s.2 b0 y.its m hm;generalize msIt s.1 m0 (y.its.take m)=m1 at um ⊢;generalize rdIt s.2 b0 (y.its.take m)=b1 at ur ⊢;have gd:=ZaJ y.its[m].1 s.1;have gl:=ZaM y.its[m].1 s.2;have wkE:∀ c1 c2:Prop,c1->c2->c1/\c2:=λ_ _ a b=>⟨a,b⟩
             cases b1
             . simp only[W1F]at ur
               cases hk1:dpLk y.its[m].1 s.1 with
               | none =>
                 rw[hk1]at gd;simp only[dpG,hk1,W1T]at um;simp -implicitDefEqProofs[hm,ita,w3,gd];exact Ym.sub (by simp[lk,Ya,AV.keys]) (by simp[lk,Yc,Ya,AV.keys,dpA,lfA,um,ur,isa])
               | some v =>
                 rw[hk1]at gd;simp only[dpG,hk1,W0P]at um;simp -implicitDefEqProofs[hm,ita,w3,gd];exact Ym.sub (by simp[lk,Ya,AV.keys]) (by simp[lk,Yc,Ya,AV.keys,dpA,lfA,um,ur,isa])
             . by_cases hin:y.its[m].1∈s.2
               . rw[if_pos hin]at gl;simp only[hin,W1g,W17,Bool.and_false]at ur
                 cases hk1:dpLk y.its[m].1 s.1 with
                 | none =>
                   rw[hk1]at gd;simp only[dpG,hk1,W1T]at um;simp -implicitDefEqProofs[hm,ita,w3,gd,gl];exact Ym.sub (by simp[lk,Ya,AV.keys]) (by simp[lk,Yc,Ya,AV.keys,dpA,lfA,um,ur,isa])
                 | some v =>
                   rw[hk1]at gd;simp only[dpG,hk1,W0P]at um;simp -implicitDefEqProofs[hm,ita,w3,gd,gl];exact Ym.sub (by simp[lk,Ya,AV.keys]) (by simp[lk,Yc,Ya,AV.keys,dpA,lfA,um,ur,isa])
               . rw[if_neg hin]at gl;simp only[hin,W1u,W1z,W21]at ur
                 cases hk1:dpLk y.its[m].1 s.1 with
                 | none =>
                   rw[hk1]at gd;simp only[dpG,hk1,W1T]at um;simp -implicitDefEqProofs[hm,ita,w3,gd,gl];exact Ym.sub (by simp[lk,Ya,AV.keys]) (by simp[lk,Yc,Ya,AV.keys,dpA,lfA,um,ur,isa])
                 | some v =>
                   rw[hk1]at gd;simp only[dpG,hk1,W0P]at um;simp -implicitDefEqProofs[hm,ita,w3,gd,gl];exact Ym.sub (by simp[lk,Ya,AV.keys]) (by simp[lk,Yc,Ya,AV.keys,dpA,lfA,um,ur,isa])
           . intro _;refine Qga ?_;simp -implicitDefEqProofs;refine Qgr ?_;simp -implicitDefEqProofs[RndB,Yi,newK,frzO,frzA,frz,AV.keys,tm,tr,dpA,lfA,W0y]
             try trivial
         . intro _;have hel:(elsOf r n).length=(issOf r n).length:=(by simp[elsOf,issOf]);have etk:(issOf r n).take (issOf r n).length=issOf r n:=W0J (W0f _);have hbd:=Zb0 hI (issOf r n) 0 (W1R _) (by omega);have hlen:=hI.len;have w4:i64.wrap (msN s.1 0 (issOf r n)+1)=msN s.1 0 (issOf r n)+1:=Yf;have rdpA:∀ dp,AObj.ren (λk=>k-1000) (.mp (dpA dp)) = .mp (dpA dp):=λdp=>by simp[AObj.ren,dpA,AV.ren,W0y]
           have rlfA:∀ lf,AObj.ren (λk=>k-1000) (.mp (lfA lf)) = .mp (lfA lf):=λlf=>by simp[AObj.ren,lfA,AV.ren,W0y]
           have rbx:∀ cs,AObj.ren (λk=>k-1000) (.box cs) = .box (cs.map (AV.ren λk=>k-1000)):=λ_=>rfl
           cases hrd2:rdN s.2 true (issOf r n)
           . have hst2:dStep r s n=s:=(by simp[dStep,hm,hrd2]);rw[hst2]at hst;simp -implicitDefEqProofs[Yl,rdpA,rlfA,rbx,AV.ren,hel,etk,hrd2];refine Qgr ?_;simp -implicitDefEqProofs[w2];rw[hst];exact Ym.sub (by simp[lk,Ya,AV.keys,bkA]) (by simp[lk,Yc,Ya,AV.keys,dpA,lfA])
           . have hmem:n∈s.2:=ZaW (by rw[hm];exact hrd2);have hst2:dStep r s n=(s.1++[(n,msN s.1 0 (issOf r n)+1)],s.2.erase n):=(by simp[dStep,hm,hrd2]);rw[hst2]at hst
             have hnk:n ∉ s.1.map (·.1):=λhin=>by
              have:=(List.nodup_append.1 (hI.perm.nodup_iff.2 hnd)).2.2 n hin n hmem;exact this rfl
             have pd:=ZaK (msN s.1 0 (issOf r n)+1) hnk;have dl:=ZaP hmem;simp -implicitDefEqProofs[Yl,rdpA,rlfA,rbx,AV.ren,hel,etk,hrd2];refine Qgr ?_;simp -implicitDefEqProofs[w2,w4,pd,dl];rw[hst];exact Ym.sub (by simp[lk,Ya,AV.keys,bkA]) (by simp[lk,Yc,Ya,AV.keys,dpA,lfA])
     . intro _;refine Qga ?_;have etk:(nums r).take (nums r).length=nums r:=W0J (W0f _);simp -implicitDefEqProofs;refine Qgr ?_;have e:(nums r).foldl (dStep r) (dRun r k)=dRun r (k+1):=rfl;simp -implicitDefEqProofs[w1,e];exact Ym.sub (by simp[lk,Ya,AV.keys,bkA]) (by simp[lk,Yc,Ya,AV.keys,dpA,lfA])
   . intro _;refine Qga ?_;simp -implicitDefEqProofs;refine Qgr ?_;have hla:(lfA (dRun r (nums r).length).2).length=(dRun r (nums r).length).2.length:=(by simp[lfA]);have hpu:(dpA (dRun r (nums r).length).1).all (λp=>p.1.pure&&p.2.pure)=true:=(by simp[dpA,AV.pure]);simp -implicitDefEqProofs[hla,hpu]
def FinZ (rs:List RRes) (v:AV):Exit->St->Prop
 |.normal,st | .ret,st=>∃ xs ys,Z29 st rs=some xs/\Yj (snap st) xs=some ys/\v=nz (tupV ys)
 |_,_=>False
def Zb3 {P:Program} {G:Jg} {f:FuncId} {fn:Func} {c:Code} {rc:RCode} {rs:List RRes} {args:List AV} {v:AV} (hf:P.funcs[f]? = some fn) (hb:fn.body=some c) (he:entB P f=true)
  (hc:Z1A P fn.ntmps c rc=true) (hrs:allB2 (okRes P) fn.results.toList rs=true) (hn:args.length<=fn.ntmps)
  (h:∀ R:Run,R.N=fn.ntmps->R.G=G->R.Top->AR P R rc (Z2a args) (FinZ rs v)):PC P G f args v:=by
 refine ⟨he,λM W vs hM hG hsz hvs=>?_⟩;refine callsIn_wide.1 (callsIn_of_wp_marks (F:=FW none) (n:=1) hf hb trivial ?_)
 let R:Run:={ G:=G,M:=M,X:=λ_=>False,W0:=W,N:=fn.ntmps,E0:={ M:=M,loc:=λ_=>none,row:=λ_=>none } }
 have h0:SK R (Z2a args) { tmps:=vs++Array.replicate (fn.ntmps-vs.size) Go.undef,defers:=[] } W (λ_=>none):=by
  have hGM:∀ b,b<W.heap.size->¬M b->¬((Z2a args).env M (λ_=>none)).M b/\W.heap[b]? = W.heap[b]?:=λb _ h1=>⟨(by rintro (h2 | ⟨k,s,h2⟩) <;> first|exact h1 h2|cases h2),rfl⟩
  refine ⟨.nil _ _ _ _,by show (vs++_).size=fn.ntmps;simp;omega,λn x hx=>?_,(λk o ho=>by simp[Z2a,St.get,lk]at ho),(λk p hk=>by cases hk),(λk k' b s s' hk=>by cases hk),hM,λ_ _ h=>h,Kp.refl _ _,hG.mono hGM (W0f _),⟨W0f _,hGM,λk p hk=>(by cases hk),λk sz m hk=>(by cases hk)⟩,λ_ _=>⟨rfl,rfl⟩⟩;simp only[Z2a,St.tmp,Z2b,W1e,if_true,W1P]at hx;show VR _ W x ((vs++Array.replicate (fn.ntmps-vs.size) Go.undef).getD n Go.undef);rw[W0a,W0W];have c1:n<args.length:=(W02.1 hx).1;rw[if_pos (by omega)];have:vs[n]? = some vs[n]:=(by simp);rw[this];exact .pv ((hvs n x _ hx this).mono hGM (W0f _))
 refine wpIn_mono (h R rfl rfl ⟨rfl,rfl⟩ c hc 1 _ W ⟨_,h0⟩) ?_
 have key:∀ (a':Act) (W':World) (st':St),(∃ xs ys,Z29 st' rs=some xs/\Yj (snap st') xs=some ys/\v=nz (tupV ys))->SR R st' a' W' ->
   ∃ u,(results fn a'.tmps).run P W' = .ok u W'/\∃ u',Ending.returned u = .returned u'/\PV M W' v u'/\Ext W W':=by
  rintro a' W' st' ⟨xs,ys,h1,h2,rfl⟩ ⟨κ,hk⟩;obtain ⟨us,h3,h4⟩:=Z2d (P:=P) hk hrs h1;obtain ⟨h5,h6⟩:=Z1R h2;have hE:Ext W W':=⟨hk.kp.os,hk.kp.tape,hk.kp.output,hk.kp.size,λi hi=>hk.kp.block i hi (λh=>h)⟩
  have hp:∀ (i:Nat) (y:AV) (u:Value),ys[i]? = some y->us[i]? = some u->PV M W' y u:=λi y u hy hu=>by
   obtain ⟨x,h7,h8⟩:=h6 i y hy;exact Z1T hk (h4.2 i x u h7 hu) h8
  have hl:us.length=ys.length:=(by have:=h4.1;omega);refine ⟨(if h:us.toArray.size=1 then us.toArray[0] else .tuple us.toArray),?_,_,rfl,PV.nz ?_,hE⟩
  . unfold results;rw[Sem.run_bind]
    have:(fn.results.mapM λrv=>(match rv with
     |.tmp t=>pure (a'.tmps.getD t Go.undef)
     |.cell p t=>do loadVar t (<- asAddr (a'.tmps.getD p Go.undef)):Sem Value)).run P W' = .ok us.toArray W':=by
     rw[W1K,Sem.run_map];exact congrArg (λz=>Result.andThen z (λa w'=>Result.ok a.toArray w')) h3
    erw [this]
    rfl
  . match ys,us,hl,hp with
    |[],[],_,_=>exact .tup [] _ rfl (by simp)
    |[y],[u],_,hp=>exact hp 0 y u rfl rfl
    | y::y2::ys,u::u2::us,hl,hp =>
      rw[dif_neg (by simp)];exact .tup _ _ (by simpa using hl) (λi x w hx hw=>hp i x w hx (by simpa using hw))
 rintro e a' W' ⟨st',h1,κ,h2⟩
 cases e <;> try (exact h1.elim)
 all_goals
  refine h2.leave (by simp) rfl λa2 W2 ht hs2=>?_
  have:=key a2 W2 st' h1 ⟨κ,hs2⟩;rw[ht]at this;exact this
def Zb4 (l:List (Int×Int)):∀ r∈l.map ita,∀ x∈r,x.flat=true:=by
 intro r hr x hx;obtain ⟨p,-,rfl⟩:=W0i.1 hr;simp only[ita,W0g,W0Q,or_false]at hx;rcases hx with rfl|rfl <;> simp[AV.flat]
def Zb5 (l:List (Int×Int)):∀ r∈l.map ita,∀ x∈r,x.pure=true:=by
 intro r hr x hx;obtain ⟨p,-,rfl⟩:=W0i.1 hr;simp only[ita,W0g,W0Q,or_false]at hx;rcases hx with rfl|rfl <;> simp[AV.pure]
def Zb6 (l:List Dm):∀ r∈l.map dma,∀ x∈r,x.flat=true:=by
 intro r hr x hx;obtain ⟨p,-,rfl⟩:=W0i.1 hr;simp only[dma,W0g,W0Q,or_false]at hx;rcases hx with rfl|rfl|rfl <;> simp[AV.flat]
def Zb7 (l:List Dm):∀ r∈l.map dma,∀ x∈r,x.pure=true:=by
 intro r hr x hx;obtain ⟨p,-,rfl⟩:=W0i.1 hr;simp only[dma,W0g,W0Q,or_false]at hx;rcases hx with rfl|rfl|rfl <;> simp[AV.pure]
def Zb8 (l:List (Int×Int)) (hne:l≠[]) (hl:Sml l):PN prog G 67 [.vsl (l.map ita)] 2 (l.map ita):=by
 refine PN_of (Zb4 l) (Zb5 l) Tryd.func67 rfl (by kernel_rfl) (rc:=Z83) (by kernel_rfl) (rs:=Z84) (by kernel_rfl) (W0C rfl) λR _ hG hrd=>Qga ?_
 unfold Sml at hl;have b1:l.length*16<=70368744177664:=(by omega);have h0:¬l.length=0:=λe=>hne (W0l.1 e)
 have k1:(l.map ita).all (λr=>r.length == 2)=true:=(by simp[ita]);have k2:(l.map ita).all (λr=>r.all AV.one)=true:=(by simp[ita,AV.one]);have k5:(l.map ita).all (λr=>r.all AV.pure)=true:=(by simp[ita,AV.pure]);simp -implicitDefEqProofs[Z83,Z84,h0,hne,b1,k1,k2,k5,FinN]
def Zb9 (l:List Dm) (hne:l≠[]) (hl:Sml l):PN prog G 68 [.vsl (l.map dma)] 3 (l.map dma):=by
 refine PN_of (Zb6 l) (Zb7 l) Tryd.func68 rfl (by kernel_rfl) (rc:=Z85) (by kernel_rfl) (rs:=Z86) (by kernel_rfl) (W0C rfl) λR _ hG hrd=>Qga ?_
 unfold Sml at hl;have b1:l.length*24<=70368744177664:=(by omega);have h0:¬l.length=0:=λe=>hne (W0l.1 e)
 have k1:(l.map dma).all (λr=>r.length == 3)=true:=(by simp[dma]);have k2:(l.map dma).all (λr=>r.all AV.one)=true:=(by simp[dma,AV.one]);have k5:(l.map dma).all (λr=>r.all AV.pure)=true:=(by simp[dma,AV.pure]);simp -implicitDefEqProofs[Z85,Z86,h0,hne,b1,k1,k2,k5,FinN]
def Zba:PC prog G 67 [.vsl []] (.vsl []):=by
 refine Zb3 Tryd.func67 rfl (by kernel_rfl) (rc:=Z83) (by kernel_rfl) (rs:=Z84) (by kernel_rfl) (W0C rfl) λR _ hG hrd=>Qga ?_
 simp -implicitDefEqProofs[Z83,Z84,FinZ,nz]
def Zbb:PC prog G 68 [.vsl []] (.vsl []):=by
 refine Zb3 Tryd.func68 rfl (by kernel_rfl) (rc:=Z85) (by kernel_rfl) (rs:=Z86) (by kernel_rfl) (W0C rfl) λR _ hG hrd=>Qga ?_
 simp -implicitDefEqProofs[Z85,Z86,FinZ,nz]
def GC (G:Jg):Prop:=G 0=some [.func (.func 122) [] [],.func (.func 123) [] [],.func (.func 124) [] [],.func (.func 125) [] []]
def ckN (x:Iss):Nat->Bool
 |0=>ck1 x
 |1=>ck2 x
 |2=>ck3 x
 |_=>ck4 x
def Zbc {x:Iss} (h:∀ j,j<4->ckN x j=true):issB x=true:=by
 rw[Za6,show ck1 x=true from h 0 (by omega),show ck2 x=true from h 1 (by omega),show ck3 x=true from h 2 (by omega),show ck4 x=true from h 3 (by omega)];rfl
def Zbd {x:Iss} {j:Nat} (hj:j<4) (h:ckN x j=false):issB x=false:=by
 rw[Za6];have:j=0∨j=1∨j=2∨j=3:=(by omega);rcases this with rfl|rfl|rfl|rfl <;> simp only[ckN]at h <;> simp[h]
def openV (r:Jr):Int:=if Z9o r=true then
    if 0<(dRun r (nums r).length).2.length then 21 else if (∃ p∈(dRun r (nums r).length).1,6<p.2) then 20 else 0
 else 20
def openA (r:Jr):AV:=.tup [if openV r=0 then bkA r (nums r) else .nilp,.int .i64 (openV r)]
def Zbe {r:Jr} (h:Z9o r=false):openA r = .tup [.nilp,.int .i64 20]:=by simp[openA,openV,h]
def opS (r:Jr):Nat->St
 |0=>⟨[(28,.int .i64 0),(27,.int .i64 r.length),(26,.vsl (r.map isa)),(1,.ptr 1 0),(4,.ptr 4 0)],[(1,.box [.vsl (r.map isa)]),(4,.box [.ptr 18 0]),(18,.box [.vsl (r.map isa),.nils])]⟩
 |i+1=>⟨[(28,.int .i64 (i+1:Nat)),(27,.int .i64 r.length),(26,.vsl (r.map isa)),(1,.ptr 1 0),(4,.ptr 4 0)],[(1,.box [.vsl (r.map isa)]),(4,.box [.ptr 18 0]),(18,.box [.vsl (r.map isa),.osl 85 (numsN r (i+1)).length]),(85,.row 1 ((numsN r (i+1)).map ia))]⟩
def opT (r:Jr) (k:Nat):St:=⟨[(98,.int .i64 k),(97,.int .i64 r.length),(96,.vsl (r.map isa)),(4,.vptr [bkA r (nums r)] 0)],[]⟩
def opJ (r:Jr) (i:Nat) (x:Iss) (j:Nat):St:=⟨[(34,.int .i64 j),(33,.agg [.func (.func 122) [] [],.func (.func 123) [] [],.func (.func 124) [] [],.func (.func 125) [] []]),(5,.int .i64 i),(6,.ptr 6 0)]++(opS r i).t,(opS r i).o++[(6,.box (isa x))]⟩
def Zbf {x:Iss} {j:Nat} (hc:∀ k,k<j->ckN x k=true) (h:ckN x j=true):∀ k,k<j+1->ckN x k=true:=λk hk=>by
 by_cases e:k=j
 . rw[e];exact h
 . exact hc k (by omega)
set_option maxRecDepth 4000 in
def Zbg (hG:GC G) (r:Jr) (h:Wf r):PC prog G 53 [rega r] (openA r):=by
 (refine Z6A rfl λR hG hrd=>Qga ?_;subst hG)
 unfold GC at hG;have hs:=h.1.1;unfold Sml at hs;simp -implicitDefEqProofs[Z6y,Z6z,rega];refine Yd.flat (Za3 1 60 r.length) (by simp[AV.flat]) (by simp) ?_
 cases q1:inR r.length 1 60
 . simp -implicitDefEqProofs[Zbe (r:=r) (by simp[Z9o,q1])]
 have q1':1<=r.length/\r.length<=60:=by
  have:=W0X q1;omega
 simp -implicitDefEqProofs;refine Z91 (opS r) (λi=>∀ j (h:j<r.length),j<i->issB r[j]=true/\ordB r j=true) r.length (by simp only[opS];(first|exact Wka|exact Wkb)) (by simp) ?_ ?_
 . intro i hi he;refine Qga ?_;have w1:i64.wrap ((i:Int)+1)=((i+1:Nat):Int):=Yf;have a1:=at_eq hi;have hx:=h.1.2 r[i] (W0e hi);have hk:=h.2 r[i] (W0e hi);have a1:=at_eq hi
   cases i with
   | zero =>
     simp -implicitDefEqProofs[opS,hi,isa,hG];refine Z91 (opJ r (0) r[0]) (λj=>∀ k,k<j->ckN r[0] k=true) 4 (by simp only[opJ,opS];(first|exact Ym.tm (by simp[lk,isa,ia])|exact Ym.sub (by simp[lk,Ya,AV.keys,isa,ia]) (by simp[lk,Yc,Ya,AV.keys,isa,ia]))) (by simp) ?_ ?_
     . intro j hj hc;refine Qga ?_;rcases (show j=0∨j=1∨j=2∨j=3 by omega) with rfl|rfl|rfl|rfl
       . have v0:i64.wrap 1=1:=rfl;simp -implicitDefEqProofs[opJ,opS,isa];refine Qco (Za7 r[0]) ?_
         cases q:ck1 r[0]
         . simp -implicitDefEqProofs;refine Qgr ?_;simp -implicitDefEqProofs;refine Qgr ?_;simp -implicitDefEqProofs[Zbe (Z9p hi (Zbd (j:=0) (by omega) q))]
         . simp -implicitDefEqProofs[v0]
           first|exact ⟨(by (first|exact Ym.tm (by simp[lk,opJ,opS,isa,ia])|exact Ym.sub (by simp[lk,Ya,AV.keys,opJ,opS,isa,ia]) (by simp[lk,Yc,Ya,AV.keys,opJ,opS,isa,ia]))),Zbf hc q⟩|exact ⟨(by (first|exact Ym.tm (by simp[lk,opJ,opS,isa,ia])|exact Ym.sub (by simp[lk,Ya,AV.keys,opJ,opS,isa,ia]) (by simp[lk,Yc,Ya,AV.keys,opJ,opS,isa,ia]))),q⟩
       . have v1:i64.wrap 2=2:=rfl;simp -implicitDefEqProofs[opJ,opS,isa];refine Qco (Za8 r[0] hk) ?_
         cases q:ck2 r[0]
         . simp -implicitDefEqProofs;refine Qgr ?_;simp -implicitDefEqProofs;refine Qgr ?_;simp -implicitDefEqProofs[Zbe (Z9p hi (Zbd (j:=1) (by omega) q))]
         . simp -implicitDefEqProofs[v1]
           first|exact ⟨(by (first|exact Ym.tm (by simp[lk,opJ,opS,isa,ia])|exact Ym.sub (by simp[lk,Ya,AV.keys,opJ,opS,isa,ia]) (by simp[lk,Yc,Ya,AV.keys,opJ,opS,isa,ia]))),Zbf hc q⟩|exact ⟨(by (first|exact Ym.tm (by simp[lk,opJ,opS,isa,ia])|exact Ym.sub (by simp[lk,Ya,AV.keys,opJ,opS,isa,ia]) (by simp[lk,Yc,Ya,AV.keys,opJ,opS,isa,ia]))),q⟩
       . have v2:i64.wrap 3=3:=rfl;simp -implicitDefEqProofs[opJ,opS,isa];refine Qco (Za9 r[0] hx.1) ?_
         cases q:ck3 r[0]
         . simp -implicitDefEqProofs;refine Qgr ?_;simp -implicitDefEqProofs;refine Qgr ?_;simp -implicitDefEqProofs[Zbe (Z9p hi (Zbd (j:=2) (by omega) q))]
         . simp -implicitDefEqProofs[v2]
           first|exact ⟨(by (first|exact Ym.tm (by simp[lk,opJ,opS,isa,ia])|exact Ym.sub (by simp[lk,Ya,AV.keys,opJ,opS,isa,ia]) (by simp[lk,Yc,Ya,AV.keys,opJ,opS,isa,ia]))),Zbf hc q⟩|exact ⟨(by (first|exact Ym.tm (by simp[lk,opJ,opS,isa,ia])|exact Ym.sub (by simp[lk,Ya,AV.keys,opJ,opS,isa,ia]) (by simp[lk,Yc,Ya,AV.keys,opJ,opS,isa,ia]))),q⟩
       . have v3:i64.wrap 4=4:=rfl;simp -implicitDefEqProofs[opJ,opS,isa];refine Qco (Zab r[0] hx.2) ?_
         cases q:ck4 r[0]
         . simp -implicitDefEqProofs;refine Qgr ?_;simp -implicitDefEqProofs;refine Qgr ?_;simp -implicitDefEqProofs[Zbe (Z9p hi (Zbd (j:=3) (by omega) q))]
         . simp -implicitDefEqProofs[v3]
           first|exact ⟨(by (first|exact Ym.tm (by simp[lk,opJ,opS,isa,ia])|exact Ym.sub (by simp[lk,Ya,AV.keys,opJ,opS,isa,ia]) (by simp[lk,Yc,Ya,AV.keys,opJ,opS,isa,ia]))),Zbf hc q⟩|exact ⟨(by (first|exact Ym.tm (by simp[lk,opJ,opS,isa,ia])|exact Ym.sub (by simp[lk,Ya,AV.keys,opJ,opS,isa,ia]) (by simp[lk,Yc,Ya,AV.keys,opJ,opS,isa,ia]))),q⟩
     . intro hc;refine Qga ?_;have p1:issB r[0]=true:=Zbc hc;simp -implicitDefEqProofs[opJ,opS,isa];refine Qgr ?_;by_cases p3:r[0].l=1
       . have hn:numsN r 1=[r[0].d]:=(by simp[numsN,newB,a1]);have ok:ordB r 0=true:=(by simp[ordB,a1,p3]);have w0:i64.wrap 1=1:=rfl;simp -implicitDefEqProofs[p3,w0];exact ⟨rfl,(by (first|exact Ym.tm (by simp[lk,opS,hn,ia])|exact Ym.sub (by simp[lk,Ya,AV.keys,opS,hn,ia]) (by simp[lk,Yc,Ya,AV.keys,opS,hn,ia]))),λj q1 q2=>by subst q2;exact ⟨p1,ok⟩⟩
       . simp -implicitDefEqProofs[p3];refine Qgr ?_;simp -implicitDefEqProofs[Zbe (Z9q hi (by simp[ordB,a1,p3]))]
   | succ i =>
     have k1:(i:Int)+1<r.length:=(by omega);have k2:((i:Int)+1).toNat=i+1:=(by omega);have k3:(0:Int)<=(i:Int)+1:=(by omega);simp -implicitDefEqProofs[opS,hi,isa,hG,k1,k2,k3];refine Z91 (opJ r (i+1) r[i+1]) (λj=>∀ k,k<j->ckN r[i+1] k=true) 4 (by simp only[opJ,opS];(first|exact Ym.tm (by simp[lk,isa,ia])|exact Ym.sub (by simp[lk,Ya,AV.keys,isa,ia]) (by simp[lk,Yc,Ya,AV.keys,isa,ia]))) (by simp) ?_ ?_
     . intro j hj hc;refine Qga ?_;rcases (show j=0∨j=1∨j=2∨j=3 by omega) with rfl|rfl|rfl|rfl
       . have v0:i64.wrap 1=1:=rfl;simp -implicitDefEqProofs[opJ,opS,isa];refine Qco (Za7 r[i+1]) ?_
         cases q:ck1 r[i+1]
         . simp -implicitDefEqProofs;refine Qgr ?_;simp -implicitDefEqProofs;refine Qgr ?_;simp -implicitDefEqProofs[Zbe (Z9p hi (Zbd (j:=0) (by omega) q))]
         . simp -implicitDefEqProofs[v0]
           first|exact ⟨(by (first|exact Ym.tm (by simp[lk,opJ,opS,isa,ia])|exact Ym.sub (by simp[lk,Ya,AV.keys,opJ,opS,isa,ia]) (by simp[lk,Yc,Ya,AV.keys,opJ,opS,isa,ia]))),Zbf hc q⟩|exact ⟨(by (first|exact Ym.tm (by simp[lk,opJ,opS,isa,ia])|exact Ym.sub (by simp[lk,Ya,AV.keys,opJ,opS,isa,ia]) (by simp[lk,Yc,Ya,AV.keys,opJ,opS,isa,ia]))),q⟩
       . have v1:i64.wrap 2=2:=rfl;simp -implicitDefEqProofs[opJ,opS,isa];refine Qco (Za8 r[i+1] hk) ?_
         cases q:ck2 r[i+1]
         . simp -implicitDefEqProofs;refine Qgr ?_;simp -implicitDefEqProofs;refine Qgr ?_;simp -implicitDefEqProofs[Zbe (Z9p hi (Zbd (j:=1) (by omega) q))]
         . simp -implicitDefEqProofs[v1]
           first|exact ⟨(by (first|exact Ym.tm (by simp[lk,opJ,opS,isa,ia])|exact Ym.sub (by simp[lk,Ya,AV.keys,opJ,opS,isa,ia]) (by simp[lk,Yc,Ya,AV.keys,opJ,opS,isa,ia]))),Zbf hc q⟩|exact ⟨(by (first|exact Ym.tm (by simp[lk,opJ,opS,isa,ia])|exact Ym.sub (by simp[lk,Ya,AV.keys,opJ,opS,isa,ia]) (by simp[lk,Yc,Ya,AV.keys,opJ,opS,isa,ia]))),q⟩
       . have v2:i64.wrap 3=3:=rfl;simp -implicitDefEqProofs[opJ,opS,isa];refine Qco (Za9 r[i+1] hx.1) ?_
         cases q:ck3 r[i+1]
         . simp -implicitDefEqProofs;refine Qgr ?_;simp -implicitDefEqProofs;refine Qgr ?_;simp -implicitDefEqProofs[Zbe (Z9p hi (Zbd (j:=2) (by omega) q))]
         . simp -implicitDefEqProofs[v2]
           first|exact ⟨(by (first|exact Ym.tm (by simp[lk,opJ,opS,isa,ia])|exact Ym.sub (by simp[lk,Ya,AV.keys,opJ,opS,isa,ia]) (by simp[lk,Yc,Ya,AV.keys,opJ,opS,isa,ia]))),Zbf hc q⟩|exact ⟨(by (first|exact Ym.tm (by simp[lk,opJ,opS,isa,ia])|exact Ym.sub (by simp[lk,Ya,AV.keys,opJ,opS,isa,ia]) (by simp[lk,Yc,Ya,AV.keys,opJ,opS,isa,ia]))),q⟩
       . have v3:i64.wrap 4=4:=rfl;simp -implicitDefEqProofs[opJ,opS,isa];refine Qco (Zab r[i+1] hx.2) ?_
         cases q:ck4 r[i+1]
         . simp -implicitDefEqProofs;refine Qgr ?_;simp -implicitDefEqProofs;refine Qgr ?_;simp -implicitDefEqProofs[Zbe (Z9p hi (Zbd (j:=3) (by omega) q))]
         . simp -implicitDefEqProofs[v3]
           first|exact ⟨(by (first|exact Ym.tm (by simp[lk,opJ,opS,isa,ia])|exact Ym.sub (by simp[lk,Ya,AV.keys,opJ,opS,isa,ia]) (by simp[lk,Yc,Ya,AV.keys,opJ,opS,isa,ia]))),Zbf hc q⟩|exact ⟨(by (first|exact Ym.tm (by simp[lk,opJ,opS,isa,ia])|exact Ym.sub (by simp[lk,Ya,AV.keys,opJ,opS,isa,ia]) (by simp[lk,Yc,Ya,AV.keys,opJ,opS,isa,ia]))),q⟩
     . intro hc;refine Qga ?_;have p1:issB r[i+1]=true:=Zbc hc;simp -implicitDefEqProofs[opJ,opS,isa];refine Qgr ?_;have w2:i64.wrap (i:Int)=(i:Int):=Yf;have w3:i64.wrap ((i:Int)+1+1)=(i:Int)+1+1:=Yf;have k3:(0:Int)<(i:Int)+1:=(by omega);have hi2:i<r.length:=(by omega);have a2:=at_eq hi2;have bl:=(he i hi2 (by omega)).1;simp only[issB,headB,W01,inR,W0b]at bl;have w4:i64.wrap (r[i].l+1)=r[i].l+1:=Yf;have b1:=Z9e r (i+1);have b2:((numsN r (i+1)).length+1)*8<=70368744177664:=by omega
       have go:ordB r (i+1)=true->∀ j (h:j<r.length),j<i+1+1->issB r[j]=true/\ordB r j=true:=λg2 j q1 q2=>by
        by_cases e:j=i+1
        . subst e;exact ⟨p1,g2⟩
        . exact he j q1 (by omega)
       by_cases p3:r[i].d=r[i+1].d
       . have hn:numsN r (i+1+1)=numsN r (i+1):=(by rw[numsN];simp[newB,a1,a2,p3]);by_cases p5:r[i+1].l=r[i].l+1
         case neg =>
          have p5':¬r[i].l+1=r[i+1].l:=λe=>p5 e.symm
          simp -implicitDefEqProofs[k3,w2,w4,hi2,isa,p3,p5'];refine Qgr ?_;simp -implicitDefEqProofs[Zbe (Z9q hi (by simp[ordB,a1,a2,p3,p5]))]
         by_cases p6:r[i].k=r[i+1].k
         . have ok:ordB r (i+1)=true:=(by simp[ordB,a1,a2,p3,p5,p6]);simp -implicitDefEqProofs[k3,w2,w3,w4,hi2,isa,p3,p5,p6];exact ⟨(by (first|exact Ym.tm (by simp[lk,opS,hn,ia])|exact Ym.sub (by simp[lk,Ya,AV.keys,opS,hn,ia]) (by simp[lk,Yc,Ya,AV.keys,opS,hn,ia]))),go ok⟩
         . have p6':¬r[i+1].k=r[i].k:=λe=>p6 e.symm
           simp -implicitDefEqProofs[k3,w2,w4,hi2,isa,p3,p5,p6];refine Qgr ?_;simp -implicitDefEqProofs[Zbe (Z9q hi (by simp[ordB,a1,a2,p3,p5,p6']))]
       by_cases p4:r[i+1].d<r[i].d
       . simp -implicitDefEqProofs[k3,w2,hi2,isa,p3,p4];refine Qgr ?_;simp -implicitDefEqProofs[Zbe (Z9q hi (by simp[ordB,a1,a2,p4]))]
       have p7:r[i].d<r[i+1].d:=(by omega);have hn:numsN r (i+1+1)=numsN r (i+1)++[r[i+1].d]:=(by rw[numsN];simp[newB,a1,a2,p3]);by_cases p5:r[i+1].l=1
       . have ok:ordB r (i+1)=true:=(by simp[ordB,a1,a2,p4,p7,p5]);simp -implicitDefEqProofs[k3,w2,w3,hi2,isa,p3,p4,p5,b2];exact ⟨rfl,(by (first|exact Ym.tm (by simp[lk,opS,hn,ia])|exact Ym.sub (by simp[lk,Ya,AV.keys,opS,hn,ia]) (by simp[lk,Yc,Ya,AV.keys,opS,hn,ia]))),go ok⟩
       . simp -implicitDefEqProofs[k3,w2,hi2,isa,p3,p4,p5];refine Qgr ?_;simp -implicitDefEqProofs[Zbe (Z9q hi (by simp[ordB,a1,a2,p4,p7,p5]))]
 . intro he;refine Qga ?_;obtain ⟨n,hn⟩ : ∃ n,r.length=n+1:=⟨r.length-1,by omega⟩;have e:numsN r (n+1)=nums r:=by rw[nums,hn]
   have g1:r.all issB=true:=W03.2 λx hx=>by
    obtain ⟨j,hj,rfl⟩:=W0k hx;exact (he j hj hj).1
   have g2:(List.range r.length).all (ordB r)=true:=Z9l.2 λj hj=>(he j hj hj).2
   have hO:Ord r:=λi hi=>by
    have:=(he (i+1) hi (by omega)).2;simp only[ordB]at this
    split at this
    . cases this
    . omega
   have hns:Sml (nums r):=(by have:=Z9u r;unfold Sml;omega);have hsn:(nums r).Pairwise (· <= ·):=(Z9y hO).imp λh=>Int.le_of_lt h
   have k1:¬(n:Int)+1<r.length:=(by omega);rw[hn];simp -implicitDefEqProofs[opS,k1,e];refine Qgr ?_;simp -implicitDefEqProofs;by_cases c20:20<(nums r).length
   . have c20':(20:Int)<(nums r).length:=(by omega);simp -implicitDefEqProofs[c20',Zbe (r:=r) (by simp[Z9o];omega)]
   have c20':¬(20:Int)<(nums r).length:=(by omega);have pu:((nums r).map ia).all (λx=>x.all AV.pure)=true:=(by simp[ia,AV.pure]);have pw:(r.map isa).all (λx=>x.all AV.pure)=true:=(by simp[isa,AV.pure]);simp -implicitDefEqProofs[c20'];refine Z91 (opT r) (λi=>∀ j (h:j<r.length),j<i->ItsIn r r[j]) r.length (Ym.trans (Ym.frz newK _ (λk hk=>by simp[newK];omega)) ?_) (by simp) ?_ ?_
   . simp only[opT,bkA,Yi];refine Ym.sub (by simp[lk,Ya,AV.keys,Yi,newK,frzA,frz,Yh,Yj,St.get,pu,pw]) (by simp) (by simp[newK])
   . intro i hi hc;refine Qga ?_;have w1:i64.wrap ((i:Int)+1)=((i+1:Nat):Int):=Yf;have hx:=h.1.2 r[i] (W0e hi);simp -implicitDefEqProofs[opT,hi,isa];refine Qco (Z9X 76 [.vptr [bkA r (nums r)] 0] (λy=>!decide (y.1∈nums r)) r[i].its (by simp[AV.pure]) hx.1 (λy _=>ZaF r (nums r) y hsn hns)) ?_
     cases q:r[i].its.any λy=>!decide (y.1∈nums r)
     . simp -implicitDefEqProofs[w1];refine ⟨(by (first|exact Ym.tm (by simp[lk,opT])|exact Ym.sub (by simp[lk,Ya,AV.keys,opT]) (by simp[lk,Yc,Ya,AV.keys,opT]))),λj q1 q2=>?_⟩;by_cases e2:j=i
       . subst e2;intro y hy;have:=W1X.1 q y hy;simpa using this
       . exact hc j q1 (by omega)
     . simp -implicitDefEqProofs;refine Qgr ?_;obtain ⟨y,hy,hy2⟩:=W14.1 q;obtain ⟨k,hk,rfl⟩:=W0k hy;simp -implicitDefEqProofs[Zbe (Z9r hi hk (by simpa using hy2))]
   . intro hc;refine Qga ?_
     have g3:inB r=true:=W03.2 λx hx=>by
      obtain ⟨j,hj,rfl⟩:=W0k hx;exact W03.2 λy hy=>W0M (hc j hj hj y hy)
     have hL:Z9o r=true:=by
      simp only[Z9o,q1,g1,g2,g3,W1i,W21,W0b];omega
     simp -implicitDefEqProofs[opT];refine Qgr ?_;simp -implicitDefEqProofs;refine Qco (Zb2 r h hO (by omega)) ?_;simp -implicitDefEqProofs;by_cases c21:0<(dRun r (nums r).length).2.length
     . have v:openA r = .tup [.nilp,.int .i64 21]:=(by simp[openA,openV,hL,c21]);simp -implicitDefEqProofs[c21,v]
     simp -implicitDefEqProofs[c21];refine Z5i (kvs:=(dRun r (nums r).length).1) rfl (by simp[opnT,St.tmp,lk]) ?_ ?_
     . intro h6;refine Qgr ?_;have n6:¬ ∃ p∈(dRun r (nums r).length).1,6<p.2:=λ⟨p,hp,hp6⟩=>by have:=h6 p hp;omega
       have v:openA r = .tup [bkA r (nums r),.int .i64 0]:=by
        unfold openA openV;rw[if_pos hL,if_neg c21,if_neg n6];simp
       simp -implicitDefEqProofs[v,bkA]
     . intro h6;refine Qga ?_
       have v:openA r = .tup [.nilp,.int .i64 20]:=by
        unfold openA openV;rw[if_pos hL,if_neg c21,if_pos h6];simp
       simp -implicitDefEqProofs[Z5b,v];refine Qgr ?_;simp -implicitDefEqProofs
def Zbh {r:Jr} (h:openV r=0):Z9o r=true:=by
 unfold openV at h
 split at h
 . assumption
 . cases h
def Zbi {r:Jr} (h:Z9o r=true):1<=r.length/\r.length<=60:=by
 simp only[Z9o,W01,W0b,inR]at h;have:=h.1.1.1.1;omega
def Zbj {r:Jr} (h:Z9o r=true) {i:Nat} (hi:i<r.length):ordB r i=true:=by
 simp only[Z9o,W01]at h;exact Z9l.1 h.1.1.2 i hi
def Zbk {r:Jr} (h:Z9o r=true) {x:Iss} (hx:x∈r):ItsIn r x:=λy hy=>by
 simp only[Z9o,W01,inB]at h;exact W0X (W03.1 (W03.1 h.1.2 x hx) y hy)
def Zbl {r:Jr} (hO:Ord r):(r.map (·.d)).Pairwise (· <= ·):=by
 rw[List.pairwise_map,W0Y];intro i j hi hj hij;have:=hO.mono (Nat.le_of_lt hij) hj
 rwa [at_eq hi,at_eq hj]at this
def Lx (x y:Iss):Prop:=x.d<y.d∨(x.d=y.d/\x.l<y.l)
def Zbm {r:Jr} (h:Z9o r=true):∀ {i j:Nat},i<j->j<r.length->Lx (at' r i) (at' r j):=by
 intro i j hij hj
 induction j with
 |zero=>omega
 | succ j ih =>
   have step:Lx (at' r j) (at' r (j+1)):=by
    have:=Zbj h hj;simp only[ordB]at this
    split at this
    . cases this
    . split at this
      . rename_i h2;exact .inl h2
      . simp only[W01,W0b]at this;exact .inr ⟨by omega,by omega⟩
   by_cases e:i=j
   . subst e;exact step
   . have:=ih (by omega) (by omega);unfold Lx at *;omega
def Zbn {r:Jr} (h:Z9o r=true):∀ y∈r,findN y.d y.l r=some y:=λy hy=>by
 obtain ⟨i,hi,rfl⟩:=W0k hy;refine Z9g hi rfl rfl λj hj hij=>?_
 have:=Zbm h hij hi;rw[at_eq hj,at_eq hi]at this;unfold Lx at this;omega
def Zbo (hG:GC G) (r:Jr) (h:Wf r):PC prog G 17 [rega r] (.int .i64 (openV r)):=by
 (refine Z89 rfl λR hG hrd=>Qga ?_;subst hG)
 simp -implicitDefEqProofs[Z87,Z88,rega];refine Qco (Zbg hG r h) ?_;simp -implicitDefEqProofs[openA]
def chL (l:Jr):List Int:=l.flatMap λx=>x.its.map (·.1)
def Zbp (x:Iss) (l:Jr):chL (x::l)=x.its.map (·.1)++chL l:=rfl
def C (r:Jr) (n:Int):List Int:=chL (issOf r n)
def dvL (f:Int->Int) (m:Int) (l:Jr):Int:=l.foldl (λm x=>dvIt f (max m 1) x.its) m
def Zbq (r:Jr) (f:Int->Int) (n:Int):∀ i,i<=r.length->dvN r f n i=dvL f 0 (issOf (r.take i) n)
 |0,_=>by simp[dvN,issOf,dvL]
 | i+1,hi=>by
   have hlt:i<r.length:=(by omega);have ih:=Zbq r f n i (by omega);rw[W08 hlt,issOf,W19,dvN,at_eq hlt];by_cases e:r[i].d=n
   . rw[if_pos e,ih,List.filter_cons_of_pos (by simpa using e),dvL,dvL,W1o];rfl
   . rw[if_neg e,ih,List.filter_cons_of_neg (by simpa using e),List.filter_nil,W1B];rfl
def Zbr (f:Int->Int):∀ (its:List (Int×Int)) (m:Int),m<=dvIt f m its/\(∀ y∈its,1+f y.1<=dvIt f m its)/\(dvIt f m its=m∨∃ y∈its,dvIt f m its=1+f y.1)
 |[],m=>⟨W1R _,by simp,.inl rfl⟩
 | y :: its,m=>by
   obtain ⟨h1,h2,h3⟩:=Zbr f its (max m (1+f y.1));have e:dvIt f m (y::its)=dvIt f (max m (1+f y.1)) its:=rfl;rw[e];refine ⟨by omega,λz hz=>?_,?_⟩
   . rcases W0g.1 hz with rfl|hz
     . omega
     . exact h2 z hz
   . rcases h3 with h3 | ⟨z,hz,h3⟩
     . rcases Int.le_total m (1+f y.1) with hm|hm
       . exact .inr ⟨y,W0H ..,by omega⟩
       . exact .inl (by omega)
     . exact .inr ⟨z,W0z _ hz,h3⟩
def Zbs (f:Int->Int):∀ (l:Jr) (m:Int),m<=dvL f m l/\(l≠[]->1<=dvL f m l)/\(∀ c∈chL l,1+f c<=dvL f m l)/\(dvL f m l=m∨dvL f m l=1∨∃ c∈chL l,dvL f m l=1+f c)
 |[],m=>⟨W1R _,by simp,by simp[chL],.inl rfl⟩
 | x :: l,m=>by
   obtain ⟨h1,h2,h3⟩:=Zbr f x.its (max m 1);obtain ⟨g1,g2,g3,g4⟩:=Zbs f l (dvIt f (max m 1) x.its);have e:dvL f m (x::l)=dvL f (dvIt f (max m 1) x.its) l:=rfl;rw[e];have q1:m<=max m 1:=Int.le_max_left ..;have q2:1<=max m 1:=Int.le_max_right ..;refine ⟨Int.le_trans q1 (Int.le_trans h1 g1),λ_=>Int.le_trans q2 (Int.le_trans h1 g1),λc hc=>?_,?_⟩
   . rw[Zbp]at hc;rcases W0h.1 hc with hc|hc
     . obtain ⟨y,hy,rfl⟩:=W0i.1 hc;exact Int.le_trans (h2 y hy) g1
     . exact g3 c hc
   . rcases g4 with g4|g4 | ⟨c,hc,g4⟩
     . rcases h3 with h3 | ⟨y,hy,h3⟩
       . rcases Int.le_total m 1 with hm|hm
         . exact .inr (.inl (by omega))
         . exact .inl (by omega)
       . exact .inr (.inr ⟨y.1,by rw[Zbp];exact W0h.2 (.inl (W0i.2 ⟨y,hy,rfl⟩)),by omega⟩)
     . exact .inr (.inl g4)
     . exact .inr (.inr ⟨c,by rw[Zbp];exact W0h.2 (.inr hc),g4⟩)
section
variable {r:Jr}
def Zbt (hO:Ord r) {n:Int} (hn:n∈nums r):issOf r n≠[]:=by
 obtain ⟨i,hi,rfl⟩:=Z9A hO hn;exact List.ne_nil_of_mem (a:=r[i]) (W0G.2 ⟨W0e hi,by simp⟩)
def Dv_eq (r:Jr) (k:Nat) (n:Int):Dv r (k+1) n=dvL (Dv r k) 0 (issOf r n):=by
 rw[Dv,Zbq r _ n _ (W0f _),W0v]
def Dv_ch (k:Nat) (n:Int) {c:Int} (hc:c∈C r n):1+Dv r k c<=Dv r (k+1) n:=by
 rw[Dv_eq];exact (Zbs _ _ _).2.2.1 c hc
def Zbu (hO:Ord r) (k:Nat) {n:Int} (hn:n∈nums r):1<=Dv r (k+1) n:=by
 rw[Dv_eq];exact (Zbs _ _ _).2.1 (Zbt hO hn)
def Dv_or (hO:Ord r) (k:Nat) {n:Int} (hn:n∈nums r):Dv r (k+1) n=1∨∃ c∈C r n,Dv r (k+1) n=1+Dv r k c:=by
 have h1:=Zbu hO k hn;rw[Dv_eq]at *;rcases (Zbs (Dv r k) (issOf r n) 0).2.2.2 with h|h|h
 . omega
 . exact .inl h
 . exact .inr h
def C_in (hin:∀ x∈r,ItsIn r x) {n c:Int} (hc:c∈C r n):c∈nums r:=by
 obtain ⟨x,hx,hc⟩:=W0u.1 hc;obtain ⟨y,hy,rfl⟩:=W0i.1 hc;exact hin x (W0G.1 hx).1 y hy
def Zbv (lf:List Int):∀ (its:List (Int×Int)) (b:Bool),rdIt lf b its=true↔b=true/\∀ y∈its,y.1 ∉ lf
 |[],b=>by simp[rdIt]
 | y::its,b=>by
   have e:rdIt lf b (y::its)=rdIt lf (b && !decide (y.1∈lf)) its:=rfl;rw[e,Zbv lf its];simp[and_assoc]
def Zbw (lf:List Int):∀ (l:Jr) (b:Bool),rdN lf b l=true↔b=true/\∀ c∈chL l,c ∉ lf
 |[],b=>by simp[rdN,chL]
 | x :: l,b=>by
   have e:rdN lf b (x::l)=rdN lf (rdIt lf b x.its) l:=rfl;rw[e,Zbw lf l,Zbv,Zbp];simp only[W0h,W0i]
   constructor
   . rintro ⟨⟨h1,h2⟩,h3⟩;refine ⟨h1,λc hc=>?_⟩;rcases hc with ⟨y,hy,rfl⟩|hc
     . exact h2 y hy
     . exact h3 c hc
   . rintro ⟨h1,h2⟩;exact ⟨⟨h1,λy hy=>h2 _ (.inl ⟨y,hy,rfl⟩)⟩,λc hc=>h2 c (.inr hc)⟩
def Zbx (dp:List (Int×Int)):∀ (its:List (Int×Int)) (m:Int),m<=msIt dp m its/\(∀ y∈its,dpG dp y.1<=msIt dp m its)/\(msIt dp m its=m∨∃ y∈its,msIt dp m its=dpG dp y.1)
 |[],m=>⟨W1R _,by simp,.inl rfl⟩
 | y :: its,m=>by
   obtain ⟨h1,h2,h3⟩:=Zbx dp its (max m (dpG dp y.1));have e:msIt dp m (y::its)=msIt dp (max m (dpG dp y.1)) its:=rfl;rw[e];refine ⟨by omega,λz hz=>?_,?_⟩
   . rcases W0g.1 hz with rfl|hz
     . omega
     . exact h2 z hz
   . rcases h3 with h3 | ⟨z,hz,h3⟩
     . rcases Int.le_total m (dpG dp y.1) with hm|hm
       . exact .inr ⟨y,W0H ..,by omega⟩
       . exact .inl (by omega)
     . exact .inr ⟨z,W0z _ hz,h3⟩
def Zby (dp:List (Int×Int)):∀ (l:Jr) (m:Int),m<=msN dp m l/\(∀ c∈chL l,dpG dp c<=msN dp m l)/\(msN dp m l=m∨∃ c∈chL l,msN dp m l=dpG dp c)
 |[],m=>⟨W1R _,by simp[chL],.inl rfl⟩
 | x :: l,m=>by
   obtain ⟨h1,h2,h3⟩:=Zbx dp x.its m;obtain ⟨g1,g2,g3⟩:=Zby dp l (msIt dp m x.its);have e:msN dp m (x::l)=msN dp (msIt dp m x.its) l:=rfl;rw[e];refine ⟨by omega,λc hc=>?_,?_⟩
   . rw[Zbp]at hc;rcases W0h.1 hc with hc|hc
     . obtain ⟨y,hy,rfl⟩:=W0i.1 hc;have:=h2 y hy;omega
     . exact g2 c hc
   . rcases g3 with g3 | ⟨c,hc,g3⟩
     . rcases h3 with h3 | ⟨y,hy,h3⟩
       . exact .inl (by omega)
       . exact .inr ⟨y.1,by rw[Zbp];exact W0h.2 (.inl (W0i.2 ⟨y,hy,rfl⟩)),by omega⟩
     . exact .inr ⟨c,by rw[Zbp];exact W0h.2 (.inr hc),g3⟩
def Zbz {n:Int}:∀ {dp:List (Int×Int)},n∈dp.map (·.1)->∃ v,dpLk n dp=some v
 |[],h=>by simp at h
 | p :: dp,h=>by
   simp only[dpLk]
   split
   . exact ⟨_,rfl⟩
   . rename_i e;simp only[W0F,W0g]at h;exact Zbz (h.resolve_left λe2=>e (by rw[e2]))
def AInv (r:Jr) (s:List (Int×Int)×List Int):Prop:=∀ p∈s.1,∀ j:Nat,p.2<=j->Dv r j p.1=p.2
def AInv.step (hO:Ord r) (hin:∀ x∈r,ItsIn r x) {s:List (Int×Int)×List Int} (hd:DInv r s) (h:AInv r s) {n:Int} (hn:n∈nums r):AInv r (dStep r s n):=by
 unfold dStep
 split
 . rename_i hb;obtain ⟨h1,h2⟩:=(Zbw _ _ _).1 hb
   have kids:∀ c∈C r n,(c,dpG s.1 c)∈s.1:=λc hc=>by
    have hc1:c∈s.1.map (·.1)++s.2:=hd.perm.mem_iff.2 (C_in hin hc);have hc2:c∈s.1.map (·.1):=(W0h.1 hc1).resolve_right (h2 c hc);obtain ⟨v,hv⟩:=Zbz hc2;have:=ZaX hv
    rwa [show dpG s.1 c=v by simp[dpG,hv]]
   obtain ⟨m1,m2,m3⟩:=Zby s.1 (issOf r n) 0;intro p hp j hj;rcases W0h.1 hp with hp|hp
   . exact h p hp j hj
   . simp only[W0B]at hp;subst hp;simp only at hj ⊢;obtain ⟨j,rfl⟩ : ∃ j',j=j'+1:=⟨j-1,by omega⟩
     have same:∀ c∈C r n,Dv r j c=dpG s.1 c:=λc hc=>by
      have:=m2 c hc;exact h _ (kids c hc) j (by simp only;omega)
     have o1:=Zbu hO j hn
     apply Int.le_antisymm
     . rcases Dv_or hO j hn with e | ⟨c,hc,e⟩
       . omega
       . have:=m2 c hc;have:=same c hc;omega
     . rcases m3 with e | ⟨c,hc,e⟩
       . omega
       . have:=Dv_ch (r:=r) j n hc;have:=same c hc;omega
 . exact h
def AInv.fold (hO:Ord r) (hin:∀ x∈r,ItsIn r x):∀ (l:List Int) {s:List (Int×Int)×List Int},(∀ n∈l,n∈nums r)->DInv r s->AInv r s->AInv r (l.foldl (dStep r) s)
 |[],s,_,_,h=>h
 |n::l,s,hl,hd,h=>AInv.fold hO hin l (λm hm=>hl m (W0z _ hm)) (hd.step n) (h.step hO hin hd (hl n (W0H ..)))
def AInv.run (hO:Ord r) (hin:∀ x∈r,ItsIn r x):∀ k,AInv r (dRun r k)
 |0=>by intro p hp;simp[dRun]at hp
 |k+1=>AInv.fold hO hin (nums r) (λ_ h=>h) (DInv.run r k) (AInv.run hO hin k)
def Stuck (r:Jr) (L:List Int):Prop:=∀ n∈L,∃ c∈C r n,c∈L
def ZbA {s:List (Int×Int)×List Int} {n:Int} (h:¬rdN s.2 (decide (n∈s.2)) (issOf r n)=true):dStep r s n=s/\(n∈s.2->∃ c∈C r n,c∈s.2):=by
 refine ⟨by unfold dStep;rw[if_neg h],λhn=>?_⟩;rw[Zbw]at h;by_cases e:∃ c∈C r n,c∈s.2
 . exact e
 . exact absurd ⟨W0M hn,λc hc h2=>e ⟨c,hc,h2⟩⟩ h
def ZbB (s:List (Int×Int)×List Int) (n:Int):(dStep r s n).2.length<=s.2.length:=by
 unfold dStep
 split
 . exact List.length_erase_le
 . exact W0f _
def ZbC:∀ (l:List Int) (s:List (Int×Int)×List Int),(l.foldl (dStep r) s).2.length<=s.2.length
 |[],s=>W0f _
 |n::l,s=>W0O (ZbC l _) (ZbB s n)
def ZbD:∀ (l:List Int) (s:List (Int×Int)×List Int),(l.foldl (dStep r) s).2.length<s.2.length∨(l.foldl (dStep r) s=s/\∀ n∈l,n∈s.2->∃ c∈C r n,c∈s.2)
 |[],s=>.inr ⟨rfl,by simp⟩
 | n :: l,s=>by
   by_cases e:rdN s.2 (decide (n∈s.2)) (issOf r n)=true
   . refine .inl (Nat.lt_of_le_of_lt (ZbC l _) ?_);have hm:=ZaW e;unfold dStep;rw[if_pos e];have:=List.length_erase_of_mem hm;have:=List.length_pos_of_mem hm;simp only;omega
   . obtain ⟨h1,h2⟩:=ZbA e;rw[W23,h1];rcases ZbD l s with h | ⟨h3,h4⟩
     . exact .inl h
     . refine .inr ⟨h3,λm hm=>?_⟩;rcases W0g.1 hm with rfl|hm
       . exact h2
       . exact h4 m hm
def ZbE:∀ (l:List Int) {s:List (Int×Int)×List Int},Stuck r s.2->l.foldl (dStep r) s=s
 |[],s,_=>rfl
 | n::l,s,h=>by
   have:¬rdN s.2 (decide (n∈s.2)) (issOf r n)=true:=λe=>by
    have hm:=ZaW e;obtain ⟨c,hc,h2⟩:=h n hm;exact ((Zbw _ _ _).1 e).2 c hc h2
   rw[W23,(ZbA this).1];exact ZbE l h
def ZbF (r:Jr):∀ k,(dRun r k).2.length+k<=(nums r).length∨Stuck r (dRun r k).2
 |0=>.inl (by simp[dRun])
 | k + 1=>by
   have hsub:∀ n∈(dRun r k).2,n∈nums r:=λn hn=>(DInv.run r k).perm.mem_iff.1 (W0h.2 (.inr hn))
   rcases ZbF r k with h|h
   . rcases ZbD (r:=r) (nums r) (dRun r k) with h2 | ⟨h2,h3⟩
     . exact .inl (by simp only[dRun,dPass];omega)
     . refine .inr ?_;simp only[dRun,dPass];rw[h2];exact λn hn=>h3 n (hsub n hn) hn
   . refine .inr ?_;simp only[dRun,dPass];rw[ZbE (nums r) h];exact h
def ZbG {L:List Int} (h:Stuck r L):∀ (k:Nat) (n:Int),n∈L->(k:Int)<=Dv r k n
 |0,n,_=>by simp[Dv]
 | k+1,n,hn=>by
   obtain ⟨c,hc,h2⟩:=h n hn;have:=ZbG h k c h2;have:=Dv_ch (r:=r) k n hc;omega
def ZbH (g:Int->Int) (K:Int):∀ (l:List Int) (m:Int),K<l.foldl (λm n=>max m (g n)) m↔K<m∨∃ n∈l,K<g n
 |[],m=>by simp
 | n::l,m=>by
   rw[W23,ZbH g K l];simp only[W0g,exists_eq_or_imp];rw[<- or_assoc];refine or_congr_left ?_;omega
def ZbI {l:List Int} {g:Int->Int} {K:Int} (hK:0<=K):K<mostV l g↔∃ n∈l,K<g n:=by
 rw[mostV,ZbH]
 constructor
 . rintro (h|h)
   . omega
   . exact h
 . exact .inr
def dp_Dv (hL:Z9o r=true) (h:(dRun r (nums r).length).2.length=0) {n:Int} (hn:n∈nums r):(n,dpG (dRun r (nums r).length).1 n)∈(dRun r (nums r).length).1/\Dv r ((nums r).length+1) n=dpG (dRun r (nums r).length).1 n:=by
 have hd:=DInv.run r (nums r).length;have h0:(dRun r (nums r).length).2=[]:=W0l.1 h
 have h1:n∈(dRun r (nums r).length).1.map (·.1):=by
  have:=hd.perm.mem_iff.2 hn
  rwa [h0,W1B]at this
 obtain ⟨v,hv⟩:=Zbz h1;have hm:=ZaX hv;have e:dpG (dRun r (nums r).length).1 n=v:=(by simp[dpG,hv]);rw[e];refine ⟨hm,?_⟩;have hb:=hd.bd _ hm;have hl:=hd.len;exact AInv.run (Z9w hL) (λx hx=>Zbk hL hx) _ _ hm _ (by simp only at hb ⊢;omega)
def ZbJ (r:Jr):openV r=chkV r:=by
 unfold openV chkV
 cases hL:Z9o r
 . rfl
 . simp only [if_true];by_cases h:0<(dRun r (nums r).length).2.length
   . rw[if_pos h];have hs:Stuck r (dRun r (nums r).length).2:=(ZbF r (nums r).length).resolve_left (by omega);obtain ⟨n,hn⟩:=List.exists_mem_of_length_pos h;have hn2:n∈nums r:=(DInv.run r _).perm.mem_iff.1 (W0h.2 (.inr hn));have:=ZbG hs ((nums r).length+1) n hn;rw[if_pos ((ZbI (by omega)).2 ⟨n,hn2,by omega⟩)]
   . rw [if_neg h];have h0:(dRun r (nums r).length).2.length=0:=(by omega);have hd:=DInv.run r (nums r).length;have hl:=hd.len
     have e1:(∃ p∈(dRun r (nums r).length).1,6<p.2)↔6<mostV (nums r) (Dv r ((nums r).length+1)):=by
      rw[ZbI (by omega)]
      constructor
      . rintro ⟨p,hp,h6⟩;have hn:p.1∈nums r:=hd.perm.mem_iff.1 (W0h.2 (.inl (W0i.2 ⟨p,hp,rfl⟩)));refine ⟨p.1,hn,?_⟩;have hb:=hd.bd _ hp;rw[AInv.run (Z9w hL) (λx hx=>Zbk hL hx) _ _ hp _ (by omega)];exact h6
      . rintro ⟨n,hn,h6⟩;obtain ⟨h1,h2⟩:=dp_Dv hL h0 hn;rw[h2]at h6;exact ⟨_,h1,h6⟩
     have e2:¬((nums r).length:Int)<mostV (nums r) (Dv r ((nums r).length+1)):=by
      rw[ZbI (by omega)];rintro ⟨n,hn,h6⟩;obtain ⟨h1,h2⟩:=dp_Dv hL h0 hn;have:=hd.bd _ h1;rw[h2]at h6;simp only at this;omega
     rw[if_neg e2];by_cases c:6<mostV (nums r) (Dv r ((nums r).length+1))
     . rw[if_pos c,if_pos (e1.2 c)]
     . rw[if_neg c,if_neg λe=>c (e1.1 e)]
end
def twR (r:Jr) (i:Nat):List (List AV):=(r.take i).map isa
def ZbK {r:Jr} {i:Nat} (h:i<=r.length):(twR r i).length=i:=by simp[twR];omega
def ZbL {r:Jr} {i:Nat} (h:i<r.length):twR r (i+1)=twR r i++[[.int .i64 r[i].d,.int .i64 r[i].l,.int .u8 r[i].k,.vsl (r[i].its.map ita),.vsl (r[i].dms.map dma)]]:=by
 rw[twR,W08 h,W0r];rfl
def ZbM {r:Jr} {i:Nat} (o:List (Nat×AObj)):Yc o (.row 5 (twR r i))=true:=by
 simp only[Yc,W03,twR,W0i];rintro x ⟨y,-,rfl⟩ v hv;simp only[isa,W0g,W0Q,or_false]at hv;rcases hv with rfl|rfl|rfl|rfl|rfl <;> simp[Ya,AV.keys]
def ZbN (r:Jr):twR r r.length=r.map isa:=by rw[twR,W0v]
def twS (r:Jr):Nat->St
 |0=>⟨[(4,.int .i64 0),(3,.ptr 3 0),(1,.ptr 1 0),(2,.ptr 2 0)],[(1,.box [.vsl (r.map isa)]),(2,.box [.nils]),(3,.box [.nils])]⟩
 |i+1=>⟨[(4,.int .i64 (i+1:Nat)),(3,.ptr 3 0),(1,.ptr 1 0),(2,.ptr 2 0)],[(1,.box [.vsl (r.map isa)]),(2,.box [.nils]),(3,.box [.osl 21 (i+1)]),(21,.row 5 (twR r (i+1)))]⟩
def ZbO (r:Jr) (h:SmlR r):PC prog G 7 [rega r] (rega r):=by
 by_cases h0:r=[]
 . subst h0;refine PC.nzR (v:=.agg [.nils]) ?_ (by simp[nz,rega])
   (refine Z8S rfl λR hG hrd=>Qga ?_;subst hG)
   simp -implicitDefEqProofs[Z8Q,Z8R,rega];refine Z91 (twS []) (λ_=>True) 0 (by simp only[twS];(first|exact Wka|exact Wkb)) trivial (λi hi=>by omega) λ_=>?_
   refine Qga ?_;simp -implicitDefEqProofs[twS];refine Qgr ?_;simp -implicitDefEqProofs
 . (refine Z8S rfl λR hG hrd=>Qga ?_;subst hG)
   have hs:=h.1;unfold Sml at hs;simp -implicitDefEqProofs[Z8Q,Z8R,rega];refine Z91 (twS r) (λ_=>True) r.length (by simp only[twS];(first|exact Wka|exact Wkb)) trivial ?_ ?_
   . intro i hi _;refine Qga ?_;have hx:=h.2 r[i] (W0e hi);have tk:=ZbL hi;have ln:=ZbK (Nat.le_of_lt hi)
     cases i with
     | zero =>
       have w1:i64.wrap 1=1:=rfl;simp -implicitDefEqProofs[twS,hi,isa];refine Qco (Z9i r[0] hx.1 hx.2) ?_;simp -implicitDefEqProofs[w1,isa];refine ⟨rfl,?_⟩;have tk0:twR r 1=[[.int .i64 r[0].d,.int .i64 r[0].l,.int .u8 r[0].k,.vsl (r[0].its.map ita),.vsl (r[0].dms.map dma)]]:=(by rw[tk];simp[twR]);simp only[twS];exact Ym.sub (by simp[lk,Ya,AV.keys]) (by simp[lk,Yc,Ya,AV.keys,tk0])
     | succ i =>
       have w1:i64.wrap ((i:Int)+1+1)=(i:Int)+1+1:=Yf;have k1:(i:Int)+1<r.length:=(by omega);have k2:((i:Int)+1).toNat=i+1:=(by omega);have k3:(0:Int)<=(i:Int)+1:=(by omega);have b2:(i+1+1)*72<=70368744177664:=(by omega);simp -implicitDefEqProofs[twS,hi,k1,k2,k3,isa];refine Qco (Z9i r[i+1] hx.1 hx.2) ?_;simp -implicitDefEqProofs[w1,ln,b2,isa];refine ⟨rfl,?_⟩;simp only[twS];refine Ym.sub (by simp[lk,Ya,AV.keys]) ?_;simp only[W0g,W0Q,or_false,W1H,forall_eq,ZbM,and_true];simp[lk,Yc,Ya,AV.keys,tk]
   . intro _;refine Qga ?_
     obtain ⟨n,hn⟩ : ∃ n,r.length=n+1:=⟨r.length-1,by
      have:r.length≠0:=(by simpa using h0);omega⟩
     have k1:¬(n:Int)+1<n+1:=(by omega);have e1:twR r (n+1)=r.map isa:=(by rw[<- hn,ZbN]);have pu:(r.map isa).all (λx=>x.all AV.pure)=true:=(by simp[isa,AV.pure]);rw[hn];simp -implicitDefEqProofs[twS,hn,k1,e1,pu];refine Qgr ?_;simp -implicitDefEqProofs[pu,e1,hn]
section
variable {r:Jr}
end
def GO0 {P:Program} {R:Run} {c:RCode} {ks:List KF} {Φ:Exit->St->Prop} {st:St} (h:AR P R c st (RetP P R ks Φ)):GO P R 0 (.run c) ks Φ st:=h
def ZbP (l:List (Int×Int)) (o:List (Nat×AObj)):Yc o (.row 2 (l.map ita))=true:=by
 simp only[Yc,W03,W0i];rintro x ⟨y,-,rfl⟩ v hv;simp only[ita,W0g,W0Q,or_false]at hv;rcases hv with rfl|rfl <;> simp[Ya,AV.keys]
def needL (n:Int) (l:List (Int×Int)):Bool:=l.any λy=>decide (y.1=n)
inductive Up (T:Int->Iss) (l:List Int) (d:Int):Int->Prop
 |base (n:Int) (hn:n∈l) (h:needL d (T n).its=true):Up T l d n
 |step (n m:Int) (hn:n∈l) (h:needL m (T n).its=true) (hm:Up T l d m):Up T l d n
def Up.trans {T:Int->Iss} {l:List Int} {d m n:Int} (h1:Up T l d m) (h2:Up T l m n):Up T l d n:=by
 induction h2 with
 |base n hn h=>exact .step n m hn h h1
 |step n k hn h _ ih=>exact .step n k hn h ih
def Up.mem {T:Int->Iss} {l:List Int} {d n:Int} (h:Up T l d n):n∈l:=by cases h <;> assumption
def ZbQ (a b:List (Int×Int)) (ha:Sml a):PC prog G 12 [.vsl (a.map ita),.vsl (b.map ita)] (.bool (decide (a=b))):=by
 (refine Z6x rfl λR hG hrd=>Qga ?_;subst hG)
 by_cases hl:a.length=b.length
 . have hl':(a.length:Int)=b.length:=(by omega);simp -implicitDefEqProofs[Z6v,Z6w,hl'];refine Z91 (λi=>⟨[(5,.int .i64 i),(0,.vsl (a.map ita)),(1,.vsl (b.map ita))],[]⟩) (λi=>∀ j (h:j<a.length),j<i->a[j]=b[j]) a.length (by (first|exact Wka|exact Wkb)) (by simp) ?_ ?_
   . intro i hi he;refine Qga ?_;unfold Sml at ha;have hi2:i<b.length:=(by omega);have w1:i64.wrap ((i:Int)+1)=((i+1:Nat):Int):=Yf;simp -implicitDefEqProofs[hi,hi2,ita];refine ⟨rfl,?_⟩;by_cases h2:a[i]=b[i]
     . simp -implicitDefEqProofs[h2,w1];refine ⟨(by (first|exact Wka|exact Wkb)),λj h1 h3=>?_⟩;by_cases e:j=i
       . subst e;exact h2
       . exact he j h1 (by omega)
     . have h3:¬a=b:=λe=>h2 (by subst e;rfl)
       rw[Z9a h2];simp -implicitDefEqProofs;refine Qgr ?_;simp -implicitDefEqProofs[h3]
   . intro he;refine Qga ?_;have h3:a=b:=W1D hl λj h1 h2=>he j h1 h1
     simp -implicitDefEqProofs;refine Qgr ?_;simp -implicitDefEqProofs[h3]
 . have hl':¬(a.length:Int)=b.length:=(by omega);have h3:¬a=b:=λe=>hl (by rw[e])
   simp -implicitDefEqProofs[Z6v,Z6w,hl',h3]
def Yg (l:List (List AV)):AV:=if l=[] then .nils else .vsl l
def ZbR (l:List (List AV)):nz (Yg l) = .vsl l:=by unfold Yg;split <;> simp_all [nz]
def ZbS (r:Jr) (ds:List Int):(bkA r ds).keys=[]:=by simp[bkA,AV.keys]
section
open Qq Go.Proofs.Tryd
end
open Go.ChangeShapes Go.WideShapes Go.ChangeAt Go.WideMaps Go.WideElems Go.RowKit Go.Deep
def own:ownKnob prog.godebug=none:=by kernel_rfl
def Zc0:laidOutB prog=true:=by kernel_rfl
def Zc1:prog.globalNamed "blueline/sheet.checks" = some 0:=by kernel_rfl
def Zc2:(prog.globals[0]?).map (·.type)=some 131:=by kernel_rfl
def laid2:List (String×DataW Unit):=[("blueline/sheet.checks",Rows.laid_blueline_sheet_checks)]
def Zc3 (os:Os) (args:Array Value):laidMetH prog laid2 ((World.doorLaid prog 41 os).forCall (λ_ _=>0) ⟨#[],args,[]⟩).memory :=
 laidMetH_of_parts3 (fuel:=8) (laidMet_of_run' 8 (by kernel_rfl) (by kernel_rfl)) (by kernel_rfl) (by kernel_rfl)
def cF:prog.cellsOf 129=1:=by kernel_rfl
def Zc4:prog.cellsOf 130=1:=by kernel_rfl
def ChkB (W:World):Prop:=∃ t fr,W.heap[0]? = some (.cells #[.func (.func 122) #[] #[],.func (.func 123) #[] #[],.func (.func 124) #[] #[],.func (.func 125) #[] #[]] t fr)
def list4 {α:Type} {l:List α} (h:l.length=4):∃ c0 c1 c2 c3,l=[c0,c1,c2,c3]:=by
 match l,h with
 |[c0,c1,c2,c3],_=>exact ⟨c0,c1,c2,c3,rfl⟩
def Zc5 {W:World} {fuel:Nat} {c:Value} {y:DataW (List UInt8)×List MemPlace} {b:UInt8} {s:List UInt8} {f0:FuncId} (hone:((List.range prog.funcs.size).filter λf=>(prog.funcs[f]?).any (·.name.toUTF8.data.toList == b::s))=[f0])
  (h:DataW.trod (funcToken prog) prog W 0 (λ_=>true) true fuel 130 [c]=some y) (hy:y.1 = .agg [.held (b::s)]):c = .func (.func f0) #[] #[]:=by
 obtain ⟨y0,n,rfl,-,h0⟩:=trod_struct1 Tryd.underlying130 h;simp only[W1J]at h0;rw[cF]at h0;simp only[DataW.agg.injEq,W24,and_true]at hy;exact func_of_trod (q:=y0.2) Tryd.underlying129 hone (by rw[<- hy];simpa using h0)
set_option maxRecDepth 100000 in
def Zc6 {W:World} (h:laidMetH prog laid2 W):ChkB W:=by
 obtain ⟨g,t,cs,fuel,p,hg,ht,hv,hd⟩:=h.funcs (W0B.2 rfl);obtain rfl:=W1G (Zc1.symm.trans hg);obtain rfl:=W1G (Zc2.symm.trans ht);have hd':DataW.trod (funcToken prog) prog W 0 (λ_=>true) true fuel 131 cs.toList=some (.agg [.agg [.held [98,108,117,101,108,105,110,101,47,115,104,101,101,116,46,99,104,101,99,107,115,36,49]],.agg [.held [98,108,117,101,108,105,110,101,47,115,104,101,101,116,46,99,104,101,99,107,115,36,50]],.agg [.held [98,108,117,101,108,105,110,101,47,115,104,101,101,116,46,99,104,101,99,107,115,36,51]],.agg [.held [98,108,117,101,108,105,110,101,47,115,104,101,101,116,46,99,104,101,99,107,115,36,52]]],p):=hd;obtain ⟨xs,m,rfl,hx,hlen,hn,hel⟩:=DataW.trod_array Tryd.underlying131 hd';have hlen4:cs.toList.length=4:=hlen.trans (by kernel_rfl);obtain ⟨c0,c1,c2,c3,hcs⟩:=list4 hlen4;rw[hcs]at hel;have e0:=hel 0 (by decide);have e1:=hel 1 (by decide);have e2:=hel 2 (by decide);have e3:=hel 3 (by decide);rw[Zc4]at e0 e1 e2 e3
 match xs,hn,hx,e0,e1,e2,e3 with
 | [x0,x1,x2,x3],_,hx,e0,e1,e2,e3 =>
   simp only[W06]at hx;have hx:=hx.1;simp only[W0F,W1c,DataW.agg.injEq,W24]at hx;obtain ⟨hx0,hx1,hx2,hx3,-⟩:=hx;have g0:=Zc5 (f0:=122) (by kernel_rfl) e0 hx0.symm;have g1:=Zc5 (f0:=123) (by kernel_rfl) e1 hx1.symm;have g2:=Zc5 (f0:=124) (by kernel_rfl) e2 hx2.symm;have g3:=Zc5 (f0:=125) (by kernel_rfl) e3 hx3.symm;have hcs2:cs = #[c0,c1,c2,c3]:=(by rw[<- Array.toArray_toList (xs:=cs),hcs]);rw[g0,g1,g2,g3]at hcs2;simp only[World.var?,Zc1,W1m]at hv
   split at hv
   . rename_i cs' t fr heq;injection hv with hv
     exact ⟨t,fr,by rw[heq,hv,hcs2]⟩
   . cases hv
def G2:Nat->Option (List AV):=λg=>if g=0 then some [.func (.func 122) [] [],.func (.func 123) [] [],.func (.func 124) [] [],.func (.func 125) [] []] else none
def gc_of:GC G2:=rfl
def gr_of {W:World} (h:ChkB W):GR G2 noM W:=by
 obtain ⟨t,fr,hb⟩:=h;intro g cs hg;simp only[G2]at hg
 split at hg <;> simp only[W00,reduceCtorEq]at hg
 rename_i e;subst e;subst hg;refine .vptr _ 0 0 0 (λj=>((#[.func (.func 122) #[] #[],.func (.func 123) #[] #[],.func (.func 124) #[] #[],.func (.func 125) #[] #[]]:Array Value)[j]?).getD undef) (W0c.1 hb).1 id ?_ ?_
 . intro j hj;have hj':j<4:=(by simpa using hj);simp only[World.cell?,hb]
   match j,hj' with
   |0,_=>rfl
   |1,_=>rfl
   |2,_=>rfl
   |3,_=>rfl
 . intro j x hx;have hfn:∀ fn:Fn,PV noM W (.func fn [] []) (.func fn #[] #[]):=λfn=>.func fn [] [] #[] #[] rfl rfl (by simp) (by simp)
   match j,hx with
   |0,hx=>cases hx;exact hfn _
   |1,hx=>cases hx;exact hfn _
   |2,hx=>cases hx;exact hfn _
   |3,hx=>cases hx;exact hfn _
def Zc7 {P:Program} {G:Jg} {f:FuncId} {args:List AV} {W:World} {vs:Array Value} (h:PC P G f args (.bool true)) (hG:GR G noM W) (hs:vs.size=args.length)
  (hv:∀ (i:Nat) (x:AV) (u:Value),args[i]? = some x->vs[i]? = some u->PV noM W x u):Calls P f vs W λe W'=>e = .returned (.bool true)/\Ext W W' :=
 (h.2 noM W vs (λ_ h=>h.elim) hG hs hv).mono λe W' ⟨v,h1,h2,h3⟩=>by
  cases h2
  exact ⟨h1,h3⟩
def itK:List TY:=[.int .i64,.int .i64]
def dmK:List TY:=[.int .i64,.int .i64,.int .i64]
def isK2:List TY:=[.int .i64,.int .i64,.int .u8,.sl itK,.sl dmK]
def Zc8 {xs:List AV} (h:TVs itK xs):∃ p:Int×Int,xs=ita p:=by
 obtain ⟨x0,_,rfl,h0,h⟩:=h.cons_inv;obtain ⟨x1,_,rfl,h1,h⟩:=h.cons_inv;obtain rfl:=h.nil_inv;obtain ⟨n,rfl,-⟩:=h0.int_inv;obtain ⟨l,rfl,-⟩:=h1.int_inv;exact ⟨(n,l),rfl⟩
def Zc9 {xs:List AV} (h:TVs dmK xs):∃ d:Dm,xs=dma d:=by
 obtain ⟨x0,_,rfl,h0,h⟩:=h.cons_inv;obtain ⟨x1,_,rfl,h1,h⟩:=h.cons_inv;obtain ⟨x2,_,rfl,h2,h⟩:=h.cons_inv;obtain rfl:=h.nil_inv;obtain ⟨n,rfl,-⟩:=h0.int_inv;obtain ⟨l,rfl,-⟩:=h1.int_inv;obtain ⟨u,rfl,-⟩:=h2.int_inv;exact ⟨⟨n,l,u⟩,rfl⟩
def KOk (x:Iss):Prop:=0<=x.k/\x.k<=255
def Zca {xs:List AV} (h:TVs isK2 xs):∃ x:Iss,xs=isa x/\KOk x:=by
 obtain ⟨x0,_,rfl,h0,h⟩:=h.cons_inv;obtain ⟨x1,_,rfl,h1,h⟩:=h.cons_inv;obtain ⟨x2,_,rfl,h2,h⟩:=h.cons_inv;obtain ⟨x3,_,rfl,h3,h⟩:=h.cons_inv;obtain ⟨x4,_,rfl,h4,h⟩:=h.cons_inv;obtain rfl:=h.nil_inv;obtain ⟨n,rfl,-⟩:=h0.int_inv;obtain ⟨l,rfl,-⟩:=h1.int_inv;obtain ⟨k,rfl,hk⟩:=h2.int_inv;obtain ⟨r3,rfl,-,g3⟩:=h3.sl_inv;obtain ⟨r4,rfl,-,g4⟩:=h4.sl_inv;obtain ⟨its,rfl⟩:=ZbX (f:=ita) λr hr=>Zc8 (g3 r hr)
 obtain ⟨dms,rfl⟩:=ZbX (f:=dma) λr hr=>Zc9 (g4 r hr)
 exact ⟨⟨n,l,k,its,dms⟩,rfl,bounds_u8 hk⟩
def Zcb {α β:Type} {f:α->β} {p:α->Prop} {rows:List β} (h:∀ r∈rows,∃ d,r=f d/\p d):∃ l:List α,rows=l.map f/\∀ x∈l,p x:=by
 induction rows with
 |nil=>exact ⟨[],rfl,by simp⟩
 | cons r rows ih =>
   obtain ⟨d,rfl,hd⟩:=h r (W0H ..);obtain ⟨l,rfl,hl⟩:=ih λr hr=>h r (W0z _ hr)
   exact ⟨d::l,rfl,λx hx=>by
    rcases W0g.1 hx with rfl|hx
    . exact hd
    . exact hl x hx⟩
def Zcc {xs:List AV} (h:TVs [.sl isK2] xs):∃ r:List Iss,AV.agg xs=rega r/\∀ x∈r,KOk x:=by
 obtain ⟨x0,_,rfl,h0,h⟩:=h.cons_inv;obtain rfl:=h.nil_inv;obtain ⟨rows,rfl,-,g⟩:=h0.sl_inv;obtain ⟨r,rfl,hr⟩:=Zcb (f:=isa) (p:=KOk) λr hr=>Zca (g r hr)
 exact ⟨r,rfl,hr⟩
def Zcd {G:Jg} (r:Jr):PC prog G 6 [rega r] (.bool (Z9f r)):=by
 by_cases h1:80<r.length
 . (refine Z8V rfl λR hG hrd=>Qga ?_;subst hG)
   have h1':(80:Int)<r.length:=(by omega);simp -implicitDefEqProofs[Z8T,Z8U,rega,h1',Z9f,h1]
 . exact Z9j r (by unfold Sml;omega)
def Zce {r:Jr} (h:Z9f r=false) (hk:∀ x∈r,KOk x):Wf r:=by
 simp only[Z9f,W1M,W1a,W1X,W0T,W0b,not_or]at h;exact ⟨⟨by unfold Sml;omega,λx hx=>by have:=h.2 x hx;unfold Sml;omega⟩,hk⟩
def okN (x:Iss):Prop:=1<=x.d/\x.d<=9999/\1<=x.l/\x.l<=8
def cmpN (x y:Iss):Int:=if x.d-y.d=0 then x.l-y.l else x.d-y.d
def or_pc (a b:Int):PC prog G 40 [.vsl [[.int .i64 a],[.int .i64 b]]] (.int .i64 (if a=0 then b else a)):=by
 (refine Z60 rfl λR hG hrd=>Qga ?_;subst hG)
 simp -implicitDefEqProofs[Z5Y,Z5Z];refine Z91 (λi=>⟨[(8,.int .i64 i),(7,.int .i64 2),(6,.vsl [[.int .i64 a],[.int .i64 b]]),(3,.int .i64 0)],[]⟩) (λi=>(0<i->a=0)/\(1<i->b=0)) 2 (by (first|exact Wka|exact Wkb)) (by simp) ?_ ?_
 . intro i hi he;refine Qga ?_
   match i,hi,he with
   | 0,_,_ =>
     have w1:i64.wrap 1=1:=rfl;by_cases h:a=0
     . simp -implicitDefEqProofs[h,w1]
       (first|exact Wka|exact Wkb)
     . simp -implicitDefEqProofs[h];refine Qgr ?_;simp -implicitDefEqProofs[h]
   | 1,_,he =>
     have h0:=he.1 (by omega);have w1:i64.wrap 2=2:=rfl;by_cases h:b=0
     . simp -implicitDefEqProofs[h,w1];exact ⟨(by (first|exact Wka|exact Wkb)),h0⟩
     . simp -implicitDefEqProofs[h];refine Qgr ?_;simp -implicitDefEqProofs[h,h0]
 . rintro ⟨h0,h1⟩;refine Qga ?_;have e0:=h0 (by omega);have e1:=h1 (by omega);simp -implicitDefEqProofs;refine Qgr ?_;simp -implicitDefEqProofs[e0,e1]
def Zcf (x y:Iss) (hx:okN x) (hy:okN y):PC prog G 39 [.agg (isa x),.agg (isa y)] (.int .i64 (cmpN x y)):=by
 (refine Z5U rfl λR hG hrd=>Qga ?_;subst hG)
 obtain ⟨x1,x2,x3,x4⟩:=hx;obtain ⟨y1,y2,y3,y4⟩:=hy;have w1:i64.wrap (x.d-y.d)=x.d-y.d:=Yf;have w2:i64.wrap (x.l-y.l)=x.l-y.l:=Yf;simp -implicitDefEqProofs[Z5S,Z5T,isa,w1,w2];refine Qco (or_pc (x.d-y.d) (x.l-y.l)) ?_;simp -implicitDefEqProofs[cmpN]
def Zcg (x y:Iss):PC prog G 42 [.agg (isa x),.agg (isa y)] (.bool (decide (x.d=y.d/\x.l=y.l))):=by
 (refine Z5X rfl λR hG hrd=>Qga ?_;subst hG)
 have e1:isa x=[.int .i64 x.d,.int .i64 x.l,.int .u8 x.k,.vsl (x.its.map ita),.vsl (x.dms.map dma)]:=rfl;have e2:isa y=[.int .i64 y.d,.int .i64 y.l,.int .u8 y.k,.vsl (y.its.map ita),.vsl (y.dms.map dma)]:=rfl;simp -implicitDefEqProofs[Z5V,Z5W,e1,e2];refine Qco (Za5 x) ?_;simp -implicitDefEqProofs;refine Qco (Za5 y) ?_;simp -implicitDefEqProofs
 trace_state
 rfl
def ccA (a b:Jr):AV:=.vsl [[.vsl (a.map isa)],[.vsl (b.map isa)]]
def ccR (a b:Jr) (i:Nat):List (List AV):=if i=0 then [] else if i=1 then a.map isa else (a++b).map isa
def Zch (l:Jr):(l.map isa).all (λr=>r.length == 5)=true:=by simp[isa]
def Zci (l:Jr):(l.map isa).all (λr=>r.all AV.one)=true:=by simp[isa,AV.one]
def Zcj (l:Jr):(l.map isa).all (λr=>r.all AV.pure)=true:=by simp[isa,AV.pure]
def Zck (l:Jr) (o:List (Nat×AObj)):Yc o (.row 5 (l.map isa))=true:=by
 simp only[Yc,W03,W0i];rintro x ⟨y,-,rfl⟩ v hv;simp only[isa,W0g,W0Q,or_false]at hv;rcases hv with rfl|rfl|rfl|rfl|rfl <;> simp[Ya,AV.keys]
def Zcl (a b:Jr) (h0:a≠[]) (hb0:b≠[]) (ha:a.length<=400) (hb:b.length<=400):PC prog G 36 [ccA a b] (.vsl ((a++b).map isa)):=by
 (refine Z5I rfl λR hG hrd=>Qga ?_;subst hG)
 simp -implicitDefEqProofs[Z5G,Z5H,ccA];refine Z91 (λi=>⟨[(11,.int .i64 i),(10,.int .i64 2),(9,ccA a b),(0,ccA a b),(3,.int .i64 (if i=0 then 0 else if i=1 then a.length else a.length+b.length:Nat))],[]⟩) (λi=>True) 2 (by simp only[ccA];(first|exact Wka|exact Wkb)) trivial ?_ ?_
 . intro i hi _;refine Qga ?_
   match i,hi with
   | 0,_ =>
     have w1:i64.wrap 1=1:=rfl;have w2:i64.wrap (a.length:Int)=a.length:=Yf;have k2:¬(a.length:Int)<0:=(by omega);simp -implicitDefEqProofs[ccA,w1,w2,k2]
     (first|exact Wka|exact Wkb)
   | 1,_ =>
     have w1:i64.wrap 2=2:=rfl;have w2:i64.wrap ((a.length:Int)+b.length)=((a.length+b.length:Nat):Int):=Yf;have k2:¬((a.length:Int)+b.length)<0:=(by omega);simp -implicitDefEqProofs[ccA,w1,w2,k2]
     (first|exact Wka|exact Wkb)
 . intro _;refine Qga ?_;have hp:0<a.length:=List.length_pos_iff.2 h0;simp -implicitDefEqProofs[ccA];refine Qgr ?_;have gp:=Z6u (G:=R.G) (a.length+b.length) (by omega) (by omega);rw[Int.natCast_add]at gp;simp -implicitDefEqProofs;refine Z2S.new gp (by simp[AV.pure]) (by rfl) ?_;simp -implicitDefEqProofs;refine Z91 (λi=>⟨[(27,.int .i64 i),(26,.int .i64 2),(25,ccA a b),(6,.osl 24 (ccR a b i).length)],[(24,.row 5 (ccR a b i))]⟩) (λi=>True) 2 (by simp only[ccA,ccR];(first|exact Wka|exact Wkb)) trivial ?_ ?_
   . intro i hi _;refine Qga ?_;have f1:=Zch a;have f2:=Zch b;have o1:=Zci a;have o2:=Zci b;have p1:=Zcj a;have p2:=Zcj b
     match i,hi with
     | 0,_ =>
       have w1:i64.wrap 1=1:=rfl;have b1:a.length*72<=70368744177664:=(by omega);simp -implicitDefEqProofs[ccA,ccR,w1,b1,f1,o1,p1,h0];refine Ym.sub (by simp[lk,Ya,AV.keys]) ?_;simp only[W0g,W0Q,or_false,W1H,forall_eq,Zck,and_true];simp[lk]
     | 1,_ =>
       have w1:i64.wrap 2=2:=rfl;have b1:(a.length+b.length)*72<=70368744177664:=(by omega);simp -implicitDefEqProofs[ccA,ccR,w1,b1,f2,o2,p2,hb0];have ik:=Zck (a++b);simp only[W0r]at ik;refine Ym.sub (by simp[lk,Ya,AV.keys]) ?_;simp only[W0g,W0Q,or_false,W1H,forall_eq,ik,and_true];simp[lk]
   . intro _;refine Qga ?_;simp -implicitDefEqProofs[ccA,ccR];refine Qgr ?_;have p1:=Zcj a;have p2:=Zcj b;simp -implicitDefEqProofs[p1,p2]
def kyN (x:Iss):Int:=x.d*16+x.l
def Zcm {x y:Iss} (hx:okN x) (hy:okN y):cmpN x y<0↔kyN x<kyN y:=by
 obtain ⟨x1,x2,x3,x4⟩:=hx;obtain ⟨y1,y2,y3,y4⟩:=hy;unfold cmpN kyN
 split <;> omega
def Zcn {x y:Iss} (hx:okN x) (hy:okN y):kyN x=kyN y↔(x.d=y.d/\x.l=y.l):=by
 obtain ⟨x1,x2,x3,x4⟩:=hx;obtain ⟨y1,y2,y3,y4⟩:=hy;unfold kyN;omega
def leN (x y:Iss):Bool:=decide (kyN x<=kyN y)
def sortN (l:Jr):List Iss:=l.mergeSort leN
def SrtN (l:Jr):Prop:=l.Pairwise λx y=>kyN x<=kyN y
def InjN (l:Jr):Prop:=∀ x∈l,∀ y∈l,kyN x=kyN y->x=y
def Zco (l:Jr):(sortN l).Perm l:=List.mergeSort_perm l _
def Zcp (l:Jr):SrtN (sortN l):=by
 have:=List.pairwise_mergeSort (le:=leN) (λa b c=>by simp[leN];omega) (λa b=>by simp[leN];omega) l;exact this.imp (by simp[leN])
def InjN.perm {a b:Jr} (h:InjN a) (p:a.Perm b):InjN b:=λx hx y hy=>h x (p.mem_iff.2 hx) y (p.mem_iff.2 hy)
def InjN.sub {a b:Jr} (h:InjN a) (s:∀ x∈b,x∈a):InjN b:=λx hx y hy=>h x (s x hx) y (s y hy)
def Zcq {a b:Jr} (hi:InjN a) (p:a.Perm b) (ha:SrtN a) (hb:SrtN b):a=b :=
 List.Perm.eq_of_pairwise (le:=λx y=>kyN x<=kyN y) (λx y hx hy h1 h2=>hi x hx y (p.mem_iff.2 hy) (by omega)) ha hb p
def Zcr {l s:Jr} (hi:InjN l) (p:s.Perm l) (hs:SrtN s):sortN l=s :=
 Zcq (hi.perm (Zco l).symm) ((Zco l).trans p.symm) (Zcp l) hs
def Zcs (l:Jr):(sortN l).length=l.length:=(Zco l).length_eq
def Zct {l:Jr} {x:Iss}:x∈sortN l↔x∈l:=(Zco l).mem_iff
def srtS (l:Jr) (a b:Nat):List Iss:=l.take a++(sortN ((l.take b).drop a)++l.drop b)
def Zcu {l:Jr} {a b:Nat} (h1:a<=b) (h2:b<=l.length):(srtS l a b).length=l.length:=by
 simp[srtS,Zcs];omega
def Zcv {l:Jr} {a b:Nat} (h1:a<=b) (h2:b<=a+1):srtS l a b=l:=by
 have e:sortN ((l.take b).drop a)=(l.take b).drop a:=by
  generalize hq:(l.take b).drop a=q;have hl:q.length<=1:=by rw[<- hq];simp;omega
  match q,hl with
  |[],_=>simp[sortN]
  |[x],_=>simp[sortN]
 have e2:l.take a=(l.take b).take a:=(by rw[List.take_take,Nat.min_eq_left h1]);rw[srtS,e,<- W0U,e2,W11,W11]
def mvS (l:Jr) (a i p:Nat):List Iss :=
 l.take a++((sortN ((l.take i).drop a)).take p++(l.getD i default::((sortN ((l.take i).drop a)).drop p++l.drop (i+1))))
def Zcw {l:Jr} {a i:Nat} (h:i<=l.length):(sortN ((l.take i).drop a)).length=i-a:=by rw[Zcs];simp;omega
def Zcx {l:Jr} {a i:Nat} (h1:a<=i) (h2:i<l.length):srtS l a i=mvS l a i (i-a):=by
 have e:=Zcw (l:=l) (a:=a) (i:=i) (by omega);rw[mvS,srtS,W0x h2];generalize sortN ((l.take i).drop a)=s at *;rw[W0J (by omega:s.length<=i-a),W1h (by omega:s.length<=i-a)];simp[W0j,h2]
def Zcy {l:Jr} {a i p:Nat} (h1:a<=i) (h2:i<l.length) (h3:p<=i-a):(mvS l a i p).length=l.length:=by
 have e:=Zcw (l:=l) (a:=a) (i:=i) (by omega);simp[mvS,e];omega
def Zcz {α:Type} (D C:List α) (y x:α) (n:Nat) (h:n=D.length):((D++y::x::C).set (n+1) y).set n x=D++x::y::C:=by
 subst h;rw[W1W _ _ (by omega),W1W _ _ (by omega)];simp
def ZcA {l:Jr} {a i p:Nat} (h1:a<=i) (h2:i<l.length) (h3:p+1<=i-a) :
  ∃ y,(sortN ((l.take i).drop a))[p]? = some y/\(mvS l a i (p+1))[a+p+1]? = some l[i]/\(mvS l a i (p+1))[a+p]? = some y/\((mvS l a i (p+1)).set (a+p+1) y).set (a+p) l[i]=mvS l a i p/\y∈l:=by
 have e:=Zcw (l:=l) (a:=a) (i:=i) (by omega);have hm:∀ y∈sortN ((l.take i).drop a),y∈l:=λy hy=>W1p (W1L (Zct.1 hy))
 unfold mvS;generalize sortN ((l.take i).drop a)=s at *;have hp:p<s.length:=(by omega);have ta:(l.take a).length=a:=(by simp;omega);have e1:s.take (p+1)=s.take p++[s[p]]:=W08 hp;have e2:s.drop p=s[p]::s.drop (p+1):=W0x hp;have e3:l.getD i default=l[i]:=(by simp[W0j,h2]);have tp:(s.take p).length=p:=(by simp;omega);refine ⟨s[p],by simp[hp],?_,?_,?_,hm _ (W0e hp)⟩
 . rw[e1,e3,W0o (by omega),ta,W0o (by simp;omega)];have:a+p+1-a-(s.take p++[s[p]]).length=0:=(by simp;omega);rw[this];rfl
 . rw[e1,W0o (by omega),ta,W0U,W0o (by omega),tp];have:a+p-a-p=0:=(by omega);rw[this];rfl
 . rw[e1,e2,e3,W0U];have q:=Zcz (l.take a++s.take p) (s.drop (p+1)++l.drop (i+1)) s[p] l[i] (a+p) (by simp;omega);simp only[W0U,W1d,W18]at q ⊢;exact q
def ZcB {l:Jr} {a i p:Nat} (hi:InjN l) (h1:a<=i) (h2:i<l.length) (h3:p<=i-a)
  (hd:∀ y∈(sortN ((l.take i).drop a)).drop p,kyN l[i]<kyN y) (hc:∀ q,p=q+1->∀ y,(sortN ((l.take i).drop a))[q]? = some y->¬kyN l[i]<kyN y):mvS l a i p=srtS l a (i+1):=by
 have e:=Zcw (l:=l) (a:=a) (i:=i) (by omega);have e3:l.getD i default=l[i]:=by simp[W0j,h2]
 have e4:(l.take (i+1)).drop a=(l.take i).drop a++[l[i]]:=by
  rw[W08 h2,List.drop_append_of_le_length (by simp;omega)]
 have hs:=Zcp ((l.take i).drop a);have hp:=Zco ((l.take i).drop a);have hm:∀ x∈(l.take (i+1)).drop a,x∈l:=λy hy=>W1p (W1L hy)
 rw[srtS,mvS,e3];rw[Zcr (s:=(sortN ((l.take i).drop a)).take p++l[i]::(sortN ((l.take i).drop a)).drop p) (hi.sub hm)]
 . simp[W0U]
 . rw[e4];refine List.perm_middle.trans ?_;rw[W11];exact (List.perm_cons _).2 hp |>.trans (List.perm_append_singleton _ _).symm
 . generalize sortN ((l.take i).drop a)=s at *;have hs2:=hs;unfold SrtN at hs ⊢;rw[<- W11 p s,W1Y]at hs;obtain ⟨t1,t2,t3⟩:=hs;rw[W1Y];refine ⟨t1,W1j.2 ⟨λy hy=>by have:=hd y hy;omega,t2⟩,λu hu v hv=>?_⟩;rcases W0g.1 hv with rfl|hv
   . match p,hc,h3 with
     |0,_,_=>simp at hu
     | q + 1,hc,h3 =>
       have hq:q<s.length:=(by omega);have hc2:=hc q rfl s[q] (by simp[hq]);obtain ⟨j,hj,rfl⟩:=W0k hu;rw[W1O];have hjq:j<=q:=(by simp at hj;omega);rcases W0q j q with hl|hg
       . have:=W0Y.1 hs2 j q (by omega) hq hl;omega
       . have:j=q:=(by omega);subst this;omega
   . exact t3 u hu v hv
def ZcC (ok:Nat->Bool) (st:St) (l:Jr):frzO ok st (.row 5 (l.map isa)) = .row 5 (l.map isa):=by
 simp only[frzO,W10]
 congr 2
 funext p;simp[isa,frzA,frz,AV.keys]
def fM1:AV:=.func (.func 39) [] []
def ZcD (l:Jr) (a b:Nat) (hv:∀ x∈l,okN x) (hin:InjN l) (h1:a<=b) (h2:b<=l.length) (h3:l.length<=1000) :
  PB prog G 83 [(1000,.row 5 (l.map isa))] [.osl 1000 l.length,.int .i64 a,.int .i64 b,fM1] (.tup []) [(1000,.row 5 ((srtS l a b).map isa))]:=by
 (refine Z5R (W0C rfl) λR hG hrd=>Qga ?_;subst hG)
 have w1:i64.wrap ((a:Int)+1)=a+1:=Yf;simp -implicitDefEqProofs[Z5P,Z5Q,fM1,w1];refine Z91 (λi=>⟨[(8,.int .i64 ((a:Int)+1+i)),(0,.osl 1000 l.length),(1,.int .i64 a),(2,.int .i64 b),(3,fM1)],[(1000,.row 5 ((srtS l a (a+1+i)).map isa))]⟩) (λi=>True) (b-(a+1)) ?_ trivial ?_ ?_
 . rw[Zcv (by omega) (by omega)];refine Ym.sub (by simp[lk,Ya,AV.keys,fM1]) ?_;simp only[W0g,W0Q,or_false,W1H,forall_eq,Zck,and_true];simp[lk]
 . intro i hi _;refine Qga ?_;have k1:(a:Int)+1+i<b:=(by omega);simp -implicitDefEqProofs[fM1,k1];have hI:a+1+i<l.length:=(by omega);have z:=Zcx (l:=l) (a:=a) (i:=a+1+i) (by omega) hI;have z0:a+1+i-a=i+1:=(by omega);rw[z0]at z;rw[z];have hx:=hv _ (W0e hI);have ex:isa l[a+1+i]=[.int .i64 l[a+1+i].d,.int .i64 l[a+1+i].l,.int .u8 l[a+1+i].k,.vsl (l[a+1+i].its.map ita),.vsl (l[a+1+i].dms.map dma)]:=rfl;have hat:=λp (hp:p+1<=a+1+i-a)=>ZcA (l:=l) (a:=a) (i:=a+1+i) (p:=p) (by omega) hI hp
   have hend:=λp=>ZcB (l:=l) (a:=a) (i:=a+1+i) (p:=p) hin (by omega) hI
   have hln:=λp (hp:p<=a+1+i-a)=>Zcy (l:=l) (a:=a) (i:=a+1+i) (p:=p) (by omega) hI hp
   have hsl:=Zcw (l:=l) (a:=a) (i:=a+1+i) (by omega);generalize hsg:sortN ((l.take (a+1+i)).drop a)=s at *;generalize hxx:l[a+1+i]=x at *
   refine Z1Q (λp:Nat=>⟨[(9,.int .i64 ((a:Int)+p)),(8,.int .i64 ((a:Int)+1+i)),(0,.osl 1000 l.length),(1,.int .i64 a),(2,.int .i64 b),(3,.func (.func 39) [] [])],[(1000,.row 5 ((mvS l a (a+1+i) p).map isa))]⟩)
    (λp=>p<=i+1/\∀ y∈s.drop p,kyN x<kyN y) (λp=>p) (i+1) ?_ ⟨W0f _,λy hy=>by rw[W1h (by omega)]at hy;cases hy⟩ ?_
   . have e9:(a:Int)+1+i=(a:Int)+(i+1:Nat):=(by omega);rw[e9];refine Ym.sub (by simp[lk,Ya,AV.keys]) ?_;simp only[W0g,W0Q,or_false,W1H,forall_eq,Zck,and_true];simp[lk]
   . rintro p ⟨hp,hd⟩;refine Qga ?_
     cases p with
     | zero =>
       have k2:¬(a:Int)<a:=(by omega);simp -implicitDefEqProofs;refine ⟨rfl,?_⟩;refine Qgr ?_;have w3:i64.wrap ((a:Int)+1+i+1)=(a:Int)+1+(i+1):=(by rw[Yf (by omega) (by omega)];omega);have he:=hend 0 (W1e _) hd (λq hq=>by omega);have he2:a+1+i+1=a+1+(i+1):=(by omega);rw[he2]at he;simp -implicitDefEqProofs[w3];refine Ym.sub (by simp[lk,Ya,AV.keys]) ?_;simp only[W0g,W0Q,or_false,W1H,forall_eq,Zck,and_true];simp[lk,he]
     | succ p =>
       obtain ⟨y,hy0,hy1,hy2,hy3,hy4⟩:=hat p (by omega);have ey:isa y=[.int .i64 y.d,.int .i64 y.l,.int .u8 y.k,.vsl (y.its.map ita),.vsl (y.dms.map dma)]:=rfl;have hl2:=hln (p+1) (by omega);have k2:(a:Int)<(a:Int)+(p+1):=(by omega);have k3:((a:Int)+(p+1)).toNat=a+p+1:=(by omega);have w2:i64.wrap ((a:Int)+(p+1)-1)=(a:Int)+p:=(by rw[Yf (by omega) (by omega)];omega);have k4:((a:Int)+p).toNat=a+p:=(by omega);have k5:a+p+1<l.length:=(by omega);have k6:a+p<l.length:=(by omega);have k7:(0:Int)<=(a:Int)+(p+1):=(by omega);have k8:(0:Int)<=(a:Int)+p:=(by omega);have he:=hend (p+1) (by omega) hd;generalize mvS l a (a+1+i) (p+1)=Q at *;obtain ⟨q1,g1⟩:=W02.1 hy1;obtain ⟨q2,g2⟩:=W02.1 hy2;have hcl:=Zcm hx (hv y hy4);simp -implicitDefEqProofs[k2,k3,w2,k4,k5,k6,k7,k8,g1,g2,hl2,ex,ey];refine Ye.of (Zcf x y hx (hv y hy4)) (by simp[AV.pure]) ?_;by_cases hlt:cmpN x y<0
       . simp -implicitDefEqProofs[hlt,k3,w2,k4,k5,k6,k7,k8,g1,g2,hl2,ex,ey];refine ⟨rfl,rfl,p,?_,⟨by omega,λu hu=>?_⟩,W2d _⟩
         . rw[<- ex,<- ey,<- W2a,<- W2a,hy3];refine Ym.sub (by simp[lk,Ya,AV.keys]) ?_;simp only[W0g,W0Q,or_false,W1H,forall_eq,Zck,and_true];simp[lk]
         . obtain ⟨hps,gs⟩:=W02.1 hy0;rw[W0x hps,gs]at hu;rcases W0g.1 hu with rfl|hu
           . exact hcl.1 hlt
           . exact hd u hu
       . simp -implicitDefEqProofs[hlt];refine ⟨rfl,?_⟩;refine Qgr ?_;have w3:i64.wrap ((a:Int)+1+i+1)=(a:Int)+1+(i+1):=by rw[Yf (by omega) (by omega)];omega
         have he:=he (λq hq u hu hk=>by
          have:q=p:=(by omega);subst this;rw[hy0]at hu
          cases hu
          exact hlt (hcl.2 hk))
         have he2:a+1+i+1=a+1+(i+1):=(by omega);rw[he2]at he;simp -implicitDefEqProofs[w3];refine Ym.sub (by simp[lk,Ya,AV.keys]) ?_;simp only[W0g,W0Q,or_false,W1H,forall_eq,Zck,and_true];simp[lk,he]
 . intro _;refine Qga ?_;have k1:¬(a:Int)+1+(b-(a+1):Nat)<b:=(by omega);simp -implicitDefEqProofs[fM1,k1];refine Qgr ?_
   have e:srtS l a (a+1+(b-(a+1)))=srtS l a b:=by
    rcases W0q a b with h|h
    . congr 1;omega
    . rw[Zcv (by omega) (by omega),Zcv (by omega) (by omega)]
   rw[e];refine ⟨[],rfl,rfl,?_⟩;simp[Yi,newK,ZcC]
def ZcE (ρ:Nat->Nat) (l:Jr):AObj.ren ρ (.row 5 (l.map isa)) = .row 5 (l.map isa):=by
 simp only[AObj.ren,W10]
 congr 2
 funext p;simp[isa,AV.ren]
def smN (x y:Iss):Bool:=decide (x.d=y.d/\x.l=y.l)
def kN (l:Jr):Nat->List Iss
 |0=>[]
 |p+1=>if p≠0/\smN (l.getD p default) (l.getD (p-1) default)=true then kN l p else kN l p++[l.getD p default]
def ZcF (l:Jr):∀ p,(kN l p).length<=p
 |0=>W0f _
 | p+1=>by
   have:=ZcF l p;rw[kN];split <;> simp <;> omega
def noD (l:Jr) (p:Nat):Prop:=∀ j,0<j->j<p->smN (l.getD j default) (l.getD (j-1) default)=false
def ZcG {l:Jr}:∀ {p:Nat},noD l p->p<=l.length->kN l p=l.take p
 |0,_,_=>rfl
 | p + 1,h,hp=>by
   rw[kN,ZcG (p:=p) (λj h1 h2=>h j h1 (by omega)) (by omega),W08 (by omega)];have e:l.getD p default=l[p]:=by simp[W0j,show p<l.length by omega]
   split
   . rename_i h2;rw[h p (by omega) (by omega)]at h2;exact absurd h2.2 (by simp)
   . rw[e]
def cpS (l:Jr) (p:Nat):List Iss:=kN l p++l.drop (kN l p).length
def ZcH {l:Jr} {p:Nat} (h:p<=l.length):(cpS l p).length=l.length:=by
 have:=ZcF l p;simp[cpS];omega
def ZcI {l:Jr} {p j:Nat} (hp:p<l.length) (h1:(kN l p).length<=j) (h2:j<=p):(cpS l p)[j]? = some (l.getD j default):=by
 rw[cpS,W0o h1,W13];have:(kN l p).length+(j-(kN l p).length)=j:=(by omega);rw[this];simp[W0j,show j<l.length by omega]
def ZcJ {l:Jr} {p:Nat} (hp:p<l.length) (h:¬(p≠0/\smN (l.getD p default) (l.getD (p-1) default)=true)):(cpS l p).set (kN l p).length (l.getD p default)=cpS l (p+1):=by
 have hl:=ZcF l p;have e:kN l (p+1)=kN l p++[l.getD p default]:=(by rw[kN,if_neg h]);rw[cpS,cpS,e,W1W _ _ (by omega),W29,W0x (by omega:(kN l p).length<l.length)];simp only[List.set_cons_zero,W0s,List.length_singleton,W0U,List.singleton_append]
def ZcK {l:Jr} {p:Nat} (h:p≠0/\smN (l.getD p default) (l.getD (p-1) default)=true):cpS l (p+1)=cpS l p/\kN l (p+1)=kN l p:=by
 have e:kN l (p+1)=kN l p:=(by rw[kN,if_pos h]);exact ⟨by rw[cpS,cpS,e],e⟩
def cmpct (l:Jr):List Iss:=kN l l.length
def zrI:List AV:=[.int .i64 0,.int .i64 0,.int .u8 0,.nils,.nils]
def cmpO (l:Jr):List (List AV):=(cmpct l).map isa++List.replicate (l.length-(cmpct l).length) zrI
def cmpV (k:Nat) (l:Jr):AV:=if (cmpct l).length=l.length then .osl k l.length else .oss k l.length 0 (cmpct l).length
def fM2:AV:=.func (.func 42) [] []
def kN_lt {l:Jr} {k:Nat} (hk0:k≠0) (hd:smN (l.getD k default) (l.getD (k-1) default)=true):∀ p,k<p->(kN l p).length<p:=by
 intro p hp
 induction p with
 |zero=>omega
 | succ p ih =>
   by_cases h:p=k
   . subst h;have:=ZcF l p;rw[kN,if_pos ⟨hk0,hd⟩];omega
   . have:=ih (by omega);rw[kN];split <;> simp <;> omega
def ZcL {l:Jr} {p:Nat} (h:p<l.length):l.getD p default=l[p]:=by simp[W0j,h]
def ZcM {l:Jr} (h:noD l l.length):cmpct l=l:=by rw[cmpct,ZcG h (W0f _),W0v]
def ZcN (ok:Nat->Bool) (st:St) (l:Jr):frzO ok st (.row 5 (cmpO l)) = .row 5 (cmpO l):=by
 have h:=ZcC ok st (cmpct l);simp only[frzO,AObj.row.injEq,true_and]at h ⊢;rw[cmpO,W0r,h];simp[zrI,frzA,frz,AV.keys]
def ZcO (l:Jr) (h3:l.length<=1000) :
  PB prog G 41 [(1000,.row 5 (l.map isa))] [.osl 1000 l.length,fM2] (cmpV 1000 l) [(1000,.row 5 (cmpO l))]:=by
 (refine Z63 (W0C rfl) λR hG hrd=>Qga ?_;subst hG)
 simp -implicitDefEqProofs[Z61,Z62,fM2];by_cases hs:(l.length:Int)<2
 . have e:cmpct l=l:=ZcM λj h1 h2=>by omega
   simp -implicitDefEqProofs[hs];refine ⟨[.osl 1000 l.length],?_,?_,?_⟩
   . simp[Z29,evRes,Yi,newK,frzA,frz,AV.keys,lk,St.tmp,Z62]
   . simp[cmpV,e,tupV]
   . simp[Yi,newK,ZcC,cmpO,e]
 simp -implicitDefEqProofs[hs];refine Z91 (λi=>⟨[(5,.int .i64 ((i:Int)+1)),(0,.osl 1000 l.length),(1,fM2)],[(1000,.row 5 (l.map isa))]⟩) (λi=>noD l (i+1)) (l.length-1) ?_ (λj h1 h2=>by omega) ?_ ?_
 . refine Ym.sub (by simp[lk,Ya,AV.keys,fM2]) ?_;simp only[W0g,W0Q,or_false,W1H,forall_eq,Zck,and_true];simp[lk]
 . intro i hi hn;refine Qga ?_;have k1:(i:Int)+1<l.length:=(by omega);have k2:((i:Int)+1).toNat=i+1:=(by omega);have k3:(0:Int)<=(i:Int)+1:=(by omega);have k4:i+1<l.length:=(by omega);have k5:i<l.length:=(by omega);have w1:i64.wrap (i:Int)=i:=Yf;have w2:i64.wrap ((i:Int)+1+1)=(i:Int)+1+1:=Yf;have ex:∀ x,isa x=[.int .i64 x.d,.int .i64 x.l,.int .u8 x.k,.vsl (x.its.map ita),.vsl (x.dms.map dma)]:=λx=>rfl
   simp -implicitDefEqProofs[fM2,k1,k2,k3,k4,k5,w1,ex];refine Ye.of (Zcg l[i+1] l[i]) (by simp[AV.pure,isa]) ?_;have hsm:smN (l.getD (i+1) default) (l.getD i default)=decide (l[i+1].d=l[i].d/\l[i+1].l=l[i].l):=(by rw[ZcL k4,ZcL k5];rfl);by_cases hd:l[i+1].d=l[i].d/\l[i+1].l=l[i].l
   . simp -implicitDefEqProofs [hd];refine ⟨rfl,?_⟩;rw[W0M hd]at hsm;have hs2:i+1≠0/\smN (l.getD (i+1) default) (l.getD (i+1-1) default)=true:=⟨by omega,hsm⟩;have hk:=ZcG hn (by omega);have hk1:(kN l (i+1)).length=i+1:=(by rw[hk];simp;omega);obtain ⟨c1,c2⟩:=ZcK hs2;have c3:cpS l (i+1)=l:=(by rw[cpS,hk1,hk,W11]);have hkl:=λp=>kN_lt (l:=l) (k:=i+1) (by omega) hsm p
     have k6:i+1<=l.length:=(by omega);simp -implicitDefEqProofs[k2,k3,k6];refine Z91 (λj=>⟨[(7,.int .i64 ((j:Int)+1)),(6,.oss 1000 l.length (i+1) l.length),(5,.int .i64 (kN l (i+1+1+j)).length),(0,.osl 1000 l.length),(1,.func (.func 42) [] [])],[(1000,.row 5 ((cpS l (i+1+1+j)).map isa))]⟩) (λ_=>True) (l.length-(i+1+1)) ?_ trivial ?_ ?_
     . have z1:cpS l (i+1+1+0)=l:=(by rw[W1Q,c1,c3]);have z2:(kN l (i+1+1+0)).length=i+1:=(by rw[W1Q,c2,hk1]);rw[z1,z2];refine Ym.sub (by simp[lk,Ya,AV.keys]) ?_;simp only[W0g,W0Q,or_false,W1H,forall_eq,Zck,and_true];simp[lk]
     . intro j hj _;refine Qga ?_;have hq:i+1+1+j<l.length:=(by omega);have hq2:i+1+j<l.length:=(by omega);have hml:=hkl (i+1+1+j) (by omega);have hcl:=ZcH (l:=l) (p:=i+1+1+j) (by omega);have a1:=ZcI (j:=i+1+1+j) hq (by omega) (by omega);have a2:=ZcI (j:=i+1+j) hq (by omega) (by omega);rw[ZcL hq]at a1;rw[ZcL hq2]at a2;have hkeep:=ZcJ hq;have hskip:=ZcK (l:=l) (p:=i+1+1+j);have e3:i+1+1+j-1=i+1+j:=(by omega);have hkk:kN l (i+1+1+j+1)=kN l (i+1+1+j+1):=rfl
       conv at hkk=>rhs;rw[kN]
       have hsm2:smN (l.getD (i+1+1+j) default) (l.getD (i+1+j) default)=decide (l[i+1+1+j].d=l[i+1+j].d/\l[i+1+1+j].l=l[i+1+j].l):=(by rw[ZcL hq,ZcL hq2];rfl);rw[e3,hsm2,ZcL hq]at hkeep hkk;rw[e3,hsm2]at hskip;have e4:i+1+1+(j+1)=i+1+1+j+1:=(by omega);have m1:(j:Int)+1<((l.length-(i+1):Nat):Int):=(by omega);have m2:((j:Int)+1).toNat=j+1:=(by omega);have m3:(0:Int)<=(j:Int)+1:=(by omega);have m4:j+1<l.length-(i+1):=(by omega);have m5:j<l.length-(i+1):=(by omega);have m6:i+1+(j+1)=i+1+1+j:=(by omega);have u1:i64.wrap (j:Int)=j:=Yf;have u2:i64.wrap ((j:Int)+1+1)=(j:Int)+1+1:=Yf;have u3:i64.wrap (((kN l (i+1+1+j)).length:Int)+1)=(kN l (i+1+1+j)).length+1:=Yf;have m7:(kN l (i+1+1+j)).length<l.length:=(by omega);have hpl:=ZcF l (i+1+1+j);generalize cpS l (i+1+1+j)=Q at *;obtain ⟨q1,g1⟩:=W02.1 a1;obtain ⟨q2,g2⟩:=W02.1 a2;generalize l[i+1+1+j]=x at *;generalize l[i+1+j]=y at *;have ex1:=ex x;have ey1:=ex y;simp -implicitDefEqProofs[m1,m2,m3,m4,m5,m6,u1,u2,hq,hq2,g1,g2,hcl,ex1,ey1];refine Ye.of (Zcg x y) (by simp[AV.pure,isa]) ?_;by_cases hd2:x.d=y.d/\x.l=y.l
       . obtain ⟨f1,f2⟩:=hskip ⟨by omega,W0M hd2⟩;simp -implicitDefEqProofs[hd2,u2];refine ⟨rfl,?_⟩;rw[e4,f1,f2];refine Ym.sub (by simp[lk,Ya,AV.keys]) ?_;simp only[W0g,W0Q,or_false,W1H,forall_eq,Zck,and_true];simp[lk]
       . have hn2:¬(i+1+1+j≠0/\decide (x.d=y.d/\x.l=y.l)=true):=by
          rintro ⟨-,h⟩;exact hd2 (W0X h)
         have f1:=hkeep hn2;rw[if_neg hn2]at hkk;have il:∀ z:Iss,(isa z).length=5:=λz=>rfl
         have id5:∀ z:Iss,(isa z).drop 5=[]:=λz=>rfl
         have m8:(((kN l (i+1+1+j)).length:Int)+1)=((kN l (i+1+1+j+1)).length:Nat):=(by rw[hkk];simp);simp -implicitDefEqProofs[hd2,m1,m2,m3,m4,m5,m6,u1,u2,u3,hq,hq2,g1,g2,hcl,ex1,ey1,m7,il,id5];refine ⟨rfl,?_⟩;rw[<- ex1,<- W2a,f1,m8,e4];refine Ym.sub (by simp[lk,Ya,AV.keys]) ?_;simp only[W0g,W0Q,or_false,W1H,forall_eq,Zck,and_true];simp[lk]
     . intro _;refine Qga ?_;have n1:¬(((l.length-(i+1+1):Nat):Int)+1<((l.length-(i+1):Nat):Int)):=(by omega);have e5:i+1+1+(l.length-(i+1+1))=l.length:=(by omega);rw[e5];have hml:=hkl l.length (by omega);have hcl:=ZcH (l:=l) (p:=l.length) (W0f _);have n2:(kN l l.length).length<=l.length:=(by omega);simp -implicitDefEqProofs[n1,hcl];refine Qgr ?_;simp -implicitDefEqProofs[hcl,n2];refine Qgr ?_
       have t1:List.take (kN l l.length).length ((cpS l l.length).map isa)=(cmpct l).map isa:=by
        rw[<- List.map_take,cpS,List.take_left'];rfl;rfl
       have t2:List.drop l.length ((cpS l l.length).map isa)=[]:=W1h (by simp[hcl]);rw[t1,t2,W1B];have hne:¬(cmpct l).length=l.length:=(by rw[cmpct];omega);refine ⟨[.oss 1000 l.length 0 (kN l l.length).length],?_,?_,?_⟩
       . simp[Z29,evRes,Yi,newK,frzA,frz,AV.keys,lk,St.tmp]
       . rw[cmpV,if_neg hne];rfl
       . have hz:List.map isa (cmpct l)++List.replicate (l.length-(kN l l.length).length) [AV.int .i64 0,AV.int .i64 0,AV.int .u8 0,AV.nils,AV.nils]=cmpO l:=rfl;rw[hz];simp[Yi,newK,ZcN]
   . rw [W0S hd]at hsm;simp -implicitDefEqProofs[hd,w2];refine ⟨rfl,?_,λj h1 h2=>?_⟩
     . ((try simp only[fM2]);refine Ym.sub (by simp[lk,Ya,AV.keys,fM2]) ?_;simp only[fM2,Wkl,Zck,and_true];(try simp[lk,Yc,Ya,AV.keys,fM2]))
     . rcases W0q j (i+1) with h|h
       . exact hn j h1 h
       . have:j=i+1:=(by omega);subst this;exact hsm
 . intro hn;refine Qga ?_;have k1:¬((l.length-1:Nat):Int)+1<l.length:=(by omega);have el:l.length-1+1=l.length:=(by omega);rw[el]at hn;have e:cmpct l=l:=ZcM hn;simp -implicitDefEqProofs[k1,fM2];refine Qgr ?_;simp -implicitDefEqProofs;refine ⟨[.osl 1000 l.length],?_,?_,?_⟩
   . simp[Z29,evRes,Yi,newK,frzA,frz,AV.keys,lk,St.tmp,Z62]
   . simp[cmpV,e,tupV]
   . simp[Yi,newK,ZcC,cmpO,e]
def ZcP (a b:List (Int×Int)) (ha:Sml a):PC prog G 97 [.vsl (a.map ita),.vsl (b.map ita)] (.bool (decide (a=b))):=by
 (refine Z6r rfl λR hG hrd=>Qga ?_;subst hG)
 by_cases hl:a.length=b.length
 . have hl':(a.length:Int)=b.length:=(by omega);simp -implicitDefEqProofs[Z6p,Z6q,hl'];refine Z91 (λi=>⟨[(13,.int .i64 i),(12,.int .i64 a.length),(0,.vsl (a.map ita)),(1,.vsl (b.map ita))],[]⟩) (λi=>∀ j (h:j<a.length),j<i->a[j]=b[j]) a.length (by rw[hl'];(first|exact Wka|exact Wkb)) (by simp) ?_ ?_
   . intro i hi he;refine Qga ?_;unfold Sml at ha;have hi2:i<b.length:=(by omega);have w1:i64.wrap ((i:Int)+1)=((i+1:Nat):Int):=Yf;simp -implicitDefEqProofs[hi,hi2,ita];refine ⟨rfl,?_⟩;by_cases h2:a[i]=b[i]
     . simp -implicitDefEqProofs[h2,w1];refine ⟨(by (first|exact Wka|exact Wkb)),λj h1 h3=>?_⟩;by_cases e:j=i
       . subst e;exact h2
       . exact he j h1 (by omega)
     . have h3:¬a=b:=λe=>h2 (by subst e;rfl)
       rw[Z9a h2];simp -implicitDefEqProofs;refine Qgr ?_;simp -implicitDefEqProofs[h3]
   . intro he;refine Qga ?_;have h3:a=b:=W1D hl λj h1 h2=>he j h1 h1
     simp -implicitDefEqProofs;refine Qgr ?_;simp -implicitDefEqProofs[h3]
 . have hl':¬(a.length:Int)=b.length:=(by omega);have h3:¬a=b:=λe=>hl (by rw[e])
   simp -implicitDefEqProofs[Z6p,Z6q,hl',h3]
def ZcQ (a b:List Dm) (ha:Sml a):PC prog G 82 [.vsl (a.map dma),.vsl (b.map dma)] (.bool (decide (a=b))):=by
 (refine Z6o rfl λR hG hrd=>Qga ?_;subst hG)
 by_cases hl:a.length=b.length
 . have hl':(a.length:Int)=b.length:=(by omega);simp -implicitDefEqProofs[Z6m,Z6n,hl'];refine Z91 (λi=>⟨[(13,.int .i64 i),(12,.int .i64 a.length),(0,.vsl (a.map dma)),(1,.vsl (b.map dma))],[]⟩) (λi=>∀ j (h:j<a.length),j<i->a[j]=b[j]) a.length (by rw[hl'];(first|exact Wka|exact Wkb)) (by simp) ?_ ?_
   . intro i hi he;refine Qga ?_;unfold Sml at ha;have hi2:i<b.length:=(by omega);have w1:i64.wrap ((i:Int)+1)=((i+1:Nat):Int):=Yf;simp -implicitDefEqProofs[hi,hi2,dma];refine ⟨rfl,?_⟩;by_cases h2:a[i]=b[i]
     . simp -implicitDefEqProofs[h2,w1];refine ⟨(by (first|exact Wka|exact Wkb)),λj h1 h3=>?_⟩;by_cases e:j=i
       . subst e;exact h2
       . exact he j h1 (by omega)
     . have h3:¬a=b:=λe=>h2 (by subst e;rfl)
       rw[dm_ne h2];simp -implicitDefEqProofs;refine Qgr ?_;simp -implicitDefEqProofs[h3]
   . intro he;refine Qga ?_;have h3:a=b:=W1D hl λj h1 h2=>he j h1 h1
     simp -implicitDefEqProofs;refine Qgr ?_;simp -implicitDefEqProofs[h3]
 . have hl':¬(a.length:Int)=b.length:=(by omega);have h3:¬a=b:=λe=>hl (by rw[e])
   simp -implicitDefEqProofs[Z6m,Z6n,hl',h3]
def ZcR (x y:Iss) (h:Sml x.dms):PC prog G 81 [.vptr (isa x) 0,.vptr (isa y) 0] (.bool (decide (x.dms=y.dms))):=by
 (refine Z6i rfl λR hG hrd=>Qga ?_;subst hG)
 simp -implicitDefEqProofs[Z6g,Z6h,isa];refine Qco (ZcQ x.dms y.dms h) ?_;simp -implicitDefEqProofs
def ZcS (a b:List (Int×Int)) (x y:Iss) (h1:Sml a) (h2:Sml x.dms):PC prog G 80 [.vsl (a.map ita),.vsl (b.map ita),.func (.func 81) [] [.vptr (isa x) 0,.vptr (isa y) 0]] (.bool (decide (a=b)&&decide (x.dms=y.dms))):=by
 (refine Z6l rfl λR hG hrd=>Qga ?_;subst hG)
 simp -implicitDefEqProofs[Z6j,Z6k];refine Qco (ZcP a b h1) ?_;by_cases e:a=b
 . simp -implicitDefEqProofs[e];refine Yd.of (ZcR x y h2) (by simp[AV.pure,isa]) ?_;simp -implicitDefEqProofs
 . simp -implicitDefEqProofs[e]
def ZcT (x y:Iss) (h1:Sml x.its) (h2:Sml x.dms):PC prog G 65 [.agg (isa x),.agg (isa y)] (.bool (decide (x=y))):=by
 (refine Z6f rfl λR hG hrd=>Qga ?_;subst hG)
 have hd:decide (x=y)=(decide (x.d=y.d)&&decide (x.l=y.l)&&decide (x.k=y.k)&&(decide (x.its=y.its)&&decide (x.dms=y.dms))):=by
  rw[Bool.eq_iff_iff];simp only[W0b,W01]
  constructor
  . rintro rfl;simp
  . rintro ⟨⟨⟨e1,e2⟩,e3⟩,e4,e5⟩
    cases x;cases y;simp_all
 have ex:isa x=[.int .i64 x.d,.int .i64 x.l,.int .u8 x.k,.vsl (x.its.map ita),.vsl (x.dms.map dma)]:=rfl;have ey:isa y=[.int .i64 y.d,.int .i64 y.l,.int .u8 y.k,.vsl (y.its.map ita),.vsl (y.dms.map dma)]:=rfl;simp -implicitDefEqProofs[Z6d,Z6e,ex,ey,hd];refine Qco (Za5 x) ?_;simp -implicitDefEqProofs;refine Qco (Za5 y) ?_
 cases e1:decide (x.d=y.d)
 . have e1':=of_decide_eq_false e1;simp -implicitDefEqProofs[e1'];exact rfl
 have e1':=W0X e1
 cases e2:decide (x.l=y.l)
 . have e2':=of_decide_eq_false e2;simp -implicitDefEqProofs[e1',e2'];exact rfl
 have e2':=W0X e2
 cases e3:decide (x.k=y.k)
 . have e3':=of_decide_eq_false e3;simp -implicitDefEqProofs[e1',e2',e3'];exact rfl
 have e3':=W0X e3;simp -implicitDefEqProofs[e1',e2',e3'];have al:=ZcS (G:=R.G) x.its y.its x y h1 h2;rw[ex,ey,e1',e2',e3']at al;refine Ye.flat al (by simp[AV.flat]) (by simp) ?_;simp -implicitDefEqProofs;exact rfl
end Go.Proofs.YthlcppdbldkldaaDoor
