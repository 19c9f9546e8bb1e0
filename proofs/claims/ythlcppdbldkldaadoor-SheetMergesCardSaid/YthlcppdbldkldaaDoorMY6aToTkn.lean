/-
  A family of rows that a state carries along, ahead of its other objects.
-/
import Derived.Test.YthlcppdbldkldaaDoorMHhToTke
set_option linter.all false
set_option maxHeartbeats 8000000
namespace Go.Proofs.YthlcppdbldkldaaDoor
open Go.Proofs.Tryd (prog)
open IntKind (i64)
open Go.RowKit
variable {G:Jg}
def Zf1 {α:Type} {l':List (Nat×α)} {k:Nat}:∀ {l:List (Nat×α)},lk l k=none->lk (l++l') k=lk l' k
 |[],_=>rfl
 | (n,x)::l,h=>by
   simp only[lk]at h
   split at h
   . cases h
   . rename_i e;simp only[W1d,lk,if_neg e];exact Zf1 h
def Zf2 {α:Type} {l':List (Nat×α)} {k:Nat} {x:α}:∀ {l:List (Nat×α)},lk l k=some x->lk (l++l') k=some x
 |[],h=>by simp[lk]at h
 | (n,y)::l,h=>by
   simp only[lk]at h;simp only[W1d,lk]
   split at h
   . rename_i e;rw[if_pos e];exact h
   . rename_i e;rw[if_neg e];exact Zf2 h
def Zf3 {α:Type} {k:Nat} {y:α} {l':List (Nat×α)}:∀ {l:List (Nat×α)},lk l k=none->putO (l++l') k y=l++putO l' k y
 |[],_=>rfl
 | (n,x)::l,h=>by
   simp only[lk]at h
   split at h
   . cases h
   . rename_i e;simp only[putO,e,if_false,W1d];rw[Zf3 h]
def Zf4 {α:Type} {b k:Nat}:∀ {l:List (Nat×α)},(∀ p∈l,b<=p.1)->k<b->lk l k=none
 |[],_,_=>rfl
 | (n,x)::l,h,hk=>by
   have:=h (n,x) (W0H ..);simp only at this;simp only[lk,if_neg (show ¬n=k by omega)];exact Zf4 (λp hp=>h p (W0z _ hp)) hk
structure Tl (T:List (Nat×AObj)):Prop where
 big:∀ p∈T,700<=p.1/\p.1<1000
 nd:(T.map (·.1)).Nodup
 pure:∀ p∈T,∃ sz rows,p.2 = .row sz rows/\rows.all (λr=>r.all AV.pure)=true
 frz:∀ p∈T,∀ ok st,frzO ok st p.2=p.2
section
variable {T:List (Nat×AObj)}
def Tl.nil:Tl []:=⟨by simp,by simp,by simp,by simp⟩
def Tl.low (h:Tl T) {k:Nat} (hk:k<700):lk T k=none:=Zf4 (λp hp=>(h.big p hp).1) hk
def Tl.lk (h:Tl T) (C:List (Nat×AObj)) {k:Nat} (hk:k<700):lk (T++C) k=lk C k:=Zf1 (h.low hk)
def Tl.put (h:Tl T) (C:List (Nat×AObj)) (y:AObj) {k:Nat} (hk:k<700):putO (T++C) k y=T++putO C k y:=Zf3 (h.low hk)
def lk_nd {α:Type}:∀ {l:List (Nat×α)},(l.map (·.1)).Nodup->∀ p∈l,lk l p.1=some p.2
 |[],_,_,h=>by cases h
 | (n,x)::l,hn,p,h=>by
   simp only[W0F,W1v]at hn;rcases W0g.1 h with rfl|h
   . simp[Go.Proofs.YthlcppdbldkldaaDoor.lk]
   . have:¬n=p.1:=λe=>hn.1 (e ▸ W0i.2 ⟨p,h,rfl⟩)
     simp only[Go.Proofs.YthlcppdbldkldaaDoor.lk,if_neg this];exact lk_nd hn.2 p h
def Tl.mem (h:Tl T) (C:List (Nat×AObj)) {p:Nat×AObj} (hp:p∈T):Go.Proofs.YthlcppdbldkldaaDoor.lk (T++C) p.1=some p.2:=Zf2 (lk_nd h.nd p hp)
def Zf5 {o:List (Nat×AObj)} {sz:Nat} {rows:List (List AV)} (h:rows.all (λr=>r.all AV.pure)=true):Yc o (.row sz rows)=true:=by
 simp only[Yc,W03];intro r hr x hx;have:=W03.1 (W03.1 h r hr) x hx;simp[Ya,AV.pure_keys x this]
def Tl.keep (h:Tl T) (o:List (Nat×AObj)) {p:Nat×AObj} (hp:p∈T):Yc o p.2=true:=by
 obtain ⟨sz,rows,e,hq⟩:=h.pure p hp;rw[e];exact Zf5 hq
def Tl.ren (h:Tl T) (ρ:Nat->Nat) {p:Nat×AObj} (hp:p∈T):p.2.ren ρ=p.2:=by
 obtain ⟨sz,rows,e,hq⟩:=h.pure p hp;rw[e];exact AObj.ren_pure hq
def Tl.fin (h:Tl T) {ok:Nat->Bool} (hok:∀ k,700<=k->ok k=false) (t:List (Nat×AV)) (C:List (Nat×AObj)):(Yi ok ⟨t,T++C⟩).o=T++(C.filter λp=>!ok p.1).map λp=>(p.1,frzO ok ⟨t,T++C⟩ p.2):=by
 simp only[Yi,W19,W0r]
 congr 1
 generalize (⟨t,T++C⟩ : St)=st;obtain ⟨hb,-,-,hf⟩:=h;clear C
 induction T with
 |nil=>rfl
 | cons p T ih =>
   have h1:=hok p.1 (hb p (W0H ..)).1;have h2:=hf p (W0H ..) ok st;have h3:=ih (λq hq=>hb q (W0z _ hq)) (λq hq=>hf q (W0z _ hq));simp only[List.filter_cons,h1,W1z,if_true,W0F,h2];rw[h3]
def St.env_congr {st st':St} {M:Nat->Prop} {κ:Nat->Option (Nat×Nat)} (hg:∀ k,st'.get k=st.get k):st'.env M κ=st.env M κ:=by unfold St.env;simp only[hg]
def SK.congr {R:Run} {st st':St} {a:Act} {W:World} {κ:Nat->Option (Nat×Nat)} (h:SK R st a W κ) (ht:∀ n,st'.tmp n=st.tmp n) (hg:∀ k,st'.get k=st.get k):SK R st' a W κ:=by
 have he:st'.env R.M κ=st.env R.M κ:=St.env_congr hg;exact ⟨h.defers,h.size,λn x hx=>by rw[he];exact h.tm n x (by rw[<- ht];exact hx),λk o ho=>by rw[he];exact h.obj k o (by rw[<- hg];exact ho),λk p hk=>by rw[hg];exact h.dom k p hk,h.inj,h.low,h.apart,h.kp,by rw[he];exact h.gr,by rw[he];exact h.mono,h.ent⟩
def Ym.congr {st st':St} (ht:∀ n,st'.tmp n=st.tmp n) (hg:∀ k,st'.get k=st.get k):Ym st st':=λ_ _ _ h=>SR.congr (λn=>(ht n).symm) (λk=>(hg k).symm) h
def Ym.fam {st:St} {t':List (Nat×AV)} {C':List (Nat×AObj)} (hT:Tl T) (ho:∀ p∈T,Go.Proofs.YthlcppdbldkldaaDoor.lk st.o p.1=some p.2) (ht:∀ p∈t',Go.Proofs.YthlcppdbldkldaaDoor.lk st.t p.1=some p.2/\Ya (T++C') p.2=true)
  (hC:∀ p∈C',Go.Proofs.YthlcppdbldkldaaDoor.lk st.o p.1=some p.2/\Yc (T++C') p.2=true) (hbig:∀ p∈st.o,p.1<1000):Ym st ⟨t',T++C'⟩ :=
 Ym.sub ht (λp hp=>(W0h.1 hp).elim (λh=>⟨ho p h,hT.keep _ h⟩) (hC p)) λp hp h=>absurd (hbig p hp) (by omega)
end
def Ym.fam1 {T C C':List (Nat×AObj)} {t t':List (Nat×AV)} (hT:Tl T) (ht:∀ p∈t',lk t p.1=some p.2/\Ya (T++C') p.2=true)
  (hC:∀ p∈C',lk (T++C) p.1=some p.2/\Yc (T++C') p.2=true) (hbig:∀ p∈C,p.1<1000:=by simp):Ym ⟨t,T++C⟩ ⟨t',T++C'⟩ :=
 Ym.fam hT (λ_ hp=>hT.mem _ hp) ht hC λp hp=>(W0h.1 hp).elim (λh=>(hT.big p h).2) (hbig p)
section
variable {P:Program} {G:Jg}
def Z1B.fam {T O C:List (Nat×AObj)} {t:List (Nat×AV)} {f:FuncId} {args:List AV} {r:AV} (h:PB P G f [] args r (T++O)) (hT:Tl T) (hr:r.ren id=r) (hOr:∀ p∈O,p.2.ren id=p.2) (hO:∀ p∈O,p.1<700/\lk C p.1=none) (hOn:(O.map (·.1)).Nodup) (hC:∀ p∈C,p.1<700)
  (hargs:args.all AV.pure=true):Z1B P G ⟨t,C⟩ f args r ⟨t,T++(C++O)⟩:=by
 have nd:((T++O).map (·.1)).Nodup:=by
  rw[W0r];refine List.nodup_append.2 ⟨hT.nd,hOn,λa ha b hb e=>?_⟩;obtain ⟨p,hp,rfl⟩:=W0i.1 ha;obtain ⟨q,hq,rfl⟩:=W0i.1 hb;have:=(hT.big p hp).1;have:=(hO q hq).1;omega
 have nd':((T++O).map λp=>id p.1).Nodup:=nd
 have hCT:∀ p∈T,lk C p.1=none:=λp hp=>by
  cases e:lk C p.1 with
  |none=>rfl
  | some o =>
    have:=hC _ (Z4J e);have:=(hT.big p hp).1;simp only at *;omega
 have hs:=Z1B.objs (st:=⟨t,C⟩) h id nd' (λp hp=>(W0h.1 hp).elim (hCT p) λq=>(hO p q).2) hargs hr.symm rfl;have ren:∀ p∈T++O,p.2.ren id=p.2:=λp hp=>(W0h.1 hp).elim (hT.ren id) (hOr p)
 have get:∀ k,(Yl id (T++O) ⟨t,C⟩).get k=(⟨t,T++(C++O)⟩ : St).get k:=λk=>by
  show _=lk (T++(C++O)) k
  cases e:lk (T++O) k with
  | some o =>
    have h1:=Z55 id (T++O) ⟨t,C⟩ k o nd' e;rw[ren (k,o) (Z4J e)]at h1;refine h1.trans ?_;rcases W0h.1 (Z4J e) with q|q
    . exact (hT.mem (C++O) q).symm
    . have h2:=(hO _ q);rw[hT.lk _ h2.1,Zf1 h2.2];exact (lk_nd hOn _ q).symm
  | none =>
    have n1:∀ p∈T++O,id p.1≠k:=λp hp e2=>by
     have:=lk_nd nd p hp;rw[show p.1=k from e2,e]at this;cases this
    rw[Z54 id k _ _ n1];show lk C k=_
    have nT:lk T k=none:=by
     cases e2:lk T k with
     |none=>rfl
     |some o=>exact absurd rfl (n1 (k,o) (List.mem_append_left _ (Z4J e2)))
    have nO:lk O k=none:=by
     cases e2:lk O k with
     |none=>rfl
     |some o=>exact absurd rfl (n1 (k,o) (List.mem_append_right _ (Z4J e2)))
    rw[Zf1 nT]
    cases e2:lk C k with
    |none=>rw[Zf1 e2,nO]
    |some o=>rw[Zf2 e2]
 intro R a W κ vs hG hk ha;obtain ⟨h1,h2⟩:=hs R a W κ vs hG hk ha;refine ⟨h1,h2.mono ?_⟩;rintro e W' ⟨u,κ1,h3,h4,h5⟩;have hg:∀ k,(⟨t,T++(C++O)⟩ : St).get k=(Yl id (T++O) ⟨t,C⟩).get k:=λk=>(get k).symm
 exact ⟨u,κ1,h3,h4.congr (λn=>by simp only[St.tmp,Z53]) hg,by rw[St.env_congr hg];exact h5⟩
end
def ovI (k:Nat) (x:Iss):AV:=if x.its=[] then .vsl [] else .osl k x.its.length
def ovD (k:Nat) (x:Iss):AV:=if x.dms=[] then .vsl [] else .osl k x.dms.length
def orI (k:Nat) (x:Iss):List (Nat×AObj):=if x.its=[] then [] else [(k,.row 2 (x.its.map ita))]
def orD (k:Nat) (x:Iss):List (Nat×AObj):=if x.dms=[] then [] else [(k,.row 3 (x.dms.map dma))]
def icK:Nat->Bool:=λk=>decide (k<1000) && !decide (k=5) && !decide (k=8)
def Zf6 (l:List (Int×Int)) (ok:Nat->Bool) (st:St):frzO ok st (.row 2 (l.map ita)) = .row 2 (l.map ita):=by
 simp only[frzO,W10]
 congr 2
 funext p;simp[ita,frzA,frz,AV.keys]
def Zf7 (l:List Dm) (ok:Nat->Bool) (st:St):frzO ok st (.row 3 (l.map dma)) = .row 3 (l.map dma):=by
 simp only[frzO,W10]
 congr 2
 funext p;simp[dma,frzA,frz,AV.keys]
def Zf8 (l:List (Int×Int)):(l.map ita).all (λr=>r.all AV.pure)=true:=by simp[ita,AV.pure]
def Zf9 (l:List Dm):(l.map dma).all (λr=>r.all AV.pure)=true:=by simp[dma,AV.pure]
def Zfa (x:Iss) (h1:Sml x.its) (h2:Sml x.dms):PB prog G 37 [] [.agg (isa x)] (.agg [.int .i64 x.d,.int .i64 x.l,.int .u8 x.k,ovI 5 x,ovD 8 x]) (orI 5 x++orD 8 x):=by
 refine Z5j icK (by intro k hk;simp[icK]at hk;omega) Tryd.func37 rfl (by kernel_rfl) (rc:=Z80) (by kernel_rfl) (rs:=Z81) (by kernel_rfl) (W0C rfl) λR _ hG' hrd=>Qga ?_
 subst hG';have p1:=Zf8 x.its;have p2:=Zf9 x.dms;have f1:=Zf6 x.its;have f2:=Zf7 x.dms;by_cases e1:x.its=[] <;> by_cases e2:x.dms=[]
 . simp -implicitDefEqProofs[Z80,Z81,isa,e1,e2];refine Z2T.of Zba (by simp) ?_;simp -implicitDefEqProofs;refine Z2T.of Zbb (by simp) ?_;simp -implicitDefEqProofs[ovI,ovD,orI,orD,e1,e2,FinO,Yi,icK,frzA,frz,AV.keys]
   first|rfl|exact ⟨rfl,by simp[frzO]⟩
 . simp -implicitDefEqProofs[Z80,Z81,isa,e1];refine Z2T.of Zba (by simp) ?_;simp -implicitDefEqProofs;refine Z2T.new (Zb9 _ e2 h2) (by simp) (by simp[lk,St.get]) ?_;simp -implicitDefEqProofs[p2,ovI,ovD,orI,orD,e1,e2,FinO,Yi,icK,frzA,frz,AV.keys,f2]
   first|rfl|exact ⟨rfl,by simp[frzO]⟩
 . simp -implicitDefEqProofs[Z80,Z81,isa,e2];refine Z2T.new (Zb8 _ e1 h1) (by simp) (by simp[lk,St.get]) ?_;simp -implicitDefEqProofs;refine Z2T.of Zbb (by simp) ?_;simp -implicitDefEqProofs[p1,ovI,ovD,orI,orD,e1,e2,FinO,Yi,icK,frzA,frz,AV.keys,f1]
   first|rfl|exact ⟨rfl,by simp[frzO]⟩
 . simp -implicitDefEqProofs[Z80,Z81,isa];refine Z2T.new (Zb8 _ e1 h1) (by simp) (by simp[lk,St.get]) ?_;simp -implicitDefEqProofs;refine Z2T.new (Zb9 _ e2 h2) (by simp) (by simp[lk,St.get]) ?_;simp -implicitDefEqProofs[p1,p2,ovI,ovD,orI,orD,e1,e2,FinO,Yi,icK,frzA,frz,AV.keys,f1,f2]
   first|rfl|exact ⟨rfl,by simp[frzO]⟩
def tkF:Nat->List Iss->List (Nat×AObj)
 |_,[]=>[]
 |b,x::l=>(orI b x++orD (b+1) x)++tkF (b+2) l
def tkW:Nat->List Iss->List (List AV)
 |_,[]=>[]
 |b,x::l=>[.int .i64 x.d,.int .i64 x.l,.int .u8 x.k,ovI b x,ovD (b+1) x]::tkW (b+2) l
def Zfb:∀ (l m:Jr) (b:Nat),tkF b (l++m)=tkF b l++tkF (b+2*l.length) m
 |[],_,_=>rfl
 | x::l,m,b=>by
   rw[W1d,tkF,tkF,Zfb l m,show b+2+2*l.length=b+2*(x::l).length by simp;omega];simp only[W0U]
def Zfc:∀ (l m:Jr) (b:Nat),tkW b (l++m)=tkW b l++tkW (b+2*l.length) m
 |[],_,_=>rfl
 | x::l,m,b=>by
   rw[W1d,tkW,tkW,Zfc l m,W1d,show b+2+2*l.length=b+2*(x::l).length by simp;omega]
def Zfd:∀ (l:Jr) (b:Nat),(tkW b l).length=l.length
 |[],_=>rfl
 |_::l,b=>by simp[tkW,Zfd l]
def Zfe:∀ (l:Jr) (b i:Nat) (h:i<l.length),(tkW b l)[i]? = some [.int .i64 l[i].d,.int .i64 l[i].l,.int .u8 l[i].k,ovI (b+2*i) l[i],ovD (b+2*i+1) l[i]]
 |[],_,_,h=>by simp at h
 |x::l,b,0,_=>rfl
 | x::l,b,i+1,h=>by
   have:=Zfe l (b+2) i (by simpa using h);rw[show b+2+2*i=b+2*(i+1) by omega]at this;simpa [tkW] using this
def Zff:∀ {l:Jr} {b:Nat} {p:Nat×AObj},p∈tkF b l->∃ i,∃ h:i<l.length,(l[i].its≠[]/\p=(b+2*i,.row 2 (l[i].its.map ita)))∨(l[i].dms≠[]/\p=(b+2*i+1,.row 3 (l[i].dms.map dma)))
 |[],_,_,h=>by cases h
 | x :: l,b,p,h=>by
   rcases W0h.1 h with h|h
   . refine ⟨0,by simp,?_⟩;rcases W0h.1 h with h|h
     . left
       unfold orI at h
       split at h
       . cases h
       . rename_i e;exact ⟨e,by simpa using h⟩
     . right
       unfold orD at h
       split at h
       . cases h
       . rename_i e;exact ⟨e,by simpa using h⟩
   . obtain ⟨i,hi,h⟩:=Zff h;refine ⟨i+1,by simpa using hi,?_⟩;simpa [show b+2+2*i=b+2*(i+1) by omega] using h
def Zfg:∀ (l:Jr) (b i:Nat) (h:i<l.length),(l[i].its≠[]->(b+2*i,AObj.row 2 (l[i].its.map ita))∈tkF b l)/\(l[i].dms≠[]->(b+2*i+1,AObj.row 3 (l[i].dms.map dma))∈tkF b l)
 |[],_,_,h=>by simp at h
 |x::l,b,0,_=>⟨λe=>by simp[tkF,orI,show ¬x.its=[] from e],λe=>by simp[tkF,orD,show ¬x.dms=[] from e]⟩
 | x::l,b,i+1,h=>by
   have:=Zfg l (b+2) i (by simpa using h);rw[show b+2+2*i=b+2*(i+1) by omega]at this;exact ⟨λe=>List.mem_append_right _ (this.1 e),λe=>List.mem_append_right _ (this.2 e)⟩
def Zfh:∀ (l:Jr) (b:Nat),((tkF b l).map (·.1)).Nodup
 |[],_=>by simp[tkF]
 | x :: l,b=>by
   rw[tkF,W0r];refine List.nodup_append.2 ⟨?_,Zfh l (b+2),λa ha c hc e=>?_⟩
   . unfold orI orD
     split <;> split <;> simp
   . obtain ⟨p,hp,rfl⟩:=W0i.1 ha;obtain ⟨q,hq,rfl⟩:=W0i.1 hc;obtain ⟨i,hi,h⟩:=Zff hq
     have:p.1=b∨p.1=b+1:=by
      unfold orI orD at hp
      split at hp <;> split at hp <;> simp at hp
      . exact .inr (by rw[hp])
      . exact .inl (by rw[hp])
      . rcases hp with hp|hp
        . exact .inl (by rw[hp])
        . exact .inr (by rw[hp])
     rcases h with ⟨-,h⟩ | ⟨-,h⟩ <;> (subst h;simp only at e;omega)
def Zfi {l:Jr} (h:l.length<=150):Tl (tkF 700 l):=by
 refine ⟨λp hp=>?_,Zfh l 700,λp hp=>?_,λp hp ok st=>?_⟩
 . obtain ⟨i,hi,h1⟩:=Zff hp;rcases h1 with ⟨-,rfl⟩ | ⟨-,rfl⟩ <;> (simp only;omega)
 . obtain ⟨i,hi,h1⟩:=Zff hp;rcases h1 with ⟨-,rfl⟩ | ⟨-,rfl⟩
   . exact ⟨2,_,rfl,Zf8 _⟩
   . exact ⟨3,_,rfl,Zf9 _⟩
 . obtain ⟨i,hi,h1⟩:=Zff hp;rcases h1 with ⟨-,rfl⟩ | ⟨-,rfl⟩
   . exact Zf6 _ ok st
   . exact Zf7 _ ok st
def nmI (l:Jr) (x:Iss):List (Nat×Nat):=((List.range l.length).filter λi=>decide ((l.getD i default).its=x.its)).map λi=>(700+2*i,x.its.length)
def nmD (l:Jr) (x:Iss):List (Nat×Nat):=((List.range l.length).filter λi=>decide ((l.getD i default).dms=x.dms)).map λi=>(700+2*i+1,x.dms.length)
def noI (l:Jr) (x:Iss):AV:=if x.its=[] then .vsl [] else .oof (nmI l x)
def noD' (l:Jr) (x:Iss):AV:=if x.dms=[] then .vsl [] else .oof (nmD l x)
def Zfj {l:Jr} {x:Iss} {p:Nat×Nat}:p∈nmI l x↔∃ i,∃ h:i<l.length,l[i].its=x.its/\p=(700+2*i,x.its.length):=by
 simp only[nmI,W0i,W0G,W1r,W0b]
 constructor
 . rintro ⟨i,⟨h1,h2⟩,rfl⟩;exact ⟨i,h1,by rw[W0j,W07 h1]at h2;exact h2,rfl⟩
 . rintro ⟨i,h1,h2,rfl⟩;exact ⟨i,⟨h1,by rw[W0j,W07 h1];exact h2⟩,rfl⟩
def Zfk {l:Jr} {x:Iss} {p:Nat×Nat}:p∈nmD l x↔∃ i,∃ h:i<l.length,l[i].dms=x.dms/\p=(700+2*i+1,x.dms.length):=by
 simp only[nmD,W0i,W0G,W1r,W0b]
 constructor
 . rintro ⟨i,⟨h1,h2⟩,rfl⟩;exact ⟨i,h1,by rw[W0j,W07 h1]at h2;exact h2,rfl⟩
 . rintro ⟨i,h1,h2,rfl⟩;exact ⟨i,⟨h1,by rw[W0j,W07 h1];exact h2⟩,rfl⟩
def Zfl (rows:List (List AV)):IsSl (.vsl rows):=λE W v h=>by
 cases h with
 |pv h=>cases h;exact ⟨_,_,_,rfl⟩
def Zfm (l:Jr) (x:Iss):IsSl (noI l x):=by
 unfold noI;split
 . exact Zfl _
 . exact ZeL _
def Zfn (l:Jr) (x:Iss):IsSl (noD' l x):=by
 unfold noD';split
 . exact Zfl _
 . exact ZeL _
def Zfo {E:Env} {W:World} {k n:Nat} {v:Value} {L:List (Nat×Nat)} (h:VR E W (.osl k n) v) (hm:(k,n)∈L):VR E W (.oof L) v:=by
 cases h with
 |pv h=>cases h
 |osl _ _ sz m a l c h1 h2 h3=>exact .oof L k n a l c hm (.osl k n sz m a l c h1 h2 h3)
def Zfp {st st':St} {l:Jr} {K:Nat} (hg:st.get K=some (.row 5 (tkW 700 l))) (ht:st'.t=st.t) (hK:st'.get K=some (.row 5 (l.map (isN (noI l) (noD' l))))) (ho:∀ j,j≠K->st'.get j=st.get j):Ym st st':=by
 refine Ym.reobj hg (by simp[AObj.dim,Zfd]) (λE W b s h=>?_) ht hK ho;obtain ⟨-,cs,t,g5,g6,g7⟩:=h;refine ⟨λr hr=>?_,cs,t,g5,by simpa [Zfd] using g6,λi j r x hi hj=>?_⟩
 . obtain ⟨y,-,rfl⟩:=W0i.1 hr;rfl
 . rw[W09,W04]at hi;obtain ⟨y,hy,rfl⟩:=hi;obtain ⟨hi,rfl⟩:=W02.1 hy;have at':=Zfe l 700 i hi
   match j,hj with
   |0,hj=>cases hj;exact g7 i 0 _ _ at' rfl
   |1,hj=>cases hj;exact g7 i 1 _ _ at' rfl
   |2,hj=>cases hj;exact g7 i 2 _ _ at' rfl
   | 3,hj =>
     cases hj
     obtain ⟨v,h1,h2⟩:=g7 i 3 _ _ at' rfl;refine ⟨v,h1,?_⟩;unfold ovI at h2;unfold noI
     split at h2
     . rename_i e;rw[if_pos e];exact h2
     . rename_i e;rw[if_neg e];exact Zfo h2 (Zfj.2 ⟨i,hi,rfl,rfl⟩)
   | 4,hj =>
     cases hj
     obtain ⟨v,h1,h2⟩:=g7 i 4 _ _ at' rfl;refine ⟨v,h1,?_⟩;unfold ovD at h2;unfold noD'
     split at h2
     . rename_i e;rw[if_pos e];exact h2
     . rename_i e;rw[if_neg e];exact Zfo h2 (Zfk.2 ⟨i,hi,rfl,rfl⟩)
   |j+5,hj=>simp[isN]at hj
def Zfq {α β:Type} {f:α->Option β}:∀ {l:List α} {l':List β},l.length=l'.length->(∀ i (h:i<l.length) (h':i<l'.length),f l[i]=some l'[i])->Yj f l=some l'
 |[],[],_,_=>rfl
 | x::l,y::l',hl,h=>by
   have h0:=h 0 (by simp) (by simp);simp only[List.getElem_cons_zero]at h0
   have ih:=Zfq (f:=f) (l:=l) (l':=l') (by simpa using hl) λi h1 h2=>by
    have:=h (i+1) (by simpa using h1) (by simpa using h2);simpa using this
   simp only[Yj,h0,ih]
 |[],_::_,hl,_=>by simp at hl
 |_::_,[],hl,_=>by simp at hl
def tk_cI {st:St} {l:Jr} {x:Iss} {y:AV} (hP:Pick (noI l x) y) (hT:∀ p∈tkF 700 l,st.get p.1=some p.2) (n:Nat):Yh okAll st (n+1) y=some (.vsl (x.its.map ita))/\(y.pure=true->y = .vsl (x.its.map ita)):=by
 unfold noI at hP
 split at hP
 . rename_i e;have hP:y = .vsl []:=hP;subst hP;rw[e];exact ⟨by simp[Yh,AV.pure],λ_=>rfl⟩
 . rename_i e;obtain ⟨p,hp,rfl⟩:=hP;obtain ⟨i,hi,h1,rfl⟩:=Zfj.1 hp;have h2:=hT _ ((Zfg l 700 i hi).1 (by rw[h1];exact e));simp only at h2;refine ⟨?_,λh=>by simp[AV.pure]at h⟩;simp only[Yh,h2];rw[if_pos ⟨rfl,by simp[h1]⟩,if_pos (Zf8 _),h1]
def tk_cD {st:St} {l:Jr} {x:Iss} {y:AV} (hP:Pick (noD' l x) y) (hT:∀ p∈tkF 700 l,st.get p.1=some p.2) (n:Nat):Yh okAll st (n+1) y=some (.vsl (x.dms.map dma))/\(y.pure=true->y = .vsl (x.dms.map dma)):=by
 unfold noD' at hP
 split at hP
 . rename_i e;have hP:y = .vsl []:=hP;subst hP;rw[e];exact ⟨by simp[Yh,AV.pure],λ_=>rfl⟩
 . rename_i e;obtain ⟨p,hp,rfl⟩:=hP;obtain ⟨i,hi,h1,rfl⟩:=Zfk.1 hp;have h2:=hT _ ((Zfg l 700 i hi).2 (by rw[h1];exact e));simp only at h2;refine ⟨?_,λh=>by simp[AV.pure]at h⟩;simp only[Yh,h2];rw[if_pos ⟨rfl,by simp[h1]⟩,if_pos (Zf9 _),h1]
section
variable {st:St} {l m:Jr} {F H:Nat->AV} {z:List (List AV)} {K:Nat}
def Zfr (hP:∀ i (hi:i<m.length),Pick (noI l m[i]) (F i)/\Pick (noD' l m[i]) (H i)) (hT:∀ p∈tkF 700 l,st.get p.1=some p.2) (n:Nat) :
  Yj (Yj (Yh okAll st (n+1))) (isX m F H)=some (m.map isa)/\((isX m F H).all (λr=>r.all AV.pure)=true->isX m F H=m.map isa):=by
 have at':∀ i (h1:i<(isX m F H).length) (hi:i<m.length),(isX m F H)[i]=[.int .i64 m[i].d,.int .i64 m[i].l,.int .u8 m[i].k,F i,H i]:=λi h1 hi=>by
  have:=Zf0 (F:=F) (H:=H) hi;rw[W07 h1]at this;exact W1G this
 refine ⟨Zfq (by simp[ZeZ]) λi h1 h2=>?_,λhp=>W1D (by simp[ZeZ]) λi h1 h2=>?_⟩
 . have hi:i<m.length:=(by rwa [ZeZ]at h1);rw[at' i h1 hi,W1t];simp only[Yj,(tk_cI (hP i hi).1 hT n).1,(tk_cD (hP i hi).2 hT n).1];simp[Yh,AV.pure,isa]
 . have hi:i<m.length:=(by rwa [ZeZ]at h1);have hq:=W03.1 hp _ (W0e h1);rw[at' i h1 hi]at hq ⊢;rw[W1t];simp only[List.all_cons,List.all_nil,W21,W01]at hq;rw[(tk_cI (hP i hi).1 hT n).2 hq.2.2.2.1,(tk_cD (hP i hi).2 hT n).2 hq.2.2.2.2];rfl
def Zfs (hK:st.get K=some (.row 5 (isX m F H++z))) (hP:∀ i (hi:i<m.length),Pick (noI l m[i]) (F i)/\Pick (noD' l m[i]) (H i)) (hT:∀ p∈tkF 700 l,st.get p.1=some p.2) (n:Nat) :
  (z=[]->Yh okAll st (n+2) (.osl K m.length)=some (.vsl (m.map isa)))/\∀ N,N=m.length+z.length->Yh okAll st (n+2) (.oss K N 0 m.length)=some (.vsl (m.map isa)):=by
 obtain ⟨h1,h2⟩:=Zfr hP hT n;refine ⟨λhz=>?_,λN hN=>?_⟩
 . subst hz;rw[W1B]at hK;simp only[Yh,hK];rw[if_pos ⟨rfl,ZeZ _ _ _⟩]
   split
   . rename_i e;rw[h2 e]
   . rw[h1];rfl
 . simp only[Yh,hK];have ht:((isX m F H++z).take m.length).drop 0=isX m F H:=(by rw[W1J];exact List.take_left' (ZeZ _ _ _));rw[ht,if_pos ⟨rfl,by rw[W0s,ZeZ,hN]⟩]
   split
   . rename_i e;rw[h2 e]
   . rw[h1];rfl
end
def Zft {α:Type} {f:α->Option α}:∀ {l:List α},(∀ x∈l,f x=some x)->Yj f l=some l
 |[],_=>rfl
 |x::l,h=>by simp only[Yj,h x (W0H ..),Zft λy hy=>h y (W0z _ hy)]
def Zfu {ok:Nat->Bool} {st:St}:∀ (n:Nat) (x:AV),x.pure=true->Yh ok st n x=some x
 |0,x,h=>by cases x <;> simp[Yh,h]
 | n + 1,x,h=>by
   cases x with
   | agg xs =>
     simp only[AV.pure,W03,W0V,W1x,W1l]at h;simp only[Yh,Zft λy hy=>Zfu n y (h y hy)];rfl
   | tup xs =>
     simp only[AV.pure,W03,W0V,W1x,W1l]at h;simp only[Yh,Zft λy hy=>Zfu n y (h y hy)];rfl
   | func fn xs ys =>
     simp only[AV.pure,W01,W03,W0V,W1x,W1l]at h;simp only[Yh,Zft λy hy=>Zfu n y (h.1 y hy),Zft λy hy=>Zfu n y (h.2 y hy)]
   |undef=>simp[AV.pure]at h
   |ptr=>simp[AV.pure]at h
   |eptr=>simp[AV.pure]at h
   |osl=>simp[AV.pure]at h
   |oss=>simp[AV.pure]at h
   |mp=>simp[AV.pure]at h
   |oof=>simp[AV.pure]at h
   |_=>simp[Yh,h]
def mgV (K n:Nat) (m:Jr):AV:=if m.length=n then .osl K n else .oss K n 0 m.length
def mgR (l m:Jr):List (List AV):=m.map (isN (noI l) (noD' l))++List.replicate (l.length-m.length) zrI
section
variable {P:Program} {G:Jg} {st:St}
def Z1B.mg {f:FuncId} {l m:Jr} {K:Nat} {pre post pre' post':List AV} {v:AV} (h:PC P G f (pre'++(.agg [.vsl (m.map isa)]::post')) v) (hf:v.flat=true) (hK:st.get K=some (.row 5 (mgR l m))) (hm:m.length<=l.length) (hT:∀ p∈tkF 700 l,p.1≠K/\st.get p.1=some p.2)
  (h1:pre=pre'/\pre.all AV.pure=true) (h2:post=post'/\post.all AV.pure=true):Z1B P G st f (pre++(.agg [mgV K l.length m]::post)) v st:=by
 obtain ⟨rfl,p1⟩:=h1;obtain ⟨rfl,p2⟩:=h2;refine Z1B.alt h hf λR a W κ hs=>?_
 obtain ⟨F',H',hP,hst⟩:=hs.choose hK;obtain ⟨e1,e2⟩:=hst (st.set K (.row 5 (isX m F' H'++List.replicate (l.length-m.length) zrI))) rfl (by rw[St.get_set,if_pos rfl]) (λj hj=>by rw[St.get_set,if_neg (λe=>hj e.symm)]);refine ⟨_,e2,e1,?_⟩;generalize hst':st.set K (.row 5 (isX m F' H'++List.replicate (l.length-m.length) zrI))=st' at *;have g1:st'.get K=some (.row 5 (isX m F' H'++List.replicate (l.length-m.length) zrI)):=(by rw[<- hst',St.get_set,if_pos rfl]);have g2:∀ p∈tkF 700 l,st'.get p.1=some p.2:=λp hp=>by rw[<- hst',St.get_set,if_neg (λe=>(hT p hp).1 e.symm)];exact (hT p hp).2
 obtain ⟨q1,q2⟩:=Zfs g1 hP g2 3
 have q:Yh okAll st' 5 (mgV K l.length m)=some (.vsl (m.map isa)):=by
  unfold mgV
  split
  . rename_i e;rw[<- e];exact q1 (by rw[e,W29];rfl)
  . exact q2 l.length (by rw[W1C];omega)
 have pu:∀ (xs:List AV),xs.all AV.pure=true->∀ ys zs,Yj (snap st') ys=some zs->Yj (snap st') (xs++ys)=some (xs++zs):=λxs=>by
  induction xs with
  |nil=>exact λ_ ys zs h=>h
  | cons x xs ih =>
    intro h ys zs hz;simp only[List.all_cons,W01]at h;have e1:snap st' x=some x:=Zfu 6 x h.1;simp only[W1d,Yj,e1,ih h.2 ys zs hz]
 refine pu pre p1 _ _ ?_
 have e:snap st' (.agg [mgV K l.length m])=some (.agg [.vsl (m.map isa)]):=by
  have e:∀ k a,Yh okAll st' (k+1) (.agg [a])=(Yj (Yh okAll st' k) [a]).map .agg:=λ_ _=>by simp only[Yh]
  simp only[snap,e,Yj,q];rfl
 have:=pu post p2 [] [] rfl;simp only[W1B]at this;simp only[Yj,e,this]
end
section
variable {G:Jg} {S T:Iss->Value->Prop}
def Zfv (l:Jr) (a b n:Nat) (hab:a+n<=b) (h2:b+n<=l.length) (h3:l.length<=1000) :
  PB prog G 103 [(1000,.row 5 (l.map (isT S T)))] [.osl 1000 l.length,.int .i64 a,.int .i64 b,.int .i64 n,fM1] (.tup []) [(1000,.row 5 ((swR l a b n).map (isT S T)))]:=by
 (refine Zde (W0C rfl) λR hG hrd=>Qga ?_;subst hG)
 simp -implicitDefEqProofs[Zdc,Zdd,fM1];refine Z91 (λi=>⟨[(10,.int .i64 i),(0,.osl 1000 l.length),(1,.int .i64 a),(2,.int .i64 b),(3,.int .i64 n)],[(1000,.row 5 ((swR l a b i).map (isT S T)))]⟩) (λ_=>True) n ?_ trivial ?_ ?_
 . ((try simp only[swR]);refine Ym.sub (by simp[lk,Ya,AV.keys,swR]) ?_;simp only[swR,Wkl,ZeF,and_true];(try simp[lk,Yc,Ya,AV.keys,swR]))
 . intro i hi _;refine Qga ?_;have w1:i64.wrap ((i:Int)+1)=(i:Int)+1:=Yf;have wa:i64.wrap ((a:Int)+i)=(a:Int)+i:=Yf;have wb:i64.wrap ((b:Int)+i)=(b:Int)+i:=Yf;have ka:((a:Int)+i).toNat=a+i:=(by omega);have kb:((b:Int)+i).toNat=b+i:=(by omega);have ka0:(0:Int)<=(a:Int)+i:=(by omega);have kb0:(0:Int)<=(b:Int)+i:=(by omega);have ja:a+i<l.length:=(by omega);have jb:b+i<l.length:=(by omega);have sc:swR l a b (i+1)=((swR l a b i).set (a+i) ((swR l a b i).getD (b+i) default)).set (b+i) ((swR l a b i).getD (a+i) default):=rfl;have hQ:=Zdf l a b i;generalize hQ0:swR l a b i=Q at *;have qa:a+i<Q.length:=(by omega);have qb:b+i<Q.length:=(by omega);have ga:Q.getD (a+i) default=Q[a+i]:=(by simp[W0j,qa]);have gb:Q.getD (b+i) default=Q[b+i]:=(by simp[W0j,qb]);rw[ga,gb]at sc;generalize hx:Q[a+i]=x at *;generalize hy:Q[b+i]=y at *;have ex:isT S T x=[.int .i64 x.d,.int .i64 x.l,.int .u8 x.k,.tok (S x),.tok (T x)]:=rfl;have ey:isT S T y=[.int .i64 y.d,.int .i64 y.l,.int .u8 y.k,.tok (S y),.tok (T y)]:=rfl;have hne:¬a=b:=(by omega);have il:∀ z:Iss,(isT S T z).length=5:=λz=>rfl
   have id5:∀ z:Iss,(isT S T z).drop 5=[]:=λz=>rfl
   simp -implicitDefEqProofs[hi,wa,wb,ka,kb,ka0,kb0,ja,jb,hQ,hQ0,hx,hy,ex,ey,il,id5,w1,hne,List.getElem_set];refine ⟨rfl,?_⟩;rw[<- ex,<- ey,<- W2a,<- W2a,<- sc]
   (refine Wkc ?_;simp only[ZeF,Wkl,and_true];(try simp[lk,Yc,Ya,AV.keys]))
 . intro _;refine Qga ?_;simp -implicitDefEqProofs;refine Qgr ?_;refine ⟨[],rfl,rfl,?_⟩;simp[Yi,newK,ZeG]
def Zfw (l:Jr) (a m b:Nat) (h1:a<m) (h2:m<b) (h4:b<=l.length) (h3:l.length<=1000) :
  PB prog G 98 [(1000,.row 5 (l.map (isT S T)))] [.osl 1000 l.length,.int .i64 a,.int .i64 m,.int .i64 b,fM1] (.tup []) [(1000,.row 5 ((roS l a m b).map (isT S T)))]:=by
 (refine Zdb (W0C rfl) λR hG hrd=>Qga ?_;subst hG)
 have w1:i64.wrap ((m:Int)-a)=((m-a:Nat):Int):=(by rw[Yf (by omega) (by omega)];omega);have w2:i64.wrap ((b:Int)-m)=((b-m:Nat):Int):=(by rw[Yf (by omega) (by omega)];omega);simp -implicitDefEqProofs[Zd9,Zda,fM1,w1,w2]
 have e0:roS l (m-(m-a)) m (m+(b-m))=roS l a m b:=by
  have q1:m-(m-a)=a:=(by omega);have q2:m+(b-m)=b:=(by omega);rw[q1,q2]
 refine Z1Q (λp:List Iss×Nat×Nat=>⟨[(10,.int .i64 p.2.1),(11,.int .i64 p.2.2),(0,.osl 1000 l.length),(2,.int .i64 m),(4,.func (.func 39) [] [])],[(1000,.row 5 (p.1.map (isT S T)))]⟩)
  (λp=>RoI l p.1 a m b p.2.1 p.2.2/\0<p.2.1/\0<p.2.2) (λp=>p.2.1+p.2.2) (l,m-a,b-m) ?_ ⟨⟨rfl,W0f _,W0f _,e0⟩,Nat.sub_pos_of_lt h1,Nat.sub_pos_of_lt h2⟩ ?_
 . (refine Wkc ?_;simp only[ZeF,Wkl,and_true];(try simp[lk,Yc,Ya,AV.keys]))
 . rintro ⟨q,i,j⟩ ⟨hI,hi0,hj0⟩;refine Qga ?_;have hql:=hI.len;have hi:=hI.hi;have hj:=hI.hj;have heq:=hI.eq;simp only at hql hi hj heq hi0 hj0 ⊢;have wmi:i64.wrap ((m:Int)-i)=((m-i:Nat):Int):=(by rw[Yf (by omega) (by omega)];omega);rcases W0R i j with hlt|he|hgt
   . have k1:¬(i:Int)=j:=(by omega);have k2:¬(j:Int)<i:=(by omega);have k1':¬i=j:=(by omega);have k2':¬j<i:=(by omega);have wj:i64.wrap ((m:Int)+j)=(m:Int)+j:=Yf;have wk:i64.wrap ((m:Int)+j-i)=((m+j-i:Nat):Int):=(by rw[Yf (by omega) (by omega)];omega);have wd:i64.wrap ((j:Int)-i)=((j-i:Nat):Int):=(by rw[Yf (by omega) (by omega)];omega);have hp:=Zfv (G:=R.G) (S:=S) (T:=T) q (m-i) (m+j-i) i (by omega) (by omega) (by omega);have hro:=ro_lt (q:=q) (m:=m) hlt (by omega) (by omega);rw[hql]at hp;have hsl:=Zdf q (m-i) (m+j-i) i;generalize hN1:m-i=N1 at *;generalize hN2:m+j-i=N2 at *;simp -implicitDefEqProofs[k1,k2,k1',k2',wmi,wj,wk];refine Yd.sem (Z1B.byref hp id (by simp) (by simp) (by simp[St.get,lk,ZeI]) (by simp[ZeF]) (by simp[Ya,AV.keys,lk,fM1]) rfl (by simp[AV.ren,fM1]) rfl rfl) ?_;simp -implicitDefEqProofs[Yl,ZeI,wd];refine ⟨(swR q N1 N2 i,i,j-i),?_,⟨⟨by simp only;omega,hi,by simp only;omega,by simp only;rw[hN1,hro,heq]⟩,hi0,by simp only;omega⟩,by simp only;omega⟩
     (refine Wkc ?_;simp only[ZeF,Wkl,and_true];(try simp[lk,Yc,Ya,AV.keys]))
   . have k1:(i:Int)=j:=(by omega);have hp:=Zfv (G:=R.G) (S:=S) (T:=T) q (m-i) m i (by omega) (by omega) (by omega);have hro:=ro_eq (q:=q) (m:=m) (i:=i) (by omega) (by omega);rw[he]at hro;rw[he]at hp;rw[he]at heq wmi;rw[hro,heq,hql]at hp;generalize hN1:m-j=N1 at *;simp -implicitDefEqProofs[k1,he];refine Qgr ?_;simp -implicitDefEqProofs[wmi];refine Yd.sem (Z1B.byref hp id (by simp) (by simp) (by simp[St.get,lk,ZeI]) (by simp[ZeF]) (by simp[Ya,AV.keys,lk,fM1]) rfl (by simp[AV.ren,fM1]) rfl rfl) ?_;simp -implicitDefEqProofs[Yl,ZeI];refine ⟨[],rfl,rfl,?_⟩;simp[Yi,newK,ZeG]
   . have k1:¬(i:Int)=j:=(by omega);have k2:(j:Int)<i:=(by omega);have k1':¬i=j:=(by omega);have wd:i64.wrap ((i:Int)-j)=((i-j:Nat):Int):=(by rw[Yf (by omega) (by omega)];omega);have hp:=Zfv (G:=R.G) (S:=S) (T:=T) q (m-i) m j (by omega) (by omega) (by omega);have hro:=ro_gt (q:=q) (m:=m) hgt (by omega) (by omega);rw[hql]at hp;have hsl:=Zdf q (m-i) m j;generalize hN1:m-i=N1 at *;simp -implicitDefEqProofs[k1,k2,k1',hgt,wmi];refine Yd.sem (Z1B.byref hp id (by simp) (by simp) (by simp[St.get,lk,ZeI]) (by simp[ZeF]) (by simp[Ya,AV.keys,lk,fM1]) rfl (by simp[AV.ren,fM1]) rfl rfl) ?_;simp -implicitDefEqProofs[Yl,ZeI,wd];refine ⟨(swR q N1 m j,i-j,j),?_,⟨⟨by simp only;omega,by simp only;omega,hj,by simp only;rw[hro,heq]⟩,by simp only;omega,hj0⟩,by simp only;omega⟩
     (refine Wkc ?_;simp only[ZeF,Wkl,and_true];(try simp[lk,Yc,Ya,AV.keys]))
def Zfx (l:Jr) (a b:Nat) (hv:∀ x∈l,okN x) (hin:InjN l) (h1:a+1<=b) (h2:b<=l.length) (h3:l.length<=1000) (hs:SrtN ((l.take b).drop (a+1))) :
  PB prog G 84 [(1000,.row 5 (l.map (isT S T)))] [.osl 1000 l.length,.int .i64 a,.int .i64 (a+1:Nat),.int .i64 b,fM1] (.tup []) [(1000,.row 5 ((srtS l a b).map (isT S T)))]:=by
 (refine Zd8 (W0C rfl) λR hG hrd=>Qga ?_;subst hG)
 have ha:a<l.length:=(by omega);have ex0:l.getD a default=l[a]:=(by simp[W0j,ha]);have w1:i64.wrap ((a:Int)+1-a)=1:=(by rw[Yf (by omega) (by omega)];omega);have c1:i64.wrap 1=1:=rfl;have c2:(a:Int)+1-a=1:=(by omega);simp -implicitDefEqProofs[Zd6,Zd7,fM1,w1,c1,c2]
 refine Z1Q (λp:Nat×Nat=>⟨[(10,.int .i64 p.1),(11,.int .i64 p.2),(0,.osl 1000 l.length),(1,.int .i64 a),(4,.func (.func 39) [] [])],[(1000,.row 5 (l.map (isT S T)))]⟩)
  (BsI l a b) (λp=>p.2-p.1) (a+1,b) ?_ ⟨W0f _,h1,W0f _,λy hy=>by simp at hy,λy hy=>by rw[W1h (by simp;omega)]at hy;cases hy⟩ ?_
 . (refine Wkc ?_;simp only[ZeF,Wkl,and_true];(try simp[lk,Yc,Ya,AV.keys]))
 . rintro ⟨i,j⟩ ⟨q1,q2,q3,q4,q5⟩;refine Qga ?_;simp only at q1 q2 q3 q4 q5;by_cases hij:i<j
   . obtain ⟨h,hh⟩:=Qex ((i+j) / 2);have hw:=Zag (i:=i) (j:=j) (by omega);rw[<- hh]at hw;have b1:h<l.length:=(by omega);have hg:=Zdv (l:=l) (s:=a+1) (b:=b) (k:=h) (by omega) (by omega) h2;have hvx:=hv _ (W0e ha);have hvy:=hv _ (W0e b1);have hcl:=Zcm hvy hvx;have w2:i64.wrap ((h:Int)+1)=((h+1:Nat):Int):=Yf;have hcall:=ZeD (G:=R.G) (S:=S) (T:=T) l[h] l[a] hvy hvx;have exh:isT S T l[h]=[.int .i64 l[h].d,.int .i64 l[h].l,.int .u8 l[h].k,.tok (S l[h]),.tok (T l[h])]:=rfl;have exa:isT S T l[a]=[.int .i64 l[a].d,.int .i64 l[a].l,.int .u8 l[a].k,.tok (S l[a]),.tok (T l[a])]:=rfl;rw[exh,exa]at hcall;simp -implicitDefEqProofs[hij,hw,b1,ha,exh,exa];refine Ye.of hcall (by simp[AV.pure]) ?_;by_cases hlt:cmpN l[h] l[a]<0
     . simp -implicitDefEqProofs[hlt,w2];have e1:h+1-(a+1)=h-(a+1)+1:=(by omega);refine ⟨rfl,(h+1,j),?_,⟨by simp only;omega,by simp only;omega,q3,?_,q5⟩,by simp only;omega⟩
       . (refine Wkc ?_;simp only[ZeF,Wkl,and_true];(try simp[lk,Yc,Ya,AV.keys]))
       . simp only;rw[e1,ex0];exact Zdw hs hg (hcl.1 hlt)
     . simp -implicitDefEqProofs[hlt];refine ⟨rfl,(i,h),?_,⟨q1,by simp only;omega,by simp only;omega,q4,?_⟩,by simp only;omega⟩
       . (refine Wkc ?_;simp only[ZeF,Wkl,and_true];(try simp[lk,Yc,Ya,AV.keys]))
       . simp only;rw[ex0];exact Zdx hs hg λh=>hlt (hcl.2 h)
   . obtain rfl:i=j:=(by omega);simp -implicitDefEqProofs;refine Qgr ?_;obtain ⟨t,ht⟩ : ∃ t,i=a+1+t:=⟨i-(a+1),by omega⟩;have e2:i-(a+1)=t:=(by omega);rw[e2]at q4 q5;have hend:=Zdu hin (by omega) h2 hs q4 q5;simp -implicitDefEqProofs;refine Z91 (λp=>⟨[(13,.int .i64 ((a:Int)+p)),(10,.int .i64 i),(0,.osl 1000 l.length)],[(1000,.row 5 ((mrS l a b p).map (isT S T)))]⟩) (λ_=>True) t ?_ trivial ?_ ?_
     . have z:=Zdr (l:=l) (a:=a) (b:=b) (by omega) h2;rw[z]
       (refine Wkc ?_;simp only[ZeF,Wkl,and_true];(try simp[lk,Yc,Ya,AV.keys]))
     . intro p hp _;refine Qga ?_;obtain ⟨y,y0,y1,y2,y3⟩:=Zdt (l:=l) (a:=a) (b:=b) (p:=p) (by omega) h2 (by omega);have hQ:=Zds (l:=l) (a:=a) (b:=b) (p:=p) (by omega) h2 (by omega);have wi:i64.wrap ((i:Int)-1)=(a:Int)+t:=(by rw[Yf (by omega) (by omega)];omega);have k1:(a:Int)+p<(a:Int)+t:=(by omega);have k1':(p:Int)<t:=(by omega);have w3:i64.wrap ((a:Int)+p+1)=(a:Int)+p+1:=Yf;have k3:((a:Int)+p).toNat=a+p:=(by omega);have k4:((a:Int)+p+1).toNat=a+p+1:=(by omega);have k5:(0:Int)<=(a:Int)+p:=(by omega);have k6:(0:Int)<=(a:Int)+p+1:=(by omega);have k7:a+p<l.length:=(by omega);have k8:a+p+1<l.length:=(by omega);generalize hQ0:mrS l a b p=Q at *;obtain ⟨p1,g1⟩:=W02.1 y1;obtain ⟨p2,g2⟩:=W02.1 y2;generalize hx:l.getD a default=x at *;have exx:isT S T x=[.int .i64 x.d,.int .i64 x.l,.int .u8 x.k,.tok (S x),.tok (T x)]:=rfl;have exy:isT S T y=[.int .i64 y.d,.int .i64 y.l,.int .u8 y.k,.tok (S y),.tok (T y)]:=rfl;simp -implicitDefEqProofs[wi,k1,k1',w3,k3,k4,k5,k6,k7,k8,g1,g2,hQ,hQ0,exx,exy];refine ⟨rfl,?_⟩;have e9:(a:Int)+p+1=(a:Int)+(p+1:Nat):=(by omega);rw[<- exx,<- exy,<- W2a,<- W2a,y3,e9]
       (refine Wkc ?_;simp only[ZeF,Wkl,and_true];(try simp[lk,Yc,Ya,AV.keys]))
     . intro _;refine Qga ?_;have wi:i64.wrap ((i:Int)-1)=(a:Int)+t:=(by rw[Yf (by omega) (by omega)];omega);rw[hend];simp -implicitDefEqProofs[wi];refine Qgr ?_;simp -implicitDefEqProofs;refine ⟨[],rfl,rfl,?_⟩;simp[Yi,newK,ZeG]
def Zfy (l:Jr) (a m:Nat) (hv:∀ x∈l,okN x) (hin:InjN l) (h0:a+1<m) (h2:m+1<=l.length) (h3:l.length<=1000) (hs:SrtN ((l.take m).drop a)) :
  PB prog G 84 [(1000,.row 5 (l.map (isT S T)))] [.osl 1000 l.length,.int .i64 a,.int .i64 m,.int .i64 (m+1:Nat),fM1] (.tup []) [(1000,.row 5 ((srtS l a (m+1)).map (isT S T)))]:=by
 (refine Zd8 (W0C rfl) λR hG hrd=>Qga ?_;subst hG)
 have hm:m<l.length:=(by omega);have ex0:l.getD m default=l[m]:=(by simp[W0j,hm]);have w0:i64.wrap ((m:Int)-a)=(m:Int)-a:=Yf;have c0:¬(m:Int)-a=1:=(by omega);have w1:i64.wrap ((m:Int)+1-m)=1:=(by rw[Yf (by omega) (by omega)];omega);have c1:i64.wrap 1=1:=rfl;have c2:(m:Int)+1-m=1:=(by omega);have hid:sortN ((l.take m).drop a)=(l.take m).drop a:=Zdk (hin.sub λx hx=>W1p (W1L hx)) hs;simp -implicitDefEqProofs[Zd6,Zd7,fM1,w0,c0,w1,c1,c2]
 refine Z1Q (λp:Nat×Nat=>⟨[(14,.int .i64 p.1),(15,.int .i64 p.2),(0,.osl 1000 l.length),(2,.int .i64 m),(4,.func (.func 39) [] [])],[(1000,.row 5 (l.map (isT S T)))]⟩)
  (BtI l a m) (λp=>p.2-p.1) (a,m) ?_ ⟨W0f _,by simp only;omega,W0f _,λy hy=>by simp at hy,λy hy=>by rw[W1h (by simp;omega)]at hy;cases hy⟩ ?_
 . (refine Wkc ?_;simp only[ZeF,Wkl,and_true];(try simp[lk,Yc,Ya,AV.keys]))
 . rintro ⟨i,j⟩ ⟨q1,q2,q3,q4,q5⟩;refine Qga ?_;simp only at q1 q2 q3 q4 q5;by_cases hij:i<j
   . obtain ⟨h,hh⟩:=Qex ((i+j) / 2);have hw:=Zag (i:=i) (j:=j) (by omega);rw[<- hh]at hw;have b1:h<l.length:=(by omega);have hg:=Zdv (l:=l) (s:=a) (b:=m) (k:=h) (by omega) (by omega) (by omega);have hvx:=hv _ (W0e hm);have hvy:=hv _ (W0e b1);have hcl:=Zcm hvx hvy;have w2:i64.wrap ((h:Int)+1)=((h+1:Nat):Int):=Yf;have hcall:=ZeD (G:=R.G) (S:=S) (T:=T) l[m] l[h] hvx hvy;have exh:isT S T l[h]=[.int .i64 l[h].d,.int .i64 l[h].l,.int .u8 l[h].k,.tok (S l[h]),.tok (T l[h])]:=rfl;have exa:isT S T l[m]=[.int .i64 l[m].d,.int .i64 l[m].l,.int .u8 l[m].k,.tok (S l[m]),.tok (T l[m])]:=rfl;rw[exh,exa]at hcall;simp -implicitDefEqProofs[hij,hw,b1,hm,exh,exa];refine Ye.of hcall (by simp[AV.pure]) ?_;by_cases hlt:cmpN l[m] l[h]<0
     . simp -implicitDefEqProofs[hlt];refine ⟨rfl,(i,h),?_,⟨q1,by simp only;omega,by simp only;omega,q4,?_⟩,by simp only;omega⟩
       . (refine Wkc ?_;simp only[ZeF,Wkl,and_true];(try simp[lk,Yc,Ya,AV.keys]))
       . simp only;rw[ex0];exact ZdA hs hg (hcl.1 hlt)
     . simp -implicitDefEqProofs[hlt,w2];have e1:h+1-a=h-a+1:=(by omega);refine ⟨rfl,(h+1,j),?_,⟨by simp only;omega,by simp only;omega,q3,?_,q5⟩,by simp only;omega⟩
       . (refine Wkc ?_;simp only[ZeF,Wkl,and_true];(try simp[lk,Yc,Ya,AV.keys]))
       . simp only;rw[e1,ex0];exact Zdz hs hg λh=>hlt (hcl.2 h)
   . obtain rfl:i=j:=(by omega);simp -implicitDefEqProofs;refine Qgr ?_;obtain ⟨t,ht⟩ : ∃ t,i=a+t:=⟨i-a,by omega⟩;have e2:i-a=t:=(by omega);rw[e2]at q4 q5;rw[ex0]at q4 q5
     have hend:=ZcB (l:=l) (a:=a) (i:=m) (p:=t) hin (by omega) hm (by omega) (by rw[hid];exact q5) (λq hq y hy=>by
      rw[hid]at hy;refine q4 y ?_;subst hq;obtain ⟨hp,rfl⟩:=W02.1 hy;exact W0d (i:=q) (by rw[List.getElem?_take_of_lt (by omega)];exact W07 hp))
     have z:=Zcx (l:=l) (a:=a) (i:=m) (by omega) hm
     have z1:srtS l a m=l:=by
      have e5:l.take a=(l.take m).take a:=(by rw[List.take_take,Nat.min_eq_left (by omega)]);rw[srtS,hid,<- W0U,e5,W11,W11]
     rw[z1]at z;simp -implicitDefEqProofs;refine Z1Q (λp:Nat=>⟨[(17,.int .i64 ((a:Int)+p)),(14,.int .i64 i),(0,.osl 1000 l.length)],[(1000,.row 5 ((mvS l a m p).map (isT S T)))]⟩) (λp=>t<=p/\p<=m-a) (λp=>p) (m-a) ?_ ⟨by omega,W0f _⟩ ?_
     . rw[<- z];have e9:(m:Int)=(a:Int)+(m-a:Nat):=(by omega);rw[e9]
       (refine Wkc ?_;simp only[ZeF,Wkl,and_true];(try simp[lk,Yc,Ya,AV.keys]))
     . rintro p ⟨hp1,hp2⟩;refine Qga ?_;by_cases hpt:p=t
       . have k0:¬(a:Int)+t<(a:Int)+p:=(by omega);have k0':¬(t:Int)<p:=(by omega);have k0'':¬t<p:=(by omega);subst hpt;rw[hend];simp -implicitDefEqProofs[ht];refine Qgr ?_;simp -implicitDefEqProofs;refine ⟨[],rfl,rfl,?_⟩;simp[Yi,newK,ZeG]
       . obtain ⟨u,rfl⟩ : ∃ u,p=u+1:=⟨p-1,by omega⟩;obtain ⟨y,y0,y1,y2,y3,-⟩:=ZcA (l:=l) (a:=a) (i:=m) (p:=u) (by omega) hm (by omega);have hQ:=Zcy (l:=l) (a:=a) (i:=m) (p:=u+1) (by omega) hm (by omega);have k1:(a:Int)+t<(a:Int)+(u+1):=(by omega);have k1':(t:Int)<(u:Int)+1:=(by omega);have w3:i64.wrap ((a:Int)+(u+1)-1)=(a:Int)+u:=(by rw[Yf (by omega) (by omega)];omega);have k3:((a:Int)+(u+1)).toNat=a+u+1:=(by omega);have k4:((a:Int)+u).toNat=a+u:=(by omega);have k5:(0:Int)<=(a:Int)+(u+1):=(by omega);have k6:(0:Int)<=(a:Int)+u:=(by omega);have k7:a+u<l.length:=(by omega);have k8:a+u+1<l.length:=(by omega);generalize hQ0:mvS l a m (u+1)=Q at *;obtain ⟨p1,g1⟩:=W02.1 y1;obtain ⟨p2,g2⟩:=W02.1 y2;generalize hxx:l[m]=x at *;have exx:isT S T x=[.int .i64 x.d,.int .i64 x.l,.int .u8 x.k,.tok (S x),.tok (T x)]:=rfl;have exy:isT S T y=[.int .i64 y.d,.int .i64 y.l,.int .u8 y.k,.tok (S y),.tok (T y)]:=rfl;simp -implicitDefEqProofs[ht,k1,k1',w3,k3,k4,k5,k6,k7,k8,g1,g2,hQ,hQ0,exx,exy];refine ⟨rfl,u,?_,⟨by omega,by omega⟩,W2d _⟩;rw[<- exx,<- exy,<- W2a,<- W2a,y3]
         ((try simp only[ht]);refine Ym.sub (by simp[lk,Ya,AV.keys,ht]) ?_;simp only[ht,Wkl,ZeF,and_true];(try simp[lk,Yc,Ya,AV.keys,ht]))
end
section
variable {G:Jg} {S T:Iss->Value->Prop}
set_option maxRecDepth 100000 in
def Zfz:∀ (N:Nat) (l:Jr) (a m b:Nat),b-a<=N->(∀ x∈l,okN x)->InjN l->a<m->m<b->b<=l.length->l.length<=1000->SrtN ((l.take m).drop a)->SrtN ((l.take b).drop m) ->
  PB prog G 84 [(1000,.row 5 (l.map (isT S T)))] [.osl 1000 l.length,.int .i64 a,.int .i64 m,.int .i64 b,fM1] (.tup []) [(1000,.row 5 ((srtS l a b).map (isT S T)))]
 |0,_,_,_,_,hN,_,_,h1,h2,_,_,_,_=>by omega
 | N + 1, l,a,m,b,hN,hv,hin,h1,h2,h3,h4,hsA,hsB=>by
   by_cases e1:m=a+1
   . subst e1;exact Zfx l a b hv hin (by omega) h3 h4 hsB
   by_cases e2:b=m+1
   . subst e2;exact Zfy l a m hv hin (by omega) h3 h4 hsA
   have ih:=λl a m b=>Zfz N l a m b
   (refine Zd8 (W0C rfl) λR hG hrd=>Qga ?_;subst hG)
   have w0:i64.wrap ((m:Int)-a)=(m:Int)-a:=Yf;have c0:¬(m:Int)-a=1:=(by omega);have w1:i64.wrap ((b:Int)-m)=(b:Int)-m:=Yf;have c1:¬(b:Int)-m=1:=(by omega);obtain ⟨c,hc⟩:=Qex ((a+b) / 2);have hw:=Zag (i:=a) (j:=b) (by omega);rw[<- hc]at hw;have w2:i64.wrap ((c:Int)+m)=((c+m:Nat):Int):=Yf;simp -implicitDefEqProofs[Zd6,Zd7,fM1,w0,c0,w1,c1,hw,w2]
   have hbr:∃ s0 r0:Nat,a<=s0/\s0<=r0/\r0<=m/\r0<=c/\c+m-s0<=b/\(s0=a∨c+m-s0=b)/\(r0=m∨r0=c)/\(c<m->s0=c+m-b/\r0=c)/\(¬c<m->s0=a/\r0=m):=by
    by_cases h:c<m
    . exact ⟨c+m-b,c,by omega,by omega,by omega,by omega,by omega,.inr (by omega),.inr rfl,λ_=>⟨rfl,rfl⟩,λh'=>absurd h h'⟩
    . exact ⟨a,m,by omega,by omega,by omega,by omega,by omega,.inl rfl,.inl rfl,λh'=>absurd h' h,λ_=>⟨rfl,rfl⟩⟩
   obtain ⟨s0,r0,g1,g2,g3,g4,g5,g6,g7,g8,g9⟩:=hbr;have w3:i64.wrap (((c+m:Nat):Int)-1)=((c+m-1:Nat):Int):=by rw[Yf (by omega) (by omega)];omega
   have hk12:(c<m/\s0=c+m-b/\r0=c)∨(¬c<m/\s0=a/\r0=m):=by
    by_cases h:c<m
    . exact .inl ⟨h,g8 h⟩
    . exact .inr ⟨h,g9 h⟩
   clear g8 g9;rcases hk12 with ⟨hcm,k1,k2⟩ | ⟨hcm,k1,k2⟩
   case' inl =>
    have w4:i64.wrap (((c+m:Nat):Int)-b)=((c+m-b:Nat):Int):=(by rw[Yf (by omega) (by omega)];omega);rw[Int.natCast_add]at w3 w4;rw[<- k1]at w4;simp -implicitDefEqProofs[hcm,w3,w4]
   case' inr =>
    rw[Int.natCast_add]at w3;simp -implicitDefEqProofs[hcm,w3]
   all_goals
    refine Z1Q (λp:Nat×Nat=>⟨[(20,.int .i64 p.1),(21,.int .i64 p.2),(22,.int .i64 (c+m-1:Nat)),(19,.int .i64 ((c:Int)+m)),(18,.int .i64 c),(0,.osl 1000 l.length),(1,.int .i64 a),(2,.int .i64 m),(3,.int .i64 b),(4,.func (.func 39) [] [])],[(1000,.row 5 (l.map (isT S T)))]⟩)
     (CtI l (c+m) s0 r0) (λp=>p.2-p.1) (s0,r0) ?_ ⟨W0f _,g2,W0f _,λh=>absurd h (Nat.lt_irrefl _),λh=>absurd h (Nat.lt_irrefl _)⟩ ?_
    . simp only[k1,k2]
      (refine Wkc ?_;simp only[ZeF,Wkl,and_true];(try simp[lk,Yc,Ya,AV.keys]))
    . rintro ⟨i,j⟩ hI;have hI0:=hI;obtain ⟨q1,q2,q3,q4,q5⟩:=hI;refine Qga ?_;simp only at q1 q2 q3 q4 q5;by_cases hij:i<j
      . obtain ⟨h,hh⟩:=Qex ((i+j) / 2);have hwh:=Zag (i:=i) (j:=j) (by omega);rw[<- hh]at hwh;have b1:h<l.length:=(by omega);have b2:c+m-1-h<l.length:=(by omega);have hvx:=hv _ (W0e b2);have hvy:=hv _ (W0e b1);have hcl:=Zcm hvx hvy;have wh:i64.wrap ((h:Int)+1)=((h+1:Nat):Int):=Yf;have wp:i64.wrap (((c+m-1:Nat):Int)-h)=((c+m-1-h:Nat):Int):=(by rw[Yf (by omega) (by omega)];omega);have hcall:=ZeD (G:=R.G) (S:=S) (T:=T) l[c+m-1-h] l[h] hvx hvy;have exh:isT S T l[h]=[.int .i64 l[h].d,.int .i64 l[h].l,.int .u8 l[h].k,.tok (S l[h]),.tok (T l[h])]:=rfl;have exp:isT S T l[c+m-1-h]=[.int .i64 l[c+m-1-h].d,.int .i64 l[c+m-1-h].l,.int .u8 l[c+m-1-h].k,.tok (S l[c+m-1-h]),.tok (T l[c+m-1-h])]:=rfl;rw[exh,exp]at hcall;have dh:l.getD h default=l[h]:=(by simp[W0j,b1]);have dp:l.getD (c+m-1-h) default=l[c+m-1-h]:=(by simp[W0j,b2]);generalize hP:c+m-1=P at *;simp -implicitDefEqProofs[hij,hwh,wp,b1,b2,exh,exp];refine Ye.of hcall (by simp[AV.pure]) ?_;by_cases hlt:cmpN l[P-h] l[h]<0
        . simp -implicitDefEqProofs[hlt];refine ⟨rfl,(i,h),?_,⟨q1,by simp only;omega,by simp only;omega,q4,λ_=>?_⟩,by simp only;omega⟩
          . (refine Wkc ?_;simp only[ZeF,Wkl,and_true];(try simp[lk,Yc,Ya,AV.keys]))
          . simp only;rw[hP,dh,dp];exact hcl.1 hlt
        . simp -implicitDefEqProofs[hlt,wh];refine ⟨rfl,(h+1,j),?_,⟨by simp only;omega,by simp only;omega,q3,λ_=>?_,by simp only;rw[hP];exact q5⟩,by simp only;omega⟩
          . (refine Wkc ?_;simp only[ZeF,Wkl,and_true];(try simp[lk,Yc,Ya,AV.keys]))
          . simp only;rw[show c+m-(h+1)=P-h by omega,show h+1-1=h by omega,dh,dp];exact λh=>hlt (hcl.2 h)
      . obtain rfl:i=j:=(by omega);obtain ⟨e,he⟩:=Qex (c+m-i);have we:i64.wrap (((c:Int)+m)-i)=(e:Int):=(by rw[Yf (by omega) (by omega)];omega);have x1:a<=i:=(by omega);have x2:i<=m:=(by omega);have x3:i<=c:=(by omega);have x4:m<=e:=(by omega);have x5:e<=b:=(by omega);have x6:c=i+(e-m):=(by omega);have hstep:=ZdF (l:=l) (a:=a) (m:=m) (b:=b) (c:=c) (s:=i) hin (by omega) (by omega) h3 (by omega) (by omega) hsA hsB x1 x2 x3 (by omega) hI0 g6 g7;rw[<- he]at hstep;have pr:=ZdH (l:=l) (a:=i) (m:=m) (b:=e) x2 x4 (by omega);obtain ⟨rl1,rl2⟩:=ZdJ (l:=l) (a:=a) (s:=i) (m:=m) (e:=e) (c:=c) x1 x2 x4 (by omega) x6;obtain ⟨rr1,rr2⟩:=ZdN (l:=l) (s:=i) (m:=m) (e:=e) (c:=c) (b:=b) x2 x4 (by omega) x6;have roL:=roS_l (l:=l) (m:=m) (e:=e) x4;have roR:=roS_r (l:=l) (s:=i) (m:=m) x2;have hrot:=λ(y1:i<m) (y2:m<e)=>Zfw (G:=R.G) (S:=S) (T:=T) l i m e y1 y2 (by omega) h4
        generalize hq1:roS l i m e=q1 at *;have q1v:=ZdI pr hv;have q1i:InjN q1:=hin.perm pr.symm;have q1l:q1.length=l.length:=pr.length_eq;have ps:=ZdG (l:=q1) (a:=a) (b:=c) (by omega);have sr:=ZdK (q:=q1) (a:=a) (c:=c) (e:=e) (b:=b) (by omega) (by omega) (by omega);have sid:=λhs=>ZdC (q:=q1) (a:=a) (c:=c) q1i (by omega) hs
        have hrec1:=λ(y1:a<i) (y2:i<c) z1 z2=>ih q1 a i c (by omega) q1v q1i y1 y2 (by omega) (by omega) z1 z2
        generalize hq2:srtS q1 a c=q2 at *;have q2v:=ZdI ps q1v;have q2i:InjN q2:=q1i.perm ps.symm;have q2l:q2.length=l.length:=(by rw[ps.length_eq,q1l]);have sid2:=λhs=>ZdC (q:=q2) (a:=c) (c:=b) q2i (by omega) hs
        have hrec2:=λ(y1:c<e) (y2:e<b) z1 z2=>ih q2 c e b (by omega) q2v q2i y1 y2 (by omega) (by omega) z1 z2
        rw[q1l]at hrec1;rw[q2l]at hrec2;have wl1:SrtN ((q1.take i).drop a):=(by rw[rl1];exact ZdL hsA x2);have wl2:SrtN ((q1.take c).drop i):=(by rw[rl2];exact ZdL hsB x5);have wr1:SrtN ((q2.take e).drop c):=(by rw[sr.1,rr1];exact ZdM hsA x1);have wr2:SrtN ((q2.take b).drop e):=(by rw[sr.2,rr2];exact ZdM hsB x4);simp -implicitDefEqProofs;refine Z2R mixed 2 ?_;simp -implicitDefEqProofs
        refine GO0 (ZdO (S:=⟨[(24,.int .i64 e),(20,.int .i64 i),(18,.int .i64 c),(0,.osl 1000 l.length),(1,.int .i64 a),(2,.int .i64 m),(3,.int .i64 b),(4,.func (.func 39) [] [])],[(1000,.row 5 (l.map (isT S T)))]⟩) ?_
         (ZdO (S:=⟨[(24,.int .i64 e),(20,.int .i64 i),(18,.int .i64 c),(0,.osl 1000 l.length),(1,.int .i64 a),(2,.int .i64 m),(3,.int .i64 b),(4,.func (.func 39) [] [])],[(1000,.row 5 (q1.map (isT S T)))]⟩) ?_
         (ZdO (S:=⟨[(24,.int .i64 e),(20,.int .i64 i),(18,.int .i64 c),(0,.osl 1000 l.length),(1,.int .i64 a),(2,.int .i64 m),(3,.int .i64 b),(4,.func (.func 39) [] [])],[(1000,.row 5 (q2.map (isT S T)))]⟩) ?_ ?_)))
        . refine Qga ?_;simp -implicitDefEqProofs[we]
          (refine Wkc ?_;simp only[ZeF,Wkl,and_true];(try simp[lk,Yc,Ya,AV.keys]))
        . refine Qga ?_;by_cases y1:i<m
          . by_cases y2:m<e
            . simp -implicitDefEqProofs[y1,y2];refine Yd.sem (Z1B.byref (hrot y1 y2) id (by simp) (by simp) (by simp[St.get,lk,ZeI]) (by simp[ZeF]) (by simp[Ya,AV.keys,lk,fM1]) rfl (by simp[AV.ren,fM1]) rfl rfl) ?_;simp -implicitDefEqProofs[Yl,ZeI]
              (refine Wkc ?_;simp only[ZeF,Wkl,and_true];(try simp[lk,Yc,Ya,AV.keys]))
            . obtain rfl:e=m:=(by omega);rw[roR]at hq1;simp -implicitDefEqProofs[y1];rw[<- hq1]
              (refine Wkc ?_;simp only[ZeF,Wkl,and_true];(try simp[lk,Yc,Ya,AV.keys]))
          . obtain rfl:i=m:=(by omega);rw[roL]at hq1;simp -implicitDefEqProofs;rw[<- hq1]
            (refine Wkc ?_;simp only[ZeF,Wkl,and_true];(try simp[lk,Yc,Ya,AV.keys]))
        . refine Qga ?_;by_cases y1:a<i
          . by_cases y2:i<c
            . simp -implicitDefEqProofs[y1,y2];refine Yd.sem (Z1B.byref (hrec1 y1 y2 wl1 wl2) id (by simp) (by simp) (by simp[St.get,lk,ZeI]) (by simp[ZeF]) (by simp[Ya,AV.keys,lk,fM1]) rfl (by simp[AV.ren,fM1]) rfl rfl) ?_;simp -implicitDefEqProofs[Yl,ZeI]
              (refine Wkc ?_;simp only[ZeF,Wkl,and_true];(try simp[lk,Yc,Ya,AV.keys]))
            . have e9:i=c:=(by omega);have:=sid (by rw[<- e9];exact wl1);simp -implicitDefEqProofs[y1,y2];rw[this]
              (refine Wkc ?_;simp only[ZeF,Wkl,and_true];(try simp[lk,Yc,Ya,AV.keys]))
          . have e9:i=a:=(by omega);have:=sid (by rw[<- e9];exact wl2);simp -implicitDefEqProofs[y1];rw[this]
            (refine Wkc ?_;simp only[ZeF,Wkl,and_true];(try simp[lk,Yc,Ya,AV.keys]))
        . refine Qga ?_;by_cases y1:c<e
          . by_cases y2:e<b
            . have hr:=hrec2 y1 y2 wr1 wr2;rw[hstep]at hr;simp -implicitDefEqProofs[y1,y2];refine Yd.sem (Z1B.byref hr id (by simp) (by simp) (by simp[St.get,lk,ZeI]) (by simp[ZeF]) (by simp[Ya,AV.keys,lk,fM1]) rfl (by simp[AV.ren,fM1]) rfl rfl) ?_;simp -implicitDefEqProofs[Yl,ZeI];refine ⟨[],rfl,rfl,?_⟩;simp[Yi,newK,ZeG]
            . have e9:e=b:=(by omega);have:=sid2 (by rw[<- e9];exact wr1);rw[hstep]at this;simp -implicitDefEqProofs[y1,y2];refine ⟨[],rfl,rfl,?_⟩;simp[Yi,newK,ZeG,this]
          . have e9:e=c:=(by omega);have:=sid2 (by rw[<- e9];exact wr2);rw[hstep]at this;simp -implicitDefEqProofs[y1];refine ⟨[],rfl,rfl,?_⟩;simp[Yi,newK,ZeG,this]
def ZfA (l:Jr) (hv:∀ x∈l,okN x) (hin:InjN l) (h3:l.length<=500) :
  PB prog G 69 [(1000,.row 5 (l.map (isT S T)))] [.osl 1000 l.length,.int .i64 l.length,fM1] (.tup []) [(1000,.row 5 ((sortN l).map (isT S T)))]:=by
 (refine Z5O (W0C rfl) λR hG hrd=>Qga ?_;subst hG)
 simp -implicitDefEqProofs[Z5M,Z5N,fM1]
 refine Z1Q (λp:List Iss×Nat=>⟨[(8,.int .i64 ((p.2:Int)+20)),(7,.int .i64 p.2),(6,.int .i64 20),(0,.osl 1000 l.length),(1,.int .i64 l.length),(2,.func (.func 39) [] [])],[(1000,.row 5 (p.1.map (isT S T)))]⟩)
  (λp=>p.1.Perm l/\p.2<=l.length/\∃ i,p.2=20*i/\BlkS 20 p.1 i) (λp=>l.length-p.2) (l,0) ?_ ⟨List.Perm.refl _,W1e _,0,rfl,λj hj=>absurd hj (Nat.not_lt_zero _)⟩ ?_
 . (refine Wkc ?_;simp only[ZeF,Wkl,and_true];(try simp[lk,Yc,Ya,AV.keys]))
 rintro ⟨q,A⟩ ⟨hp,hA,i,hi,hb⟩;simp only at hp hA hi hb;refine Qga ?_;have hql:=hp.length_eq;have qv:=ZdI hp hv;have qi:InjN q:=hin.perm hp.symm;by_cases k1:A+20<=l.length
 . have k1':(A:Int)+20<=l.length:=(by omega);have hc:=ZeH (G:=R.G) (S:=S) (T:=T) q A (A+20) qv qi (by omega) (by omega) (by omega);rw[show ((A+20:Nat):Int)=(A:Int)+20 by omega,hql]at hc;have w1:i64.wrap ((A:Int)+20+20)=(A:Int)+20+20:=Yf;have ps:=(ZdG (l:=q) (a:=A) (b:=A+20) (by omega)).trans hp;have hb2:=ZdU hb (by omega);rw[<- hi]at hb2;generalize hq2:srtS q A (A+20)=q2 at *;simp -implicitDefEqProofs[k1'];refine Yd.sem (Z1B.byref hc id (by simp) (by simp) (by simp[St.get,lk,ZeI]) (by simp[ZeF]) (by simp[Ya,AV.keys,lk,fM1]) rfl (by simp[AV.ren,fM1]) rfl rfl) ?_;simp -implicitDefEqProofs[Yl,ZeI,w1];refine ⟨(q2,A+20),?_,⟨ps,k1,i+1,by simp only;omega,hb2⟩,by simp only;omega⟩
   (refine Wkc ?_;simp only[ZeF,Wkl,and_true];(try simp[lk,Yc,Ya,AV.keys]))
 . have k1':¬(A:Int)+20<=l.length:=(by omega);have hc:=ZeH (G:=R.G) (S:=S) (T:=T) q A l.length qv qi (by omega) (by omega) (by omega);rw[hql]at hc;have ps:=(ZdG (l:=q) (a:=A) (b:=l.length) (by omega)).trans hp;have hb2:=ZdV hb (by omega) (by omega);rw[<- hi,hql]at hb2;generalize hq2:srtS q A l.length=q2 at *;simp -implicitDefEqProofs[k1'];refine Qgr ?_;simp -implicitDefEqProofs;refine Yd.sem (Z1B.byref hc id (by simp) (by simp) (by simp[St.get,lk,ZeI]) (by simp[ZeF]) (by simp[Ya,AV.keys,lk,fM1]) rfl (by simp[AV.ren,fM1]) rfl rfl) ?_;simp -implicitDefEqProofs[Yl,ZeI]
   refine Z1Q (λp:List Iss×Nat=>⟨[(6,.int .i64 p.2),(0,.osl 1000 l.length),(1,.int .i64 l.length),(2,.func (.func 39) [] [])],[(1000,.row 5 (p.1.map (isT S T)))]⟩)
    (λp=>p.1.Perm l/\20<=p.2/\∀ k,BlkS p.2 p.1 k) (λp=>l.length-p.2) (q2,20) ?_ ⟨ps,W0f _,hb2⟩ ?_
   . (refine Wkc ?_;simp only[ZeF,Wkl,and_true];(try simp[lk,Yc,Ya,AV.keys]))
   clear hc ps hb2 hq2 hql qv qi k1 k1' hp hA hi hb;clear q2 q A i;rintro ⟨q,bs⟩ ⟨hp,h20,hb⟩;simp only at hp h20 hb;refine Qga ?_;by_cases k1:bs<l.length
   . have w0:i64.wrap (2*(bs:Int))=2*(bs:Int):=Yf;have w9:i64.wrap ((bs:Int)*2)=2*(bs:Int):=(by rw[Yf (by omega) (by omega)];omega);simp -implicitDefEqProofs[k1,w0]
     refine Z1Q (λp:List Iss×Nat=>⟨[(8,.int .i64 ((p.2:Int)+2*(bs:Int))),(7,.int .i64 p.2),(6,.int .i64 bs),(0,.osl 1000 l.length),(1,.int .i64 l.length),(2,.func (.func 39) [] [])],[(1000,.row 5 (p.1.map (isT S T)))]⟩)
      (λp=>p.1.Perm l/\p.2<=l.length/\∃ i,p.2=2*bs*i/\BlkS (2*bs) p.1 i/\BlkF bs p.1 (2*i)) (λp=>l.length-p.2) (q,0) ?_ ⟨hp,W1e _,0,rfl,λj hj=>absurd hj (Nat.not_lt_zero _),blk_F hb⟩ ?_
     . (refine Wkc ?_;simp only[ZeF,Wkl,and_true];(try simp[lk,Yc,Ya,AV.keys]))
     rintro ⟨q,A⟩ ⟨hp,hA,i,hi,hb,hf⟩;simp only at hp hA hi hb hf;refine Qga ?_;have hql:=hp.length_eq;have qv:=ZdI hp hv;have qi:InjN q:=hin.perm hp.symm;obtain ⟨sm1,sm2⟩:=ZdX hf;rw[<- hi]at sm1 sm2;by_cases k2:A+2*bs<=l.length
     . have k2':(A:Int)+2*(bs:Int)<=l.length:=(by omega);have hc:=Zfz (G:=R.G) (S:=S) (T:=T) q.length q A (A+bs) (A+2*bs) (by omega) qv qi (by omega) (by omega) (by omega) (by omega) sm1 sm2;rw[show ((A+2*bs:Nat):Int)=(A:Int)+2*(bs:Int) by omega,show ((A+bs:Nat):Int)=(A:Int)+bs by omega,hql]at hc;have w1:i64.wrap ((A:Int)+bs)=(A:Int)+bs:=Yf;have w2:i64.wrap ((A:Int)+2*(bs:Int)+2*(bs:Int))=(A:Int)+2*(bs:Int)+2*(bs:Int):=Yf;have ps:=(ZdG (l:=q) (a:=A) (b:=A+2*bs) (by omega)).trans hp;have hb2:=ZdU hb (by omega);have hf2:=ZdY hf (by omega);rw[<- hi]at hb2 hf2;generalize hq2:srtS q A (A+2*bs)=q2 at *;simp -implicitDefEqProofs[k2',w0,w1];refine Yd.sem (Z1B.byref hc id (by simp) (by simp) (by simp[St.get,lk,ZeI]) (by simp[ZeF]) (by simp[Ya,AV.keys,lk,fM1]) rfl (by simp[AV.ren,fM1]) rfl rfl) ?_;simp -implicitDefEqProofs[Yl,ZeI,w0,w2];refine ⟨(q2,A+2*bs),?_,⟨ps,k2,i+1,by simp only;rw[Nat.mul_succ];omega,hb2,hf2⟩,by simp only;omega⟩
       (refine Wkc ?_;simp only[ZeF,Wkl,and_true];(try simp[lk,Yc,Ya,AV.keys]))
     . have k2':¬(A:Int)+2*(bs:Int)<=l.length:=(by omega);have w1:i64.wrap ((A:Int)+bs)=(A:Int)+bs:=Yf;by_cases k3:A+bs<l.length
       . have k3':(A:Int)+bs<l.length:=(by omega);have e1:q.take (A+2*bs)=q.take l.length:=(by rw[W0J (by omega),W0J (by omega)]);rw[e1]at sm2;have hc:=Zfz (G:=R.G) (S:=S) (T:=T) q.length q A (A+bs) l.length (by omega) qv qi (by omega) (by omega) (by omega) (by omega) sm1 sm2;rw[show ((A+bs:Nat):Int)=(A:Int)+bs by omega,hql]at hc;have ps:=(ZdG (l:=q) (a:=A) (b:=l.length) (by omega)).trans hp;have hb2:=ZdV hb (by omega) (by omega);rw[<- hi,hql]at hb2;generalize hq2:srtS q A l.length=q2 at *;simp -implicitDefEqProofs[k2'];refine Qgr ?_;simp -implicitDefEqProofs[w1,k3'];refine Yd.sem (Z1B.byref hc id (by simp) (by simp) (by simp[St.get,lk,ZeI]) (by simp[ZeF]) (by simp[Ya,AV.keys,lk,fM1]) rfl (by simp[AV.ren,fM1]) rfl rfl) ?_;simp -implicitDefEqProofs[Yl,ZeI,w9];refine ⟨(q2,2*bs),?_,⟨ps,by simp only;omega,hb2⟩,by simp only;omega⟩
         (refine Wkc ?_;simp only[ZeF,Wkl,and_true];(try simp[lk,Yc,Ya,AV.keys]))
       . have k3':¬(A:Int)+bs<l.length:=(by omega);have hb2:=ZdZ hb hf (by omega);simp -implicitDefEqProofs[k2'];refine Qgr ?_;simp -implicitDefEqProofs[w1,k3',w9];refine ⟨(q,2*bs),?_,⟨hp,by simp only;omega,hb2⟩,by simp only;omega⟩
         (refine Wkc ?_;simp only[ZeF,Wkl,and_true];(try simp[lk,Yc,Ya,AV.keys]))
   . have hs:=Ze0 hb (by rw[hp.length_eq];omega);have he:sortN l=q:=Zcr hin hp hs;simp -implicitDefEqProofs[k1];refine Qgr ?_;simp -implicitDefEqProofs;refine ⟨[],rfl,rfl,?_⟩;simp[Yi,newK,ZeG,he]
def ZfB (l:Jr) (hv:∀ x∈l,okN x) (hin:InjN l) (h3:l.length<=500) :
  PB prog G 38 [(1000,.row 5 (l.map (isT S T)))] [.osl 1000 l.length,fM1] (.tup []) [(1000,.row 5 ((sortN l).map (isT S T)))]:=by
 (refine Z5L (W0C rfl) λR hG hrd=>Qga ?_;subst hG)
 simp -implicitDefEqProofs[Z5J,Z5K,fM1];refine Yd.sem (Z1B.byref (ZfA (S:=S) (T:=T) l hv hin h3) id (by simp) (by simp) (by simp[St.get,lk,ZeI]) (by simp[ZeF]) (by simp[Ya,AV.keys,lk,fM1]) rfl (by simp[AV.ren,fM1]) rfl rfl) ?_;simp -implicitDefEqProofs[Yl,ZeI];refine ⟨[],rfl,rfl,?_⟩;simp[Yi,newK,ZeG]
end
def ZfC (xs:List Nat) (h:∀ k∈xs,700<=k):Z2t
   [{ d:=some 39,rt:=[9],fk:=[],wk:=[],aft:=[] },
    { d:=some 40,rt:=[39],fk:=[9],wk:=[],aft:=[0] },
    { d:=some 41,rt:=[11],fk:=[11],wk:=[],aft:=[] },
    { d:=some 42,rt:=[41],fk:=xs,wk:=xs,aft:=[2] },
    { d:=some 43,rt:=[42],fk:=[43],wk:=[43],aft:=[3] },
    { d:=some 44,rt:=[40,43],fk:=[44,44,43],wk:=[44,44],aft:=[1,4,3] },
    { d:=some 45,rt:=[9],fk:=[],wk:=[],aft:=[0,1,2,3,4,5] },
    { d:=none,rt:=[45,44],fk:=[9],wk:=[9],aft:=[6,5,5,0,1,2,3,4,5] }]=true:=by
 have c1:∀ m,m<700->xs.contains m=false:=λm hm=>by
  rw[Bool.eq_false_iff];intro e;have:=h m (W0w.1 e);omega
 have c2:∀ l:List Nat,(∀ m∈l,m<700)->cuts xs l=false:=λl hl=>by
  rw[cuts,W1X];intro x hx e;have:=h x hx;have:=hl x (W0w.1 e);omega
 have c3:∀ l:List Nat,(∀ m∈l,m<700)->cuts l xs=false:=λl hl=>by
  rw[cuts,W1X];intro x hx e;rw[c1 x (hl x hx)]at e
  cases e
 have q1:=c2 [] (by simp);have q2:=c2 [9] (by simp);have q3:=c2 [11] (by simp);have q4:=c2 [43] (by simp);have q5:=c2 [44,44,43] (by simp);have q6:=c2 [44,44] (by simp);have p1:=c3 [] (by simp);have p2:=c3 [9] (by simp);have p3:=c3 [11] (by simp);have p4:=c3 [43] (by simp);have p5:=c3 [44,44,43] (by simp);have p6:=c3 [44,44] (by simp);clear c1 c2 c3 h;simp (config:={ decide:=true }) [Z2t,Z2s,conf,List.range,List.range.loop,q1,q2,q3,q4,q5,q6,p1,p2,p3,p4,p5,p6,reach]
def mgK:Nat->Bool:=λk=>decide (k<700) && !decide (k=44)
def moT (l:Jr) (i:Nat):List (Nat×AV):=[(35,.int .i64 i),(34,.int .i64 l.length),(33,.vsl (l.map isa)),(9,.ptr 9 0),(4,.ptr 4 0)]
def moS (l:Jr):Nat->St
 |0=>⟨moT l 0,[(9,.box [.nils]),(4,.box [.nils])]⟩
 |i+1=>⟨moT l (i+1),tkF 700 (l.take (i+1))++[(9,.box [.osl 44 (i+1)]),(4,.box [.nils]),(44,.row 5 (tkW 700 (l.take (i+1))))]⟩
def ZfD {o:List (Nat×AObj)}:∀ (l:Jr) (b:Nat),(∀ p∈tkF b l,(lk o p.1).isSome=true)->Yc o (.row 5 (tkW b l))=true
 |[],_,_=>by simp[tkW,Yc]
 | x::l,b,h=>by
   have ih:=ZfD (o:=o) l (b+2) λp hp=>h p (List.mem_append_right _ hp)
   simp only[Yc,tkW,List.all_cons,List.all_nil,W21,W01]at ih ⊢;refine ⟨?_,ih⟩
   have hI:Ya o (ovI b x)=true:=by
    unfold ovI;split
    . simp[Ya,AV.keys]
    . rename_i e;simp[Ya,AV.keys,h (b,.row 2 (x.its.map ita)) (by simp[tkF,orI,e])]
   have hD:Ya o (ovD (b+1) x)=true:=by
    unfold ovD;split
    . simp[Ya,AV.keys]
    . rename_i e;simp[Ya,AV.keys,h (b+1,.row 3 (x.dms.map dma)) (by simp[tkF,orD,e])]
   exact ⟨by simp[Ya,AV.keys],by simp[Ya,AV.keys],by simp[Ya,AV.keys],hI,hD⟩
def ZfE {T C:List (Nat×AObj)} {l:Jr} (h:T=tkF 700 l):Yc (T++C) (.row 5 (tkW 700 l))=true :=
 ZfD l 700 λp hp=>by
  subst h;rw[Zf2 (lk_nd (Zfh l 700) p hp)];rfl
def ZfF {l:Jr} {k:Nat} (h:700+2*l.length<=k):lk (tkF 700 l) k=none:=by
 cases e:lk (tkF 700 l) k with
 |none=>rfl
 | some o =>
   obtain ⟨i,hi,h1⟩:=Zff (Z4J e);rcases h1 with ⟨-,h1⟩ | ⟨-,h1⟩ <;> (simp only[W06]at h1;omega)
def ZfG (l:Jr) (x:Iss) (st:St):frzA mgK st (noI l x)=noI l x:=by
 unfold noI;split
 . simp[frzA,frz,AV.keys]
 . have:(nmI l x).all (λp=>!mgK p.1)=true:=W03.2 λp hp=>by
    obtain ⟨i,-,-,rfl⟩:=Zfj.1 hp;simp[mgK]
   simp only[frzA,frz,AV.keys,List.all_map,W0y,this,if_true,W0P]
def ZfH (l:Jr) (x:Iss) (st:St):frzA mgK st (noD' l x)=noD' l x:=by
 unfold noD';split
 . simp[frzA,frz,AV.keys]
 . have:(nmD l x).all (λp=>!mgK p.1)=true:=W03.2 λp hp=>by
    obtain ⟨i,-,-,rfl⟩:=Zfk.1 hp;simp[mgK];omega
   simp only[frzA,frz,AV.keys,List.all_map,W0y,this,if_true,W0P]
def ZfI (l m:Jr) (st:St):frzO mgK st (.row 5 (mgR l m)) = .row 5 (mgR l m):=by
 simp only[frzO,mgR,W0r,W10,List.map_replicate]
 congr 2
 . refine W0K λx _=>?_
   simp only[Function.comp,isN,W0F,W1c,ZfG,ZfH];simp[frzA,frz,AV.keys]
 . simp[zrI,frzA,frz,AV.keys]
def ZfJ (n:Nat) (m:Jr) (K:Nat):(mgV 1000 n m).ren (λ_=>K)=mgV K n m:=by
 unfold mgV;split <;> simp[AV.ren]
def ZfK (hG:GC G) (a b:Jr) (ha:Wf a) (hb:Wf b) (k0:bothE a b=0) (k1:clN a b a.length=[]) (ko:openV (mgL a b)=0) :
  PB prog G 10 [] [rega a,rega b] (.tup [.agg [mgV 44 (a++b).length (mgL a b)],.int .i64 0]) (tkF 700 (a++b)++[(44,.row 5 (mgR (a++b) (mgL a b)))]):=by
 obtain ⟨bk,hcl⟩:=ZcW hG a b ha hb;have ev:clE a b=[]:=by simp[clE,k0,k1]
 have oa:openV a=0:=by
  unfold bothE at k0;split at k0
  . assumption
  . exact k0
 have ob:openV b=0:=(by simpa [bothE,oa] using k0);have la:=Zbh oa;have lb:=Zbh ob;have sa:=Zbi la;have sb:=Zbi lb;have na:a≠[]:=(by rintro rfl;simp at sa);have nb:b≠[]:=(by rintro rfl;simp at sb);have hwf:=Zd4 ha hb (by omega) (by omega);have hin:=Zd0 la lb k1
 have hok:∀ x∈a++b,okN x:=λx hx=>by
  rcases W0h.1 hx with h|h
  . exact ZcY la x h
  . exact ZcY lb x h
 have hcc:=Zcl (G:=G) a b na nb (by omega) (by omega)
 have hwx:∀ x∈a++b,Sml x.its/\Sml x.dms:=λx hx=>by
  rcases W0h.1 hx with h|h
  . exact ha.1.2 x h
  . exact hb.1.2 x h
 have hll:(a++b).length<=120:=(by rw[W0s];omega);have hl0:0<(a++b).length:=(by rw[W0s];omega);have hsp:=λS T=>ZfB (G:=G) (S:=S) (T:=T) (a++b) hok hin (by omega)
 have hcp:=λS T=>ZeK (G:=G) (S:=S) (T:=T) (sortN (a++b)) (by rw[Zcs];omega)
 have hck:=Zbo hG (mgL a b) hwf;have hcm:cmpct (sortN (a++b))=mgL a b:=rfl;have hmn:=Zd3 a b;rw[rega,rega,ev,k0]at hcl;refine Z5j mgK (by intro k hk;simp[mgK]at hk;omega) Tryd.func10 rfl (by kernel_rfl) (rc:=Z5m) (by kernel_rfl) (rs:=Z5n) (by kernel_rfl) (W0C rfl) λR _ hG' hrd=>Qga ?_
 subst hG';simp -implicitDefEqProofs[Z5m,Z5n,rega];refine Qco (hcl) ?_;simp -implicitDefEqProofs;unfold ccA at hcc;rw[<- W0s]at hmn;have hab:a.length+b.length=(a++b).length:=(by rw[W0s]);generalize a++b=l at *;refine Qco (hcc) ?_;simp -implicitDefEqProofs;refine Z91 (moS l) (λ_=>True) l.length (by simp only[moS,moT];(first|exact Wka|exact Wkb)) trivial ?_ ?_
 . intro i hi _;have hx:=hwx l[i] (W0e hi);obtain ⟨x,hxx⟩:=Qex (l[i]);rw[<- hxx]at hx;have cp:=Zfa (G:=R.G) x hx.1 hx.2;have hax:isa l[i]=[.int .i64 x.d,.int .i64 x.l,.int .u8 x.k,.vsl (x.its.map ita),.vsl (x.dms.map dma)]:=(by rw[<- hxx];rfl);have eX:isa x=[.int .i64 x.d,.int .i64 x.l,.int .u8 x.k,.vsl (x.its.map ita),.vsl (x.dms.map dma)]:=rfl;rw[eX]at cp;have tk:l.take (i+1)=l.take i++[x]:=(by rw[W08 hi,hxx]);have tl:(l.take i).length=i:=(by simp;omega);have tF:tkF 700 (l.take (i+1))=tkF 700 (l.take i)++(orI (700+2*i) x++orD (700+2*i+1) x):=(by rw[tk,Zfb,tl];simp[tkF]);have tW:tkW 700 (l.take (i+1))=tkW 700 (l.take i)++[[.int .i64 x.d,.int .i64 x.l,.int .u8 x.k,ovI (700+2*i) x,ovD (700+2*i+1) x]]:=by rw[tk,Zfc,tl];simp[tkW]
   cases i with
   | zero =>
     have w1:i64.wrap 1=1:=rfl;have pI:=Zf8 x.its;have pD:=Zf9 x.dms;have rI:=λρ=>AObj.ren_pure (ρ:=ρ) (sz:=2) pI
     have rD:=λρ=>AObj.ren_pure (ρ:=ρ) (sz:=3) pD
     by_cases e1:x.its=[] <;> by_cases e2:x.dms=[]
     all_goals
      simp only[ovI,ovD,orI,orD,e1,e2,if_true,if_false,W18,W1B,W1d,W1c]at cp tF tW rI rD;refine Yb mixed 11 ?_;simp -implicitDefEqProofs[moS,moT,hi,hax];refine GO0 (ZeV mixed ?_)
      iterate 3 (rw[RE_op (by simp[wants]) (by simp[Z1y])];simp -implicitDefEqProofs[execE,hi,hax])
      rw[ZeX (by simp[wants])];simp -implicitDefEqProofs[e1,e2];refine CallE.new (NewS.of cp (λk=>if k=5 then 700 else if k=8 then 701 else k) (by simp) (by simp[St.get,lk]) (by simp[AV.pure]) rfl) ?_;simp -implicitDefEqProofs[Yl,rI,rD,AV.ren]
      iterate 4 (rw[RE_op (by simp[wants]) (by simp[Z1y])];simp -implicitDefEqProofs[execE])
      refine ⟨rfl,?_⟩;refine Qgr ?_;simp -implicitDefEqProofs[w1];simp only[moS,moT,tF,tW,List.take_zero,tkF,tkW,W18,W1d];exact Ym.sub (by simp[lk,Ya,AV.keys]) (by simp[lk,Yc,Ya,AV.keys,ita,dma])
   | succ i =>
     have w1:i64.wrap ((i:Int)+1+1)=(i:Int)+1+1:=Yf;have k1:(i:Int)+1<l.length:=(by omega);have k2:((i:Int)+1).toNat=i+1:=(by omega);have k3:(0:Int)<=(i:Int)+1:=(by omega);have b2:(i+1+1)*72<=70368744177664:=(by omega);have pI:=Zf8 x.its;have pD:=Zf9 x.dms;have rI:=λρ=>AObj.ren_pure (ρ:=ρ) (sz:=2) pI
     have rD:=λρ=>AObj.ren_pure (ρ:=ρ) (sz:=3) pD
     have ln:(tkW 700 (l.take (i+1))).length=i+1:=(by rw[Zfd,tl]);have tT:=Zfi (l:=l.take (i+1)) (by omega);have tT2:=Zfi (l:=l.take (i+1+1)) (by simp;omega);have kp:=λC=>ZfE (T:=tkF 700 (l.take (i+1+1))) (C:=C) (l:=l.take (i+1+1)) rfl
     have n1:lk (tkF 700 (l.take (i+1))) (700+2*(i+1))=none:=ZfF (by omega);have n2:lk (tkF 700 (l.take (i+1))) (700+2*(i+1)+1)=none:=ZfF (by rw[tl];omega);rw[tF]at tT2;rw[tF,tW]at kp;have hu0:moS l (i+1)=⟨moT l (i+1),tkF 700 (l.take (i+1))++[(9,.box [.osl 44 (i+1)]),(4,.box [.nils]),(44,.row 5 (tkW 700 (l.take (i+1))))]⟩:=rfl;have hu1:moS l (i+1+1)=⟨moT l (i+1+1),tkF 700 (l.take (i+1+1))++[(9,.box [.osl 44 (i+1+1)]),(4,.box [.nils]),(44,.row 5 (tkW 700 (l.take (i+1+1))))]⟩:=rfl;rw[tF,tW]at hu1;generalize tkF 700 (l.take (i+1))=T at *;generalize tkW 700 (l.take (i+1))=Y at *;generalize hn0:700+2*(i+1)=n0 at *;have l1:=λC k (hk:k<700)=>tT.lk C hk
     have p1:=λC k y (hk:k<700)=>tT.put C y hk
     have l2:=λC=>Zf1 (l':=C) n1
     have l3:=λC=>Zf1 (l':=C) n2
     have p2:=λC y=>Zf3 (l':=C) (y:=y) n1
     have p3:=λC y=>Zf3 (l':=C) (y:=y) n2
     have e4:¬4=n0:=(by omega);have e9:¬9=n0:=(by omega);have e11:¬11=n0:=(by omega);have e43:¬43=n0:=(by omega);have e44:¬44=n0:=(by omega);have f4:¬n0=4:=(by omega);have f9:¬n0=9:=(by omega);have f11:¬n0=11:=(by omega);have f43:¬n0=43:=(by omega);have f44:¬n0=44:=(by omega);have g4:¬4=n0+1:=(by omega);have g9:¬9=n0+1:=(by omega);have g11:¬11=n0+1:=(by omega);have g43:¬43=n0+1:=(by omega);have g44:¬44=n0+1:=(by omega);have h4:¬n0+1=4:=(by omega);have h9:¬n0+1=9:=(by omega);have h11:¬n0+1=11:=(by omega);have h43:¬n0+1=43:=(by omega);have h44:¬n0+1=44:=(by omega);rw[hu0];by_cases e1:x.its=[] <;> by_cases e2:x.dms=[]
     all_goals
      simp only[ovI,ovD,orI,orD,e1,e2,if_true,if_false,W18,W1B,W1d,W1c]at cp hu1 kp tT2 rI rD;refine Yb mixed 11 ?_;simp -implicitDefEqProofs[moT,hi,hax,k1,k2,k3,l1,p1];refine GO0 (ZeV mixed ?_)
      iterate 3 (rw[RE_op (by simp[wants]) (by simp[Z1y])];simp -implicitDefEqProofs[execE,hi,hax,k1,k2,k3,l1,p1])
      rw[ZeX (by simp[wants])];simp -implicitDefEqProofs[e1,e2,l1,p1];refine CallE.new (NewS.of cp (λk=>if k=5 then n0 else if k=8 then n0+1 else k) (by simp) (by simp[St.get,lk,l2,l3,e4,e9,e11,e43,e44,g4,g9,g11,g43,g44]) (by simp[AV.pure]) rfl) ?_;simp -implicitDefEqProofs[Yl,rI,rD,AV.ren,l1,p1,l2,l3,p2,p3,e4,e9,e11,e43,e44,f4,f9,f11,f43,f44,g4,g9,g11,g43,g44,h4,h9,h11,h43,h44]
      iterate 4 (rw[RE_op (by simp[wants]) (by simp[Z1y])];simp -implicitDefEqProofs[execE,b2,ln,l1,p1,l2,l3,p2,p3,e4,e9,e11,e43,e44,f4,f9,f11,f43,f44,g4,g9,g11,g43,g44,h4,h9,h11,h43,h44])
      refine ⟨by first|rfl|exact ZfC [n0+1] (by simp;omega)|exact ZfC [n0] (by simp;omega)|exact ZfC [n0,n0+1] (by simp;omega),?_⟩;refine Qgr ?_;simp -implicitDefEqProofs[w1,l1,p1];rw[hu1];refine Ym.fam tT2 (λp hp=>?_) ?_ ?_ (λp hp=>?_)
      . first
        |exact tT.mem _ hp
        | (rcases W0h.1 hp with hp|hp
           . exact tT.mem _ hp
           . simp only[W0g,W0Q,or_false]at hp
             first
             |(subst hp;simp[lk,l1,l2,l3,e4,e9,e11,e43,e44,g4,g9,g11,g43,g44])
             |(rcases hp with rfl|rfl <;> simp[lk,l1,l2,l3,e4,e9,e11,e43,e44,g4,g9,g11,g43,g44]))
      . simp only[moT,W0g,W0Q,or_false,W1H,forall_eq];simp[lk,Ya,AV.keys,l1,f4,f9,f44,h4,h9,h44]
      . simp only[W0g,W0Q,or_false,W1H,forall_eq];refine ⟨⟨by simp[lk,l1],by simp[Yc,Ya,AV.keys,l1,lk,f4,f9,f44,h4,h9,h44]⟩,⟨by simp[lk,l1],by simp[Yc,Ya,AV.keys]⟩,⟨by simp[lk,l1],kp _⟩⟩
      . rcases W0h.1 hp with hp|hp
        . exact (tT.big p hp).2
        . simp only[W0g,W0Q,or_false]at hp;rcases hp with rfl|rfl|rfl|hp <;> first|(simp only;omega)|(rcases hp with rfl|hp <;> first|(simp only;omega)|(rcases hp with rfl|hp <;> first|(simp only;omega)|(rcases hp with rfl|rfl <;> (simp only;omega))|(subst hp;simp only;omega))|(subst hp;simp only;omega))|(subst hp;simp only;omega)
 . intro _;have tT:=Zfi (l:=l) (by omega);have e1:l.take l.length=l:=W0v;obtain ⟨n,hn⟩ : ∃ n,l.length=n+1:=⟨l.length-1,by omega⟩
   have hm0:moS l l.length=⟨moT l l.length,tkF 700 l++[(9,.box [.osl 44 l.length]),(4,.box [.nils]),(44,.row 5 (tkW 700 l))]⟩:=by
    rw[hn]at e1 ⊢;simp only[moS,e1]
   have hsp2:∀ S T:Iss->Value->Prop,PB prog R.G 38 [(1000,.row 5 (l.map (isT S T)))] [.osl 1000 l.length,fM1] (.tup []) [(1000,.row 5 ((sortN l).map (isT S T)++[]))]:=λS T=>by rw[W1B];exact hsp S T
   have hco:∀ S T,cmpOT S T (sortN l)=(mgL a b).map (isT S T)++List.replicate (l.length-(mgL a b).length) zrI:=λS T=>by rw[cmpOT,hcm,Zcs]
   have hcv:cmpV 1000 (sortN l)=mgV 1000 l.length (mgL a b):=(by rw[cmpV,mgV,hcm,Zcs]);have hfm:∀ p∈tkF 700 l,700<=p.1/\∀ C,lk (tkF 700 l++C) p.1=some p.2:=λp hp=>⟨(tT.big p hp).1,λC=>tT.mem C hp⟩
   have fR:=ZfI l (mgL a b)
   have smg:∀ st:St,st.get 44=some (.row 5 (mgR l (mgL a b)))->(∀ p∈tkF 700 l,st.get p.1=some p.2)->Z1B prog R.G st 17 [.agg [mgV 44 l.length (mgL a b)]] (.int .i64 (openV (mgL a b))) st:=λst h1 h2 =>
    Z1B.mg (pre:=[]) (post:=[]) (pre':=[]) (post':=[]) hck (by simp[AV.flat]) h1 hmn (λp hp=>⟨by have:=(hfm p hp).1;omega,h2 p hp⟩) ⟨rfl,rfl⟩ ⟨rfl,rfl⟩
   simp only[hco,hcv,Zcs]at hcp
   have hz:(List.replicate (l.length-(mgL a b).length) zrI).map (λr=>r.map (AV.ren λ_=>44))=List.replicate (l.length-(mgL a b).length) zrI:=by
    rw[List.map_replicate];congr 1;simp[zrI,AV.ren]
   rw[ko]at smg;generalize mgL a b=m at *;generalize hTe:tkF 700 l=T at *;have l1:=λC k (hk:k<700)=>tT.lk C hk
   have p1:=λC k y (hk:k<700)=>tT.put C y hk
   have hu:∀ j,j≠44->lk (T++[(9,.box [.osl 44 l.length]),(4,.box [.nils]),(44,.row 5 (l.map (isN (noI l) (noD' l))))]) j=lk (T++[(9,.box [.osl 44 l.length]),(4,.box [.nils]),(44,.row 5 (tkW 700 l))]) j:=λj hj=>by
    cases e:lk T j with
    |some o=>rw[Zf2 e,Zf2 e]
    |none=>rw[Zf1 e,Zf1 e];simp only[lk,if_neg (λe=>hj e.symm:¬44=j)]
   rw[hm0];refine Z2Q (Zfp (K:=44) (l:=l) (st':=⟨moT l l.length,T++[(9,.box [.osl 44 l.length]),(4,.box [.nils]),(44,.row 5 (l.map (isN (noI l) (noD' l))))]⟩) (by simp[St.get,l1,lk]) rfl (by simp[St.get,l1,lk]) (by exact hu)) ?_;refine Qga ?_;have k1:¬(l.length:Int)<l.length:=(by omega);simp -implicitDefEqProofs[moT,l1,p1];refine Qgr ?_;simp -implicitDefEqProofs[l1,p1];refine Yd.sem (Z1B.byT (z:=[]) hsp2 44 (noI l) (noD' l) (Zfm l) (Zfn l) (by simp[St.get,l1,lk]) (by simp[AV.keys,fM1]) rfl (by simp) (by simp[AV.ren,fM1]) rfl rfl) ?_;simp -implicitDefEqProofs[l1,p1];have fin:=λt C=>tT.fin (ok:=mgK) (λk hk=>by simp[mgK];omega) t C
   rw[hab];by_cases hm:m.length=l.length
   case' pos=>have hV:mgV 44 l.length m = .osl 44 l.length:=if_pos hm
   case' neg=>have hV:mgV 44 l.length m = .oss 44 l.length 0 m.length:=if_neg hm
   all_goals
    rw[hV]at smg;refine Yd.sem (st1:=St.set _ 44 (.row 5 (mgR l m))) (Z1B.byT (l:=sortN l) (l2:=m) (z:=List.replicate (l.length-m.length) zrI) hcp 44 (noI l) (noD' l) (Zfm l) (Zfn l) (by simp[St.get,l1,lk]) (by simp[AV.keys,fM2]) hz (by simp[zrI]) (by simp[AV.ren,fM2]) ((hV.symm.trans (ZfJ l.length m 44).symm)) rfl) ?_;rw[hV];simp -implicitDefEqProofs[l1,p1];refine Yd.sem (smg _ (by simp[St.get,l1,lk]) (λp hp=>by simp only[St.get];exact (hfm p hp).2 _)) ?_;simp -implicitDefEqProofs[l1,p1];simp -implicitDefEqProofs[FinO,l1,fin,fR,frzA,frz,AV.keys,mgK]
def und:AObj->AObj
 |.row sz rows=>.row sz (rows.map λr=>r.set 1 .undef)
 |o=>o
def ZfL (o:AObj):(und o).dim=o.dim:=by cases o <;> simp[und,AObj.dim]
def ZfM (o:AObj):und (und o)=und o:=by
 cases o with
 |row sz rows=>simp[und,W0y]
 |_=>rfl
def ZfN {E:Env} {W:World} {b s:Nat}:∀ o:AObj,ObjR E W b s o->ObjR E W b s (und o)
 | .row sz rows,h=>by
   obtain ⟨g0,cs,t,g5,g6,g7⟩:=h;refine ⟨λr hr=>?_,cs,t,g5,by simpa using g6,λi j r x hi hj=>?_⟩
   . obtain ⟨q,hq,rfl⟩:=W0i.1 hr;simpa using g0 q hq
   . rw [W09,W04]at hi;obtain ⟨q,hq,rfl⟩:=hi;by_cases e:j=1
     . subst e
       have hl:1<q.length:=by
        have:=(W02.1 hj).1;simpa using this
       rw[List.getElem?_set_self hl]at hj
       cases hj
       obtain ⟨v,h1,-⟩:=g7 i 1 q q[1] hq (W07 hl);exact ⟨v,h1,.undef v⟩
     . rw[List.getElem?_set_ne (λh=>e h.symm)]at hj;exact g7 i j q x hq hj
 |.box _,h=>h
 |.mp _,h=>h
def Ym.all {st st':St} (ht:st'.t=st.t) (h:∀ k,(st.get k=none/\st'.get k=none)∨∃ o o',st.get k=some o/\st'.get k=some o'/\o'.dim=o.dim/\∀ E W b s,ObjR E W b s o->ObjR E W b s o'):Ym st st':=by
 rintro R a W ⟨κ,hs⟩
 have hE:st'.env R.M κ=st.env R.M κ:=by
  unfold St.env
  congr 1
  funext k
  rcases h k with ⟨h1,h2⟩ | ⟨o,o',h1,h2,h3,-⟩
  . rw[h1,h2]
  . rw[h1,h2];exact h3
 refine ⟨κ,hs.defers,hs.size,λn x hx=>?_,λk o1 hk=>?_,λk p hk=>?_,hs.inj,hs.low,hs.apart,hs.kp,by rw[hE];exact hs.gr,by rw[hE];exact hs.mono,hs.ent⟩
 . rw[hE];exact hs.tm n x (by simpa only [St.tmp,ht] using hx)
 . rcases h k with ⟨-,h2⟩ | ⟨o,o',h1,h2,-,h4⟩
   . rw[h2]at hk;cases hk
   . rw[h2]at hk;simp only[W00]at hk;subst hk;obtain ⟨b,s,g1,g2,g3,g4⟩:=hs.obj k _ h1;rw[hE];exact ⟨b,s,g1,g2,g3,h4 _ W b s g4⟩
 . obtain ⟨o1,h1⟩:=hs.dom k p hk;rcases h k with ⟨h2,-⟩ | ⟨o,o',-,h2,-,-⟩
   . rw[h2]at h1;cases h1
   . exact ⟨o',h2⟩
def unF (T:List (Nat×AObj)):List (Nat×AObj):=T.map λp=>(p.1,und p.2)
def ZfO (T:List (Nat×AObj)) (k:Nat):lk (unF T) k=(lk T k).map und:=Z4K
def Ym.unF {T C:List (Nat×AObj)} {t:List (Nat×AV)}:Ym ⟨t,T++C⟩ ⟨t,unF T++C⟩:=by
 refine Ym.all rfl λk=>?_
 have e:=ZfO T k
 cases e1:lk T k with
 | some o =>
   rw[e1]at e;exact .inr ⟨o,und o,Zf2 e1,Zf2 e,ZfL o,λE W b s=>ZfN o⟩
 | none =>
   rw[e1]at e;show (lk (T++C) k=none/\lk (_++C) k=none)∨_
   cases e2:lk C k with
   |none=>exact .inl ⟨(Zf1 e1).trans e2,(Zf1 e).trans e2⟩
   |some o=>exact .inr ⟨o,o,(Zf1 e1).trans e2,(Zf1 e).trans e2,rfl,λE W b s h=>h⟩
def Ym.unS {T C:List (Nat×AObj)} {t:List (Nat×AV)} {k:Nat} {o o1:AObj} (h:lk (Go.Proofs.YthlcppdbldkldaaDoor.unF T) k=some o) (h1:und o1=o):Ym ⟨t,putO (Go.Proofs.YthlcppdbldkldaaDoor.unF T++C) k o1⟩ ⟨t,Go.Proofs.YthlcppdbldkldaaDoor.unF T++C⟩:=by
 refine Ym.all rfl λj=>?_
 show (lk (putO (Go.Proofs.YthlcppdbldkldaaDoor.unF T++C) k o1) j=none/\lk (Go.Proofs.YthlcppdbldkldaaDoor.unF T++C) j=none)∨∃ p q,lk (putO (Go.Proofs.YthlcppdbldkldaaDoor.unF T++C) k o1) j=some p/\lk (Go.Proofs.YthlcppdbldkldaaDoor.unF T++C) j=some q/\_;rw[Z3];by_cases e:k=j
 . subst e;rw[if_pos rfl];exact .inr ⟨o1,o,rfl,Zf2 h,by rw[<- h1,ZfL],λE W b s hb=>by rw[<- h1];exact ZfN o1 hb⟩
 . rw[if_neg e]
   cases e2:lk (Go.Proofs.YthlcppdbldkldaaDoor.unF T++C) j with
   |none=>exact .inl ⟨rfl,rfl⟩
   |some q=>exact .inr ⟨q,q,rfl,rfl,rfl,λE W b s hb=>hb⟩
def ZfP {T:List (Nat×AObj)} (hT:Tl T) (o:List (Nat×AObj)) {p:Nat×AObj} (hp:p∈unF T):Yc o p.2=true:=by
 obtain ⟨q,hq,rfl⟩:=W0i.1 hp;obtain ⟨sz,rows,e,hr⟩:=hT.pure q hq;simp only[e,und,Yc,W03];intro r hr2 x hx;obtain ⟨r0,h1,rfl⟩:=W0i.1 hr2;rcases List.mem_or_eq_of_mem_set hx with h|rfl
 . have:=W03.1 (W03.1 hr r0 h1) x h;simp[Ya,AV.pure_keys x this]
 . simp[Ya,AV.keys]
def ZfQ {T:List (Nat×AObj)} (hT:Tl T):((unF T).map (·.1)).Nodup:=by
 have:(unF T).map (·.1)=T.map (·.1):=(by simp[Go.Proofs.YthlcppdbldkldaaDoor.unF,W0y]);rw[this];exact hT.nd
def ZfR {T:List (Nat×AObj)} (hT:Tl T) {p:Nat×AObj} (hp:p∈unF T):700<=p.1/\p.1<1000:=by
 obtain ⟨q,hq,rfl⟩:=W0i.1 hp;exact hT.big q hq
def Ym.un1 {T C C':List (Nat×AObj)} {t t':List (Nat×AV)} (hT:Tl T) (ht:∀ p∈t',lk t p.1=some p.2/\Ya (Go.Proofs.YthlcppdbldkldaaDoor.unF T++C') p.2=true)
  (hC:∀ p∈C',lk (Go.Proofs.YthlcppdbldkldaaDoor.unF T++C) p.1=some p.2/\Yc (Go.Proofs.YthlcppdbldkldaaDoor.unF T++C') p.2=true) (hbig:∀ p∈C,p.1<1000:=by simp):Ym ⟨t,Go.Proofs.YthlcppdbldkldaaDoor.unF T++C⟩ ⟨t',Go.Proofs.YthlcppdbldkldaaDoor.unF T++C'⟩ :=
 Ym.sub ht (λp hp=>(W0h.1 hp).elim (λh=>⟨Zf2 (lk_nd (ZfQ hT) p h),ZfP hT _ h⟩) (hC p)) λp hp h=>absurd ((W0h.1 hp).elim (λh=>(ZfR hT h).2) (hbig p)) (by omega)
def ZfS (l m:Jr):∀ p∈[(44,AObj.row 5 (mgR l m))],p.2.ren id=p.2:=λp hp=>by
 rw[W0B]at hp;subst hp;simp only[AObj.ren,mgR,W0r,W10,List.map_replicate]
 congr 2
 . refine W0K λx _=>?_
   simp only[Function.comp,isN,W0F,W1c,noI,noD']
   split <;> split <;> simp[AV.ren]
 . simp[zrI,AV.ren]
def ZfT (l m:Jr) (C:List (Nat×AObj)):Yc (tkF 700 l++C) (.row 5 (mgR l m))=true:=by
 have hk:∀ p∈tkF 700 l,(lk (tkF 700 l++C) p.1).isSome=true:=λp hp=>by rw[Zf2 (lk_nd (Zfh l 700) p hp)];rfl
 simp only[Yc,mgR,List.all_append,W01];refine ⟨W03.2 λr hr=>?_,by simp[zrI,Ya,AV.keys]⟩;obtain ⟨x,-,rfl⟩:=W0i.1 hr
 have hI:Ya (tkF 700 l++C) (noI l x)=true:=by
  unfold noI;split
  . simp[Ya,AV.keys]
  . rename_i e;simp only[Ya,AV.keys,List.all_map,W03];intro p hp;obtain ⟨i,hi,h1,rfl⟩:=Zfj.1 hp;exact hk _ ((Zfg l 700 i hi).1 (by rw[h1];exact e))
 have hD:Ya (tkF 700 l++C) (noD' l x)=true:=by
  unfold noD';split
  . simp[Ya,AV.keys]
  . rename_i e;simp only[Ya,AV.keys,List.all_map,W03];intro p hp;obtain ⟨i,hi,h1,rfl⟩:=Zfk.1 hp;exact hk _ ((Zfg l 700 i hi).2 (by rw[h1];exact e))
 simp only[isN,List.all_cons,List.all_nil,W21,W01];exact ⟨by simp[Ya,AV.keys],by simp[Ya,AV.keys],by simp[Ya,AV.keys],hI,hD⟩
def ZfU {l:Jr} {x:Iss} {y:AV} (hP:Pick (noI l x) y):y = .vsl []∨∃ k rows,y = .osl k rows.length/\rows.length=x.its.length/\lk (unF (tkF 700 l)) k=some (.row 2 rows)/\∀ i (h:i<rows.length),∃ d,rows[i]=[.int .i64 d,.undef]:=by
 unfold noI at hP
 split at hP
 . exact .inl hP
 . rename_i e;obtain ⟨p,hp,rfl⟩:=hP;obtain ⟨i,hi,h1,rfl⟩:=Zfj.1 hp;refine .inr ⟨700+2*i,(l[i].its.map ita).map λr=>r.set 1 .undef,by simp[h1],by simp[h1],?_,λj h=>⟨(l[i].its[j]'(by simpa using h)).1,by simp[ita]⟩⟩;rw[ZfO,lk_nd (Zfh l 700) _ ((Zfg l 700 i hi).1 (by rw[h1];exact e))];rfl
def ZfV {l:Jr} {x:Iss} {y:AV} (hP:Pick (noD' l x) y):y = .vsl []∨∃ k rows,y = .osl k rows.length/\rows.length=x.dms.length/\lk (unF (tkF 700 l)) k=some (.row 3 rows)/\∀ i (h:i<rows.length),∃ d u,rows[i]=[.int .i64 d,.undef,.int .i64 u]:=by
 unfold noD' at hP
 split at hP
 . exact .inl hP
 . rename_i e;obtain ⟨p,hp,rfl⟩:=hP;obtain ⟨i,hi,h1,rfl⟩:=Zfk.1 hp;refine .inr ⟨700+2*i+1,(l[i].dms.map dma).map λr=>r.set 1 .undef,by simp[h1],by simp[h1],?_,λj h=>⟨(l[i].dms[j]'(by simpa using h)).n,(l[i].dms[j]'(by simpa using h)).u,by simp[dma]⟩⟩;rw[ZfO,lk_nd (Zfh l 700) _ ((Zfg l 700 i hi).2 (by rw[h1];exact e))];rfl
def ZfW {sz:Nat} {rows:List (List AV)} {i:Nat} {r:List AV} {k:Nat} {T:List (Nat×AObj)} (hl:lk (unF T) k=some (.row sz rows)) (h:i<rows.length) (e:r.set 1 .undef=rows[i]):und (.row sz (rows.set i r)) = .row sz rows:=by
 have h0:und (.row sz rows) = .row sz rows:=by
  rw[ZfO]at hl
  cases e2:lk T k with
  |none=>rw[e2]at hl;cases hl
  | some o =>
    rw[e2]at hl;simp only[W0m,W00]at hl;rw[<- hl,ZfM]
 simp only[und,AObj.row.injEq,true_and]at h0 ⊢;rw[W2a,h0,e,List.set_getElem_self]
def ZfX {T:List (Nat×AObj)} {l m:Jr} {F H:Nat->AV} {z:List (List AV)} (hT:T=tkF 700 l) (hz:z.all (λr=>r.all λx=>x.keys.isEmpty)=true) (hP:∀ i (hi:i<m.length),Pick (noI l m[i]) (F i)/\Pick (noD' l m[i]) (H i)) (C:List (Nat×AObj)):Yc (unF T++C) (.row 5 (isX m F H++z))=true:=by
 subst hT;simp only[Yc,List.all_append,W01]
 constructor
 . refine W03.2 λr hr=>?_
   obtain ⟨i,hi,rfl⟩:=W0i.1 hr;have hi:i<m.length:=by simpa using hi
   have hI:Ya (unF (tkF 700 l)++C) (F i)=true:=by
    rcases ZfU (hP i hi).1 with e | ⟨k,rows,e,-,h,-⟩ <;> rw[e]
    . simp[Ya,AV.keys]
    . simp[Ya,AV.keys,Zf2 h]
   have hD:Ya (unF (tkF 700 l)++C) (H i)=true:=by
    rcases ZfV (hP i hi).2 with e | ⟨k,rows,e,-,h,-⟩ <;> rw[e]
    . simp[Ya,AV.keys]
    . simp[Ya,AV.keys,Zf2 h]
   simp only[isN,List.all_cons,List.all_nil,W21,W01];exact ⟨by simp[Ya,AV.keys],by simp[Ya,AV.keys],by simp[Ya,AV.keys],hI,hD⟩
 . refine W03.2 λr hr=>W03.2 λx hx=>?_
   have:=W03.1 (W03.1 hz r hr) x hx;simp only[Ya,List.isEmpty_iff.1 this,List.all_nil]
def lpT (m:Jr) (k:Nat):List (Nat×AV):=[(74,.int .i64 k),(73,.int .i64 m.length),(11,.ptr 11 0),(15,.bool true),(5,.ptr 5 0),(6,.ptr 6 0),(2,.ptr 2 0),(3,.ptr 3 0)]
def lpC (a b:Jr) (V:AV) (RR:List (List AV)):List (Nat×AObj):=[(2,.box [.vsl (a.map isa)]),(3,.box [.vsl (b.map isa)]),(5,.box [.vsl (a.map isa)]),(6,.box [.vsl (b.map isa)]),(11,.box [V]),(44,.row 5 RR)]
set_option maxRecDepth 100000 in
def ZfY (hG:GC G) (a b:Jr) (ka:∀ x∈a,KOk x) (kb:∀ x∈b,KOk x):PC prog G 3 [rega a,rega b] (.bool true):=by
 have ga:=Zcd (G:=G) a;have gb:=Zcd (G:=G) b;rw[rega]at ga gb
 cases g1:Z9f a
 case true =>
  (refine Z5F rfl λR hG hrd=>Qga ?_;subst hG)
  simp -implicitDefEqProofs[Z5D,Z5E,rega];refine Qco (ga) ?_;simp -implicitDefEqProofs[g1]
 cases g2:Z9f b
 case true =>
  (refine Z5F rfl λR hG hrd=>Qga ?_;subst hG)
  simp -implicitDefEqProofs[Z5D,Z5E,rega];refine Qco (ga) ?_;simp -implicitDefEqProofs[g1];refine Qco (gb) ?_;simp -implicitDefEqProofs[g2]
 have wa:=Zce g1 ka;have wb:=Zce g2 kb;have ta:=ZbO (G:=G) a wa.1;have tb:=ZbO (G:=G) b wb.1;have hc1:=Zeg hG a b wa wb;have hc2:=Zel (G:=G) a b wa wb;have hm2:=ZeB (G:=G) a b wa wb
 have cls:Sml (clE a b):=by
  have:=ZcV a b a.length;have:=wa.1.1;unfold Sml at *;unfold clE
  split
  . omega
  . simp
 have hsr:=ZbQ (G:=G) (clE a b) (clE a b) cls;have hsa:=Z9d (G:=G) a a wa.1;have hsb:=Z9d (G:=G) b b wb.1;rw[W0M rfl]at hsr hsa hsb;rw[g1]at ga;rw[g2]at gb;by_cases hok:bothE a b=0/\clN a b a.length=[]/\openV (mgL a b)=0
 case neg =>
  have hm1:=Ze3 hG a b wa wb
  obtain ⟨g,hX⟩ : ∃ g,mgE a b=([],g):=by
   unfold mgE;by_cases c0:bothE a b=0
   . by_cases c1:clN a b a.length=[]
     . have c2:¬openV (mgL a b)=0:=λe=>hok ⟨c0,c1,e⟩
       simp[c0,c1,c2]
     . simp[c0,c1]
   . simp[c0]
  have hs0:=Z9d (G:=G) [] [] (by unfold SmlR Sml;simp);rw[W0M rfl]at hs0;rw[hX]at hm1 hm2;simp only[rega,W1c]at *
  (refine Z5F rfl λR hG hrd=>Qga ?_;subst hG)
  simp -implicitDefEqProofs[Z5D,Z5E];refine Qco (ga) ?_;simp -implicitDefEqProofs;refine Qco (gb) ?_;simp -implicitDefEqProofs;refine Qco (ta) ?_;simp -implicitDefEqProofs;refine Qco (tb) ?_;simp -implicitDefEqProofs;refine ⟨rfl,?_⟩;refine Qco (hc1) ?_;simp -implicitDefEqProofs;refine Qco (hc2) ?_;simp -implicitDefEqProofs;refine Qco (hm1) ?_;simp -implicitDefEqProofs;refine Qco (hm2) ?_;simp -implicitDefEqProofs;refine Qco (hsr) ?_;simp -implicitDefEqProofs;refine Qco (hs0) ?_;simp -implicitDefEqProofs;refine Z91 (λ_=>⟨[(74,.int .i64 0),(73,.int .i64 0),(11,.ptr 11 0),(15,.bool true),(5,.ptr 5 0),(6,.ptr 6 0),(2,.ptr 2 0),(3,.ptr 3 0)],[(2,.box [.vsl (a.map isa)]),(3,.box [.vsl (b.map isa)]),(5,.box [.vsl (a.map isa)]),(6,.box [.vsl (b.map isa)]),(11,.box [.vsl []])]⟩) (λ_=>True) 0 ?_ trivial (λi hi=>by omega) λ_=>?_
  . (refine Wkc ?_;simp only[Wkl,and_true];(try simp[lk,Yc,Ya,AV.keys]))
  refine Qga ?_;simp -implicitDefEqProofs;refine Qgr ?_;simp -implicitDefEqProofs;refine Qco (hsa) ?_;simp -implicitDefEqProofs;refine Qco (hsb) ?_;simp -implicitDefEqProofs
 obtain ⟨k0,k1,ko⟩:=hok;have hm1:=ZfK hG a b wa wb k0 k1 ko;have hX:mgE a b=(mgL a b,0):=(by simp[mgE,k0,k1,ko]);rw[hX]at hm2
 have oa:openV a=0:=by
  unfold bothE at k0;split at k0
  . assumption
  . exact k0
 have ob:openV b=0:=(by simpa [bothE,oa] using k0);have sa:=Zbi (Zbh oa);have sb:=Zbi (Zbh ob);have wm:=Zd4 wa wb (by omega) (by omega);have hsm:=Z9d (G:=G) (mgL a b) (mgL a b) wm.1;rw[W0M rfl]at hsm;have hmn:=Zd3 a b;have hll:(a++b).length<=120:=(by rw[W0s];omega);rw[<- W0s]at hmn;have tT:=Zfi (l:=a++b) (by omega)
 have hrid:(AV.tup [.agg [mgV 44 (a++b).length (mgL a b)],.int .i64 0]).ren id = .tup [.agg [mgV 44 (a++b).length (mgL a b)],.int .i64 0]:=by
  unfold mgV;split <;> simp[AV.ren]
 have hoid:∀ p∈[(44,AObj.row 5 (mgR (a++b) (mgL a b)))],p.2.ren id=p.2:=ZfS _ _
 have hsg:∀ st:St,st.get 44=some (.row 5 (mgR (a++b) (mgL a b)))->(∀ p∈tkF 700 (a++b),st.get p.1=some p.2)->Z1B prog G st 13 [.agg [mgV 44 (a++b).length (mgL a b)],.agg [.vsl ((mgL a b).map isa)]] (.bool true) st:=λst h1 h2 =>
  Z1B.mg (pre:=[]) (post:=[.agg [.vsl ((mgL a b).map isa)]]) (pre':=[]) (post':=[.agg [.vsl ((mgL a b).map isa)]]) hsm (by simp[AV.flat]) h1 hmn (λp hp=>⟨by have:=(tT.big p hp).1;omega,h2 p hp⟩) ⟨rfl,rfl⟩ ⟨rfl,by simp[AV.pure]⟩
 have hfm:∀ p∈tkF 700 (a++b),∀ C,lk (tkF 700 (a++b)++C) p.1=some p.2:=λp hp C=>tT.mem C hp
 have hlk:=λi hi=>Zfg (a++b) 700 i hi
 simp only[rega]at *;generalize hl:a++b=l at *;generalize mgL a b=m at *;generalize hTe:tkF 700 l=T at *;have l1:=λC k (hk:k<700)=>tT.lk C hk
 have p1:=λC k y (hk:k<700)=>tT.put C y hk
 (refine Z5F rfl λR hG hrd=>Qga ?_;subst hG)
 simp -implicitDefEqProofs[Z5D,Z5E];refine Qco (ga) ?_;simp -implicitDefEqProofs;refine Qco (gb) ?_;simp -implicitDefEqProofs;refine Qco (ta) ?_;simp -implicitDefEqProofs;refine Qco (tb) ?_;simp -implicitDefEqProofs;refine ⟨rfl,?_⟩;refine Qco (hc1) ?_;simp -implicitDefEqProofs;refine Qco (hc2) ?_;simp -implicitDefEqProofs;refine Yd.sem (Z1B.fam hm1 tT hrid hoid (by simp[lk]) (by simp) (by simp) (by simp[AV.pure])) ?_;have hRl:(mgR l m).length=l.length:=(by rw[mgR,W0s,W0N,W1C];omega);by_cases hm:m.length=l.length
 case' pos=>have hV:mgV 44 l.length m = .osl 44 l.length:=if_pos hm
 case' neg=>have hV:mgV 44 l.length m = .oss 44 l.length 0 m.length:=if_neg hm
 all_goals
  rw[hV]at hsg ⊢;simp -implicitDefEqProofs[l1,p1];refine Qco (hm2) ?_;simp -implicitDefEqProofs[l1,p1];refine Qco (hsr) ?_;simp -implicitDefEqProofs[l1,p1];refine Yd.sem (hsg _ (by simp[St.get,l1,lk]) (λp hp=>by simp only[St.get];exact hfm p hp _)) ?_;simp -implicitDefEqProofs[l1,p1,hRl,hmn];refine Z2Q (st':=⟨lpT m 0,T++lpC a b (mgV 44 l.length m) (mgR l m)⟩) (Ym.fam1 tT (by simp[lpT,lk,Ya,AV.keys,lpC,l1,hm]) ?_) ?_
  . simp only[lpC,W0g,W0Q,or_false,W1H,forall_eq,hV];refine ⟨by simp[lk,l1,Yc,Ya,AV.keys],by simp[lk,l1,Yc,Ya,AV.keys],by simp[lk,l1,Yc,Ya,AV.keys],by simp[lk,l1,Yc,Ya,AV.keys],by simp[lk,l1,Yc,Ya,AV.keys],by simp[lk,l1],?_⟩;rw[<- hTe];exact ZfT l m _
  refine ZeY (Q:=λst'=>∃ F H:Nat->AV,(∀ i (hi:i<m.length),Pick (noI l m[i]) (F i)/\Pick (noD' l m[i]) (H i))/\st'=⟨lpT m 0,T++lpC a b (mgV 44 l.length m) (isX m F H++List.replicate (l.length-m.length) zrI)⟩) (λa1 W hs=>?_) λst' hq=>?_
  . obtain ⟨κ,hs⟩:=hs;obtain ⟨F,H,h1,h2⟩:=hs.choose (K:=44) (l:=m) (F:=noI l) (H:=noD' l) (z:=List.replicate (l.length-m.length) zrI) (by simp only[St.get,lpC];rw[l1 _ _ (by omega)];simp[lk,mgR]);refine ⟨_,⟨F,H,h1,rfl⟩,κ,(h2 ⟨lpT m 0,T++lpC a b (mgV 44 l.length m) (isX m F H++List.replicate (l.length-m.length) zrI)⟩ rfl (by simp only[St.get,lpC];rw[l1 _ _ (by omega)];simp[lk]) λj hj=>?_).2⟩;show lk (T++_) j=lk (T++_) j
    cases e:lk T j with
    |some o=>rw[Zf2 e,Zf2 e]
    |none=>rw[Zf1 e,Zf1 e];simp only[lpC,lk,if_neg (λe=>hj e.symm:¬44=j)]
  obtain ⟨F,H,hP,rfl⟩:=hq;refine Z2Q Ym.unF ?_;have hRlen:(isX m F H++List.replicate (l.length-m.length) zrI).length=l.length:=(by rw[W0s,ZeZ,W1C];omega);have hRat:∀ i (hi:i<m.length),(isX m F H++List.replicate (l.length-m.length) zrI)[i]? = some [.int .i64 m[i].d,.int .i64 m[i].l,.int .u8 m[i].k,F i,H i]:=λi hi=>by rw[W0E (by rw[ZeZ];exact hi),Zf0 hi]
  have hRk:=ZfX (T:=T) (l:=l) (m:=m) (F:=F) (H:=H) (z:=List.replicate (l.length-m.length) zrI) hTe.symm (by simp[zrI,AV.keys]) hP;generalize isX m F H++List.replicate (l.length-m.length) zrI=RR at *;have ulo:∀ k,k<700->lk (unF T) k=none:=λk hk=>by rw[ZfO,tT.low hk];rfl
  have u1:=λC k (hk:k<700)=>Zf1 (l':=C) (ulo k hk)
  have pu1:=λC k y (hk:k<700)=>Zf3 (l':=C) (y:=y) (ulo k hk)
  refine Z91 (λk=>⟨lpT m k,unF T++lpC a b (mgV 44 l.length m) RR⟩) (λ_=>True) m.length (λ_ _ _ h=>h) trivial (λi hi _=>?_) λ_=>?_
  . have hil:i<l.length:=(by omega);have wi:i64.wrap ((i:Int)+1)=(i:Int)+1:=Yf;have pI:=ZfU (hP i hi).1;have pD:=ZfV (hP i hi).2;rw[hTe]at pI pD;have hRi:=hRat i hi;generalize F i=yI at *;generalize H i=yD at *
    replace pI:∃ (nI kI:Nat) (rI:List (List AV)),(nI=rI.length/\nI<=16777216)/\(yI = .vsl []/\rI=[]∨yI = .osl kI nI/\lk (unF T) kI=some (.row 2 rI)/\∀ i (h:i<rI.length),∃ d,rI[i]=[.int .i64 d,.undef]):=by
     rcases pI with rfl | ⟨kI,rI,rfl,bI,lI,cI⟩
     . exact ⟨0,0,[],⟨rfl,by omega⟩,.inl ⟨rfl,rfl⟩⟩
     . exact ⟨_,kI,rI,⟨rfl,by have:=(wm.1.2 _ (W0e hi)).1;unfold Sml at this;omega⟩,.inr ⟨rfl,lI,cI⟩⟩
    replace pD:∃ (nD kD:Nat) (rD:List (List AV)),(nD=rD.length/\nD<=16777216)/\(yD = .vsl []/\rD=[]∨yD = .osl kD nD/\lk (unF T) kD=some (.row 3 rD)/\∀ i (h:i<rD.length),∃ d u,rD[i]=[.int .i64 d,.undef,.int .i64 u]):=by
     rcases pD with rfl | ⟨kD,rD,rfl,bD,lD,cD⟩
     . exact ⟨0,0,[],⟨rfl,by omega⟩,.inl ⟨rfl,rfl⟩⟩
     . exact ⟨_,kD,rD,⟨rfl,by have:=(wm.1.2 _ (W0e hi)).2;unfold Sml at this;omega⟩,.inr ⟨rfl,lD,cD⟩⟩
    obtain ⟨nI,kI,rI,⟨nI0,nIb⟩,pI⟩:=pI;obtain ⟨nD,kD,rD,⟨nD0,nDb⟩,pD⟩:=pD;rcases pI with ⟨rfl,eI⟩ | ⟨rfl,lI,cI⟩ <;> rcases pD with ⟨rfl,eD⟩ | ⟨rfl,lD,cD⟩
    all_goals
     obtain ⟨hq,hR2⟩:=W02.1 hRi;refine Qga ?_;simp -implicitDefEqProofs[lpT,lpC,hV,u1,pu1,hi,hil,hq,hR2,hRlen]
     first
     | (have lI':=λC=>Zf2 (l':=C) lI
        simp -implicitDefEqProofs[lI',nI0,u1,pu1])
     |skip
     refine Z91 (λk=>⟨(84,.int .i64 k)::(83,.int .i64 rI.length)::(16,.int .i64 i)::lpT m i,unF T++lpC a b (mgV 44 l.length m) RR⟩) (λ_=>True) rI.length ?_ trivial (λk hk _=>?_) λ_=>?_
     . simp only[hV];refine Ym.un1 tT ?_ ?_
       . first|(rw[eI];simp[lpT,lk,Ya,AV.keys,lpC,u1];done)|(simp[lpT,lk,Ya,AV.keys,lpC,u1,nI0];done)
       . simp only[lpC];simp only[W0g,W0Q,or_false,W1H,forall_eq];exact ⟨by simp[lk,u1,Yc,Ya,AV.keys],by simp[lk,u1,Yc,Ya,AV.keys],by simp[lk,u1,Yc,Ya,AV.keys],by simp[lk,u1,Yc,Ya,AV.keys],by simp[lk,u1,Yc,Ya,AV.keys],by simp[lk,u1],hRk _⟩
     . first
       |(rw[eI]at hk;simp at hk;done)
       | (obtain ⟨d,hd⟩:=cI k hk
          have wk':i64.wrap ((k:Int)+1)=(k:Int)+1:=Yf;have hkn:k<nI:=(by omega);have lI':=λC=>Zf2 (l':=C) lI
          refine Qga ?_;simp -implicitDefEqProofs[lpT,lpC,hV,u1,pu1,hi,hil,hq,hR2,hRlen,hk,hkn,lI',hd,wk',nI0];refine Ym.trans (Ym.unS lI (ZfW lI hk (by rw[hd];rfl))) (Ym.un1 tT (by simp[lk,Ya,AV.keys,u1]) ?_)
          . (simp only[W0g,W0Q,or_false,W1H,forall_eq];exact ⟨by simp[lk,u1,Yc,Ya,AV.keys],by simp[lk,u1,Yc,Ya,AV.keys],by simp[lk,u1,Yc,Ya,AV.keys],by simp[lk,u1,Yc,Ya,AV.keys],by simp[lk,u1,Yc,Ya,AV.keys],by simp[lk,u1],hRk _⟩))
     . refine Qga ?_;simp -implicitDefEqProofs[lpT,lpC,hV,u1,pu1];refine Qgr ?_;simp -implicitDefEqProofs[hi,hil,hq,hR2,hRlen,u1,pu1]
       first
       | (have lD':=λC=>Zf2 (l':=C) lD
          simp -implicitDefEqProofs[lD',nD0,u1,pu1])
       |skip
       refine Z91 (λk=>⟨(104,.int .i64 k)::(103,.int .i64 rD.length)::(16,.int .i64 i)::lpT m i,unF T++lpC a b (mgV 44 l.length m) RR⟩) (λ_=>True) rD.length ?_ trivial (λk hk _=>?_) λ_=>?_
       . simp only[hV];refine Ym.un1 tT ?_ ?_
         . first|(rw[eD];simp[lpT,lk,Ya,AV.keys,lpC,u1];done)|(simp[lpT,lk,Ya,AV.keys,lpC,u1,nD0];done)
         . simp only[lpC]
           (simp only[W0g,W0Q,or_false,W1H,forall_eq];exact ⟨by simp[lk,u1,Yc,Ya,AV.keys],by simp[lk,u1,Yc,Ya,AV.keys],by simp[lk,u1,Yc,Ya,AV.keys],by simp[lk,u1,Yc,Ya,AV.keys],by simp[lk,u1,Yc,Ya,AV.keys],by simp[lk,u1],hRk _⟩)
       . first
         |(rw[eD]at hk;simp at hk;done)
         | (obtain ⟨d,u,hd⟩:=cD k hk
            have wk':i64.wrap ((k:Int)+1)=(k:Int)+1:=Yf;have hkn:k<nD:=(by omega);have lD':=λC=>Zf2 (l':=C) lD
            refine Qga ?_;simp -implicitDefEqProofs[lpT,lpC,hV,u1,pu1,hi,hil,hq,hR2,hRlen,hk,hkn,lD',hd,wk',nD0];refine Ym.trans (Ym.unS lD (ZfW lD hk (by rw[hd];rfl))) (Ym.un1 tT (by simp[lk,Ya,AV.keys,u1]) ?_)
            . (simp only[W0g,W0Q,or_false,W1H,forall_eq];exact ⟨by simp[lk,u1,Yc,Ya,AV.keys],by simp[lk,u1,Yc,Ya,AV.keys],by simp[lk,u1,Yc,Ya,AV.keys],by simp[lk,u1,Yc,Ya,AV.keys],by simp[lk,u1,Yc,Ya,AV.keys],by simp[lk,u1],hRk _⟩))
       . refine Qga ?_;simp -implicitDefEqProofs[lpT,lpC,hV,u1,pu1];refine Qgr ?_;simp -implicitDefEqProofs[wi,u1,pu1];refine Ym.un1 tT (by simp[lk,Ya,AV.keys,u1]) ?_
         . (simp only[W0g,W0Q,or_false,W1H,forall_eq];exact ⟨by simp[lk,u1,Yc,Ya,AV.keys],by simp[lk,u1,Yc,Ya,AV.keys],by simp[lk,u1,Yc,Ya,AV.keys],by simp[lk,u1,Yc,Ya,AV.keys],by simp[lk,u1,Yc,Ya,AV.keys],by simp[lk,u1],hRk _⟩)
  . refine Qga ?_;simp -implicitDefEqProofs[lpT,lpC,hV,u1,pu1];refine Qgr ?_;simp -implicitDefEqProofs[u1,pu1];refine Qco (hsa) ?_;simp -implicitDefEqProofs[u1,pu1];refine Qco (hsb) ?_;simp -implicitDefEqProofs[u1,pu1]
end Go.Proofs.YthlcppdbldkldaaDoor
