/-
  What the program's iterator over plans yields.
-/
import Derived.Test.YtcdlimgkliklhaaGreatDoorJPeToPr
import Derived.Test.YtcdlimgkliklhaaGreatDoorJAmLToAmXb
import Derived.Test.YtcdlimgkliklhaaGreatDoorJRcUToPc
import Derived.Test.YtcdlimgkliklhaaGreatDoorProg
import Derived.Test.YtcdlimgkliklhaaGreatDoorJEfToNk
import Derived.Test.YtcdlimgkliklhaaGreatDoorTie
import Derived.Test.YtcdlimgkliklhaaGreatDoorCards
set_option linter.all false
set_option linter.unusedSimpArgs false
set_option linter.unusedVariables false
set_option linter.unusedSectionVars false
namespace Go.Proofs.YtcdlimgkliklhaaGreatDoor
open Go.RowKit
def pmA (L:List Prt):List (AV×AV):=L.map λy=>(.int .i64 y.no,.agg (ptA y))
theorem ZmI (n:Int):∀ l:List Prt,(KK.i .i64).find (.int .i64 n) (pmA l)=some (l.findIdx? λp=>decide (n=p.no))
 |[]=>rfl
 | p::r=>by
   have ih:=ZmI n r;have e:pmA (p::r)=(.int .i64 p.no,.agg (ptA p))::pmA r:=rfl;have e2:(KK.i .i64).eq (.int .i64 n) (.int .i64 p.no)=some (decide (n=p.no)):=(by simp[KK.eq]);rw[e,KK.find,e2,ih,List.findIdx?_cons];by_cases c:n=p.no
   . simp[c]
   . simp[c]
theorem ZmJ {y:Prt} {l:List Prt} (h:∀ p∈l,p.no≠y.no):(KK.i .i64).put (.int .i64 y.no) (.agg (ptA y)) (pmA l)=some (pmA (l++[y])):=by
 unfold KK.put;rw[if_pos (show (KK.i .i64).is (.int .i64 y.no)=true from rfl),ZmI]
 have q:(l.findIdx? λp=>decide (y.no=p.no))=none:=by
  rw[W1G];intro p hp;simp;exact λe=>h p hp e.symm
 rw[q];simp[pmA]
theorem ZmK {α β:Type} (f:α->β):∀ (l:List α) (j:Nat),(l.map f).eraseIdx j=(l.eraseIdx j).map f
 |[],_=>rfl
 |_::_,0=>rfl
 |x::t,j+1=>by simp only[W0F,List.eraseIdx_cons_succ];rw[ZmK f t j]
theorem er_no:∀ (l:List Prt) (j:Nat) (h:j<l.length),(l.map (·.no)).Nodup->l.eraseIdx j=l.filter λp=>!decide (l[j].no=p.no)
 | x::t,0,_,hn=>by
   rw[W0F,W1z]at hn
   have e:t.filter (λp=>!decide (x.no=p.no))=t:=List.filter_eq_self.2 λp hp=>by
    have:x.no≠p.no:=λe=>hn.1 (e ▸ W0i.2 ⟨p,hp,rfl⟩)
    simpa using this
   simp[e]
 | x::t,j+1,h,hn=>by
   rw[W0F,W1z]at hn;have hj:j<t.length:=(by simpa using h);have ih:=er_no t j hj hn.2;have:t[j].no≠x.no:=λe=>hn.1 (e ▸ W0i.2 ⟨t[j],W0e hj,rfl⟩)
   simp[ih,this]
theorem ZmL {n:Int} {l:List Prt} (h:(l.map (·.no)).Nodup):(KK.i .i64).del (.int .i64 n) (pmA l)=some (pmA (l.filter λp=>!decide (n=p.no))):=by
 unfold KK.del;rw[if_pos (show (KK.i .i64).is (.int .i64 n)=true from rfl),ZmI]
 cases q:l.findIdx? λp=>decide (n=p.no) with
 | none =>
   rw[W1G]at q;have:(l.filter λp=>!decide (n=p.no))=l:=List.filter_eq_self.2 λy hy=>by have:=q y hy;simpa using this
   rw[this]
 | some j =>
   rw[W1A]at q;obtain ⟨h1,h2,-⟩:=q;have h3:n=l[j].no:=(by simpa using h2);have e1:(pmA l).eraseIdx j=pmA (l.eraseIdx j):=ZmK _ l j;simp only[e1,er_no l j h1 h,h3]
theorem ZmM (o:List (Nat×AObj)) (l:List Prt):Yc o (.mp (pmA l))=true:=by simp[Yc,pmA,ptA,Ya,AV.keys]
theorem ZmN (l:List Prt):(pmA l).all (λp=>p.1.pure&&p.2.pure)=true:=by simp[pmA,ptA,AV.pure]
theorem ZmO (ok:Nat->Bool) (st:St) (l:List Prt):frzO ok st (.mp (pmA l)) = .mp (pmA l):=by
 have e:∀ p:Prt,frzA ok st (.agg (ptA p)) = .agg (ptA p):=λp=>by simp[frzA,frz,ptA,AV.keys]
 have e2:∀ n,frzA ok st (.int .i64 n) = .int .i64 n:=λn=>by simp[frzA,frz,AV.keys]
 simp only[frzO,pmA,W10]
 congr 1
 exact W0K λp _=>by simp only[Function.comp,e,e2]
theorem pm_fz (ok:Nat->Bool) (st:St) (l:List Prt):(pmA l).map (λp=>((frz ok st 6 p.1).getD .undef,(frz ok st 6 p.2).getD .undef))=pmA l:=by
 have:=ZmO ok st l;simpa only [frzO,frzA,AObj.mp.injEq] using this
def lfI (Z:List Prt) (id:Int) (S:List Prt) (k:Nat):List Prt:=(S.take k).foldl (λZ y=>if y.ho=id then Z.filter (λp=>!decide (y.no=p.no)) else Z) Z
theorem ZmP {Z:List Prt} {id:Int} {S:List Prt} {k:Nat} (h:k<S.length):lfI Z id S (k+1)=if S[k].ho=id then (lfI Z id S k).filter (λp=>!decide (S[k].no=p.no)) else lfI Z id S k:=by
 unfold lfI;rw[W08 h,W1q];rfl
theorem ZmQ {Z:List Prt} {id:Int} {S:List Prt}:∀ k,k<=S.length->(lfI Z id S k).Sublist Z
 |0,_=>by simp[lfI]
 | k+1,h=>by
   have ih:=ZmQ (Z:=Z) (id:=id) (S:=S) k (by omega);rw[ZmP (by omega)]
   split
   . exact List.filter_sublist.trans ih
   . exact ih
theorem ZmR {Z:List Prt} {id:Int} {S:List Prt} {x:Prt}:∀ k,k<=S.length->(x∈lfI Z id S k↔x∈Z/\∀ y∈S.take k,y.ho=id->y.no≠x.no)
 |0,_=>by simp[lfI]
 | k + 1,h=>by
   have hk:k<S.length:=(by omega);rw[ZmP hk,W08 hk];have ih:=ZmR (Z:=Z) (id:=id) (S:=S) (x:=x) k (by omega);by_cases c:S[k].ho=id
   . rw[if_pos c,W0G,ih];simp only[W0h,W0B,W1C,W1b]
     constructor
     . rintro ⟨⟨h1,h2⟩,h3⟩;refine ⟨h1,λy hy hi=>?_⟩;rcases hy with hy|rfl
       . exact h2 y hy hi
       . exact h3
     . rintro ⟨h1,h2⟩;exact ⟨⟨h1,λy hy=>h2 y (.inl hy)⟩,h2 _ (.inr rfl) c⟩
   . rw[if_neg c,ih];simp only[W0h,W0B]
     constructor
     . rintro ⟨h1,h2⟩;refine ⟨h1,λy hy hi=>?_⟩;rcases hy with hy|rfl
       . exact h2 y hy hi
       . exact absurd hi c
     . rintro ⟨h1,h2⟩;exact ⟨h1,λy hy=>h2 y (.inl hy)⟩
def lfK (ids:List Int) (v:Nat) (S:List Prt):Nat->List Prt
 |0=>S
 |i+1=>if v / 2 ^ i % 2=1 then lfI (lfK ids v S i) (ids.getD i 0) S S.length else lfK ids v S i
theorem ZmS {ids:List Int} {v:Nat} {S:List Prt}:∀ i,(lfK ids v S i).Sublist S
 |0=>.refl _
 | i+1=>by
   rw[lfK]
   split
   . exact (ZmQ _ (W0f _)).trans (ZmS i)
   . exact ZmS i
theorem ZmT {S:List Prt} (hn:(S.map (·.no)).Nodup) {x y:Prt} (hx:x∈S) (hy:y∈S) (e:x.no=y.no):x=y:=by
 obtain ⟨i,hi,rfl⟩:=W0k hx;obtain ⟨j,hj,rfl⟩:=W0k hy;have h2:=W0Y.1 hn;rcases W0R i j with c|c|c
 . exact absurd (by rw[W1w,W1w];exact e) (h2 i j (by simpa using hi) (by simpa using hj) c)
 . subst c;rfl
 . exact absurd (by rw[W1w,W1w];exact e.symm) (h2 j i (by simpa using hj) (by simpa using hi) c)
theorem ZmU {ids:List Int} {v:Nat} {S:List Prt} (hn:(S.map (·.no)).Nodup) {x:Prt}:∀ i,(x∈lfK ids v S i↔x∈S/\(sbN ids v i).contains x.ho=false)
 |0=>by simp[lfK,sbN]
 | i + 1=>by
   have ih:=ZmU (ids:=ids) (v:=v) hn (x:=x) i;rw[lfK,sbN];by_cases c:v / 2 ^ i % 2=1
   . rw[if_pos c,if_pos c,ZmR _ (W0f _),ih,W0v]
     have e:(sbN ids v i++[ids.getD i 0]).contains x.ho=((sbN ids v i).contains x.ho||decide (x.ho=ids.getD i 0)):=by
      rw[W2i];simp
     rw[e,W1U,W1b]
     constructor
     . rintro ⟨⟨h1,h2⟩,h3⟩;exact ⟨h1,h2,λe=>h3 x h1 e rfl⟩
     . rintro ⟨h1,h2,h3⟩;refine ⟨⟨h1,h2⟩,λy hy hi e=>?_⟩;rw[ZmT hn hy h1 e]at hi;exact h3 hi
   . rw[if_neg c,if_neg c,ih]
theorem pig:∀ (n:Nat) (D:List Nat),D.Nodup->(∀ i∈D,i<n)->D.length<=n
 | 0,D,_,h=>by
   cases D with
   |nil=>simp
   |cons a t=>exact absurd (h a (by simp)) (by omega)
 | n+1,D,hd,h=>by
   have h1:=pig n (D.erase n) (hd.erase n) λi hi=>by
    have:=(List.Nodup.mem_erase_iff hd).1 hi;have:=h i this.2;omega
   by_cases c:n∈D
   . rw[List.length_erase_of_mem c]at h1;omega
   . rw[List.erase_of_not_mem c]at h1;omega
theorem shU7 {n:Nat} (h:n<7):IntKind.i64.wrap (2 ^ (min n IntKind.i64.bits))=((2 ^ n:Nat):Int):=by
 have h1:∀ k:_root_.Fin 7,IntKind.i64.wrap (2 ^ (min k.val IntKind.i64.bits))=((2 ^ k.val:Nat):Int):=(by decide +kernel);exact h1 ⟨n,h⟩
theorem pow6 {n:Nat} (h:n<=6):2 ^ n<=64:=by
 have:n=0∨n=1∨n=2∨n=3∨n=4∨n=5∨n=6:=(by omega);rcases this with rfl|rfl|rfl|rfl|rfl|rfl|rfl <;> decide
theorem Nsub.vptr {xs ys:List AV} {off:Nat} (h:NsubL xs ys):Nsub (.vptr xs off) (.vptr ys off):=λM W u hu=>by
 cases hu with
 | vptr _ _ b o f hb hM hc hr =>
   refine .vptr ys off b o f hb hM (λj hj=>hc j (by rw[h.len];exact hj)) λj y hy=>?_
   obtain ⟨x,h2,h3⟩:=h.at j y hy;exact h3 _ _ _ (hr j x h2)
theorem IterG.sub {P:Program} {G:Nat->Option (List AV)} {gf:Nat} {caps caps' els:List AV} (h:IterG P G gf caps els) (hs:NsubL caps' caps):IterG P G gf caps' els :=
 ⟨h.1,λn l lb J K M W h0 h1 h2 h3 h4 hc=>h.2 n l lb J K M W h0 h1 h2 h3 h4 ⟨hc.1.trans hs.len,λi y u hi hu=>by
  obtain ⟨x,g1,g2⟩:=hs.at i y hi;exact g2 _ _ _ (hc.2 i x u g1 hu)⟩⟩
def plT (F W:AV) (K l i:Nat):List (Nat×AV):=[(22,.int .i64 i),(21,.int .i64 K),(2,.vptr [W] 0),(1,.vptr [F] 0),(0,.func (.yield l) [] [])]
def plU (F W:AV) (K l i:Nat):List (Nat×AV):=(6,.mp 25)::(5,.ptr 5 0)::(4,.int .i64 i)::plT F W K l i
def plA (F W:AV) (K l i:Nat) (S:List Prt) (k:Nat):St:=⟨(28,.int .i64 k)::(27,.int .i64 S.length)::(26,W)::plU F W K l i,[(25,.mp (pmA (S.take k))),(5,.box [.nils,.nils])]⟩
def plB (F W:AV) (K l i:Nat) (hs:List Hld) (Z:List Prt) (A:List Int) (j:Nat):St:=⟨(43,.int .i64 j)::(42,.int .i64 hs.length)::(41,.vsl (hs.map hoa))::plU F W K l i,(25,.mp (pmA Z))::(5,.box [nlV 58 A,.nils])::nlO 58 A⟩
def plI (F W:AV) (K l i:Nat) (hs:List Hld) (S:List Prt) (h:Hld) (Z:List Prt) (A:List Int) (j k:Nat):St :=
 ⟨(62,.int .i64 k)::(61,.int .i64 S.length)::(60,W)::(10,.ptr 10 0)::(43,.int .i64 j)::(42,.int .i64 hs.length)::(41,.vsl (hs.map hoa))::plU F W K l i,(10,.box (hoa h))::(25,.mp (pmA Z))::(5,.box [nlV 58 A,.nils])::nlO 58 A⟩
def dwD (Z:List Prt) (D:List Nat):List Int:=D.map λi=>(pAt Z i).dw
def plV (F W:AV) (K l i:Nat) (Z:List Prt) (V:AV) (U:List Int):St:=⟨(76,.vmap (pmA Z))::(5,.ptr 5 0)::plT F W K l i,(5,.box [V,nlV 88 U])::nlO 88 U⟩
structure VisD (n:Nat) where
 D:List Nat
 nd:D.Nodup
 bd:∀ i∈D,i<n
def VisD.has {n:Nat} (D:VisD n) (j:Nat):Bool:=D.D.contains j
section
variable {G:Nat->Option (List AV)}
theorem ZmV:PC Tryz.prog G 116 [.nils] .nils:=by
 refine PC_of Tryz.func116 rfl (by kernel_rfl) (rc:=Zi8) (by kernel_rfl) (rs:=Zi9) (by kernel_rfl) (W0C rfl) λR _ hG hrd=>Qga ?_
 subst hG;simp -implicitDefEqProofs[Zi8,Zi9]
end
section
variable {G:Nat->Option (List AV)}
set_option maxHeartbeats 8000000 in
theorem ZmW (r:List Iss) (l:List Nte) (hs:List Hld) (ps S:List Prt) (hnS:(S.map (·.no)).Nodup) (hS:S.length<=41) (h6:hs.length<=6) (hdl:(nums r).Pairwise (· < ·)) (hd:∀ x∈S,x.dw∈nums r) :
  IterG Tryz.prog G 179 [.vptr [ofA r l hs ps] 0,.vptr [.vsl (S.map ptA)] 0] ((plE (hs.map (·.id)) (nums r) S).map pvA):=by
 have eO:ofA r l hs ps = .vptr [.vsl (r.map isa),.vsl (l.map na),.vsl (hs.map hoa),.vsl (ps.map ptA),.vsl ((nums r).map ia)] 0:=rfl;have sh:=shU7 (n:=hs.length) (by omega);have hpw:=pow6 (n:=hs.length) h6;obtain ⟨ids,hids⟩ : ∃ ids,ids=hs.map (·.id):=⟨_,rfl⟩;have lids:ids.length=hs.length:=(by rw[hids];simp);have gid:∀ i (h:i<hs.length),ids.getD i 0=hs[i].id:=λi h=>by rw[hids,W0j,W09,W07 h];rfl
 rw[<- hids]
 have hat:∀ v,v<2 ^ hs.length->∀ left:List Prt,(∀ x,x∈left↔x∈S/\(sbT ids v).contains x.ho=false)->(plE ids (nums r) S)[v]? = some (sbT ids v,setI (left.map (·.dw))):=by
  intro v hv left hm;unfold plE;rw[W09,W0L (by rw[lids];exact hv)];simp only[W0m,plN,Ziz];rw[Zix hdl hd hm]
 have hln:(plE ids (nums r) S).length=2 ^ hs.length:=(by rw[Zmz,lids]);obtain ⟨F,hF⟩ : ∃ F,F=ofA r l hs ps:=⟨_,rfl⟩;rw[<- hF]at eO ⊢;have pF:F.pure=true:=(by rw[hF];exact ZiI r l hs ps);clear hF;refine Zjn Tryz.func179 (by kernel_rfl) (rc:=Z5R) (by kernel_rfl) rfl (W0C rfl) λn l' J K hn H hY=>?_
 generalize plE ids (nums r) S=E at *;obtain ⟨k,hk⟩ : ∃ k,k=2 ^ hs.length:=⟨_,rfl⟩;rw[<- hk]at hpw sh hat hln
 have pT:∀ i,∀ q∈plT F (.vsl (S.map ptA)) k l' i,q.2.pure=true:=λi q hq=>by
  simp only[plT,W0g,W0Q,or_false]at hq;rcases hq with rfl|rfl|rfl|rfl|rfl <;> simp[AV.pure,pF,ptA]
 unfold Z5R;refine Zje ⟨plT F (.vsl (S.map ptA)) k l' 0,[]⟩ (λM A=>?_) (Zjg (Zjh (λi=>i) (λi=>⟨plT F (.vsl (S.map ptA)) k l' i,[]⟩) (λi=>i<=k) (λi=>k-i) 0 rfl rfl (W1f _) λi hi=>?_))
 . refine Qga ?_;simp -implicitDefEqProofs[iniT,eO,plT,sh]
   (refine Ym.sub (by simp[lk,Ya,AV.keys]) ?_;simp only[Wkl,and_true];(try simp[lk,Yc,Ya,AV.keys]))
 by_cases hlt:i<k
 case neg =>
  obtain rfl:i=k:=(by omega);refine Zje ⟨(23,.bool false)::plT F (.vsl (S.map ptA)) i l' i,[]⟩ (λM A=>?_) (Zjc (Zjf (.exit 0) ⟨[],[]⟩ (λM A=>?_) ?_))
  . refine Qga ?_;simp -implicitDefEqProofs[plT];exact (by (first|exact Ym.tm (by simp[lk])|exact Ym.sub (by simp[lk,Ya,AV.keys]) (by simp[lk,Yc,Ya,AV.keys])))
  . refine Qga ?_;simp -implicitDefEqProofs[plT];exact (by (first|exact Ym.tm (by simp[lk])|exact Ym.sub (by simp[lk,Ya,AV.keys]) (by simp[lk,Yc,Ya,AV.keys])))
  . simp only[ItBk,if_true];refine ⟨by simp,by simp[hln],λ_ _ _ h=>h⟩
 have wi:IntKind.i64.wrap ((i:Int)+1)=((i+1:Nat):Int):=Yf (by omega) (by omega);have hat:=hat i hlt;refine Zje ⟨(23,.bool true)::plT F (.vsl (S.map ptA)) k l' i,[]⟩ (λM A=>?_) (Zje ⟨plT F (.vsl (S.map ptA)) k l' i,[]⟩ (λM A=>?_) (Zjd (Zjg ?_)))
 . refine Qga ?_;simp -implicitDefEqProofs[plT,hlt];exact (by (first|exact Ym.tm (by simp[lk])|exact Ym.sub (by simp[lk,Ya,AV.keys]) (by simp[lk,Yc,Ya,AV.keys])))
 . refine Qga ?_;simp -implicitDefEqProofs[plT];exact (by (first|exact Ym.tm (by simp[lk])|exact Ym.sub (by simp[lk,Ya,AV.keys]) (by simp[lk,Yc,Ya,AV.keys])))
 refine Zje ⟨(4,.int .i64 i)::plT F (.vsl (S.map ptA)) k l' i,[]⟩ (λM A=>?_) (Zje ⟨(5,.ptr 5 0)::(4,.int .i64 i)::plT F (.vsl (S.map ptA)) k l' i,[(5,.box [.nils,.nils])]⟩ (λM A=>?_) (Zje ⟨plU F (.vsl (S.map ptA)) k l' i,[(25,.mp (pmA [])),(5,.box [.nils,.nils])]⟩ (λM A=>?_) ?_))
 . refine Qga ?_;simp -implicitDefEqProofs[plT];exact (by (first|exact Ym.tm (by simp[lk])|exact Ym.sub (by simp[lk,Ya,AV.keys]) (by simp[lk,Yc,Ya,AV.keys])))
 . refine Qga ?_;simp -implicitDefEqProofs[plT]
   (refine Ym.sub (by simp[lk,Ya,AV.keys]) ?_;simp only[Wkl,and_true];(try simp[lk,Yc,Ya,AV.keys]))
 . refine Qga ?_;have e0:pmA []=[]:=rfl;simp -implicitDefEqProofs[plU,plT,e0]
   (refine Ym.sub (by simp[lk,Ya,AV.keys]) ?_;simp only[Wkl,and_true];(try simp[lk,Yc,Ya,AV.keys]))
 refine Zje ⟨plU F (.vsl (S.map ptA)) k l' i,[(25,.mp (pmA S)),(5,.box [.nils,.nils])]⟩ (λM A=>?_) ?_
 . refine Qga ?_;simp -implicitDefEqProofs[plU,plT];refine Za9 (plA F (.vsl (S.map ptA)) k l' i S) (λ_=>True) S.length ?_ trivial ?_ ?_
   . have e0:plA F (.vsl (S.map ptA)) k l' i S 0=⟨(28,.int .i64 (0:Nat))::(27,.int .i64 S.length)::(26,.vsl (S.map ptA))::plU F (.vsl (S.map ptA)) k l' i,[(25,.mp (pmA [])),(5,.box [.nils,.nils])]⟩:=rfl;have e1:pmA []=[]:=rfl;rw[e0,e1];simp only[plU,plT]
     ((try simp only[ptA]);refine Ym.sub (by simp[lk,Ya,AV.keys,ptA]) ?_;simp only[ptA,Wkl,and_true];(try simp[lk,Yc,Ya,AV.keys,ptA]))
   . intro j hj _;have wj:IntKind.i64.wrap ((j:Int)+1)=(j:Int)+1:=Yf (by omega) (by omega);obtain ⟨y,hy⟩ : ∃ y,y=S[j]:=⟨_,rfl⟩;have hly:S[j]=y:=hy.symm;have hpt:ptA y=[.int .i64 y.no,.int .i64 y.dy,.int .i64 y.ho,.int .i64 y.dw,.int .i64 y.lt,.int .i64 y.bk,.int .u8 y.lo]:=rfl
     have hput:=ZmJ (y:=y) (l:=S.take j) λp hp e=>by
      obtain ⟨q,hq,rfl⟩:=W0k hp;simp only[W15]at hq;rw[W1W,hy]at e;exact W0Y.1 hnS q j (by simp;omega) (by simpa using hj) (by omega) (by rw[W1w,W1w];exact e)
     have sc:S.take (j+1)=S.take j++[y]:=(by rw[W08 hj,hy]);obtain ⟨Z',hZ'⟩ : ∃ Z',Z'=S.take (j+1):=⟨_,rfl⟩;obtain ⟨Z,hZ⟩ : ∃ Z,Z=S.take j:=⟨_,rfl⟩;rw[<- sc,hpt,<- hZ',<- hZ]at hput;have hw1:plA F (.vsl (S.map ptA)) k l' i S j=⟨(28,.int .i64 j)::(27,.int .i64 S.length)::(26,.vsl (S.map ptA))::plU F (.vsl (S.map ptA)) k l' i,[(25,.mp (pmA Z)),(5,.box [.nils,.nils])]⟩:=(by rw[plA,<- hZ]);have hw2:plA F (.vsl (S.map ptA)) k l' i S (j+1)=⟨(28,.int .i64 (j+1:Nat))::(27,.int .i64 S.length)::(26,.vsl (S.map ptA))::plU F (.vsl (S.map ptA)) k l' i,[(25,.mp (pmA Z')),(5,.box [.nils,.nils])]⟩:=(by rw[plA,<- hZ']);refine Qga ?_;rw[hw1];simp -implicitDefEqProofs[plU,plT,hj,hly,hpt,hput,wj];rw[hw2];simp only[plU,plT]
     ((try simp only[ptA]);refine Ym.sub (by simp[lk,Ya,AV.keys,ptA]) ?_;simp only[ptA,Wkl,ZmM,and_true];(try simp[lk,Yc,Ya,AV.keys,ptA]))
   . intro _;have hw1:plA F (.vsl (S.map ptA)) k l' i S S.length=⟨(28,.int .i64 S.length)::(27,.int .i64 S.length)::(26,.vsl (S.map ptA))::plU F (.vsl (S.map ptA)) k l' i,[(25,.mp (pmA S)),(5,.box [.nils,.nils])]⟩:=(by rw[plA,W0v]);rw[hw1];refine Qga ?_;simp -implicitDefEqProofs[plU,plT];refine Qgr ?_;simp -implicitDefEqProofs[]
     ((try simp only[ptA]);refine Ym.sub (by simp[lk,Ya,AV.keys,ptA]) ?_;simp only[ptA,Wkl,ZmM,and_true];(try simp[lk,Yc,Ya,AV.keys,ptA]))
 have kF:F.keys=[]:=AV.pure_keys _ pF;refine Zje ⟨plU F (.vsl (S.map ptA)) k l' i,(25,.mp (pmA (lfK ids i S hs.length)))::(5,.box [nlV 58 (sbN ids i hs.length),.nils])::nlO 58 (sbN ids i hs.length)⟩ (λM A=>?_) ?_
 . refine Qga ?_;simp -implicitDefEqProofs[plU,plT,eO];rw[<- eO];refine Za9 (λj=>plB F (.vsl (S.map ptA)) k l' i hs (lfK ids i S j) (sbN ids i j) j) (λ_=>True) hs.length ?_ trivial ?_ ?_
   . have e0:lfK ids i S 0=S:=rfl;have e1:sbN ids i 0=[]:=rfl;simp only[plB,e0,e1,nlV,nlO,if_true,plU,plT]
     ((try simp only[ptA,kF,hoa]);refine Ym.sub (by simp[lk,Ya,AV.keys,ptA,kF,hoa]) ?_;simp only[ptA,kF,hoa,Wkl,ZmM,and_true];(try simp[lk,Yc,Ya,AV.keys,ptA,kF,hoa]))
   . intro j hj _;have wj:IntKind.i64.wrap ((j:Int)+1)=(j:Int)+1:=Yf (by omega) (by omega);have sc:sbN ids i (j+1)=if i / 2 ^ j % 2=1 then sbN ids i j++[ids.getD j 0] else sbN ids i j:=rfl
     have lc:lfK ids i S (j+1)=if i / 2 ^ j % 2=1 then lfI (lfK ids i S j) (ids.getD j 0) S S.length else lfK ids i S j:=rfl
     have hle:=Zh3 ids i j;have bU:=bitU (v:=i) (i:=j) (by omega) (by omega);rw[gid j hj]at sc lc;obtain ⟨h,hh⟩ : ∃ h,h=hs[j]:=⟨_,rfl⟩;rw[<- hh]at sc lc;have hlh:hs[j]=h:=hh.symm;have hho:hoa h=[.int .i64 h.id,.int .i64 h.fr,.int .i64 h.to,.vsl (h.ds.map ia)]:=rfl;have hzn:((lfK ids i S j).map (·.no)).Nodup:=hnS.sublist ((ZmS j).map _);obtain ⟨Z',hZ'⟩ : ∃ Z',Z'=lfK ids i S (j+1):=⟨_,rfl⟩;obtain ⟨Z,hZ⟩ : ∃ Z,Z=lfK ids i S j:=⟨_,rfl⟩;obtain ⟨B',hB'⟩ : ∃ B',B'=sbN ids i (j+1):=⟨_,rfl⟩;obtain ⟨B,hB⟩ : ∃ B,B=sbN ids i j:=⟨_,rfl⟩;have hw1:plB F (.vsl (S.map ptA)) k l' i hs (lfK ids i S j) (sbN ids i j) j=⟨(43,.int .i64 j)::(42,.int .i64 hs.length)::(41,.vsl (hs.map hoa))::plU F (.vsl (S.map ptA)) k l' i,(25,.mp (pmA Z))::(5,.box [nlV 58 B,.nils])::nlO 58 B⟩:=(by rw[plB,<- hZ,<- hB]);have hw2:plB F (.vsl (S.map ptA)) k l' i hs (lfK ids i S (j+1)) (sbN ids i (j+1)) (j+1)=⟨(43,.int .i64 (j+1:Nat))::(42,.int .i64 hs.length)::(41,.vsl (hs.map hoa))::plU F (.vsl (S.map ptA)) k l' i,(25,.mp (pmA Z'))::(5,.box [nlV 58 B',.nils])::nlO 58 B'⟩:=(by rw[plB,<- hZ',<- hB']);rw[<- hB',<- hB]at sc;rw[<- hZ',<- hZ]at lc;rw[<- hZ]at hzn;rw[<- hB]at hle;have bb:(B.length+1)*8<=70368744177664:=(by omega);show AR _ _ _ (plB F (.vsl (S.map ptA)) k l' i hs (lfK ids i S j) (sbN ids i j) j) _;rw[hw1];by_cases cB:B=[]
     case' pos =>
      have hV:nlV 58 B = .nils:=(by simp[nlV,cB]);have hQ:nlO 58 B=[]:=by simp[nlO,cB]
     case' neg =>
      have hV:nlV 58 B = .osl 58 B.length:=(by simp[nlV,cB]);have hQ:nlO 58 B=[(58,.row 1 (B.map ia))]:=by simp[nlO,cB]
     all_goals
      refine Qga ?_;by_cases q:i / 2 ^ j % 2=1
      case neg =>
       rw[if_neg q]at sc lc bU;simp -implicitDefEqProofs[plU,plT,hV,hQ,hj,hlh,hho,bU,wj];rw[hw2,sc,lc,hV,hQ];simp only[plU,plT]
       ((try simp only[ptA,kF,hoa,ia]);refine Ym.sub (by simp[lk,Ya,AV.keys,ptA,kF,hoa,ia]) ?_;simp only[ptA,kF,hoa,ia,Wkl,ZmM,Zfv,and_true];(try simp[lk,Yc,Ya,AV.keys,ptA,kF,hoa,ia]))
      rw[if_pos q]at sc lc bU;have hne:¬B'=[]:=(by rw[sc];simp);have hV2:nlV 58 B' = .osl 58 (B.length+1):=(by rw[nlV,if_neg hne,sc];simp);have hQ2:nlO 58 B'=[(58,.row 1 (B.map ia++[[.int .i64 h.id]]))]:=(by rw[nlO,if_neg hne,sc,W0r];rfl);have w1:∀ (X:List Prt) (c:Nat),plI F (.vsl (S.map ptA)) k l' i hs S h X B' j c=⟨(62,.int .i64 c)::(61,.int .i64 S.length)::(60,.vsl (S.map ptA))::(10,.ptr 10 0)::(43,.int .i64 j)::(42,.int .i64 hs.length)::(41,.vsl (hs.map hoa))::plU F (.vsl (S.map ptA)) k l' i,(10,.box (hoa h))::(25,.mp (pmA X))::(5,.box [.osl 58 (B.length+1),.nils])::[(58,.row 1 (B.map ia++[[.int .i64 h.id]]))]⟩:=λX c=>by rw[plI,hV2,hQ2]
      have iak:∀ o:List (Nat×AObj),Yc o (.row 1 (B.map ia++[[.int .i64 h.id]]))=true:=λo=>by
       have:=Zfv o (B++[h.id])
       rwa [W0r]at this
      simp -implicitDefEqProofs[plU,plT,hV,hQ,hj,hlh,hho,bU,bb];refine Za9 (λc=>plI F (.vsl (S.map ptA)) k l' i hs S h (lfI Z h.id S c) B' j c) (λ_=>True) S.length ?_ trivial ?_ ?_
      . have e0:lfI Z h.id S 0=Z:=rfl;show Ym _ (plI F (.vsl (S.map ptA)) k l' i hs S h (lfI Z h.id S 0) B' j 0);rw[e0,w1];simp only[plU,plT]
        ((try simp only[ptA,kF,hho,ia,cB,ptA]);refine Ym.sub (by simp[lk,Ya,AV.keys,ptA,kF,hho,ia,cB,ptA]) ?_;simp only[ptA,kF,hho,ia,cB,ptA,Wkl,ZmM,iak,and_true];(try simp[lk,Yc,Ya,AV.keys,ptA,kF,hho,ia,cB,ptA]))
      . intro c hc _;have wc:IntKind.i64.wrap ((c:Int)+1)=(c:Int)+1:=Yf (by omega) (by omega);have sl:=ZmP (Z:=Z) (id:=h.id) hc;have hxn:((lfI Z h.id S c).map (·.no)).Nodup:=hzn.sublist ((ZmQ c (by omega)).map _);obtain ⟨y,hy⟩ : ∃ y,y=S[c]:=⟨_,rfl⟩;rw[<- hy]at sl;have hly:S[c]=y:=hy.symm;have hpt:ptA y=[.int .i64 y.no,.int .i64 y.dy,.int .i64 y.ho,.int .i64 y.dw,.int .i64 y.lt,.int .i64 y.bk,.int .u8 y.lo]:=rfl;have hdel:=ZmL (n:=y.no) hxn;obtain ⟨X',hX'⟩ : ∃ X',X'=lfI Z h.id S (c+1):=⟨_,rfl⟩;obtain ⟨X,hX⟩ : ∃ X,X=lfI Z h.id S c:=⟨_,rfl⟩;have hw3:=w1 X c;have hw4:=w1 X' (c+1);rw[hX]at hw3;rw[hX']at hw4;rw[<- hX]at hw3;rw[<- hX']at hw4;rw[<- hX',<- hX]at sl;rw[<- hX]at hdel;show AR _ _ _ (plI F (.vsl (S.map ptA)) k l' i hs S h (lfI Z h.id S c) B' j c) _;rw[<- hX,hw3];refine Qga ?_;by_cases e:y.ho=h.id
        . rw[if_pos e]at sl;rw[<- sl]at hdel;simp -implicitDefEqProofs[plU,plT,hc,hly,hpt,hho,e,hdel,wc];rw[<- hX',hw4];simp only[plU,plT]
          ((try simp only[ptA,kF,hho,ia]);refine Ym.sub (by simp[lk,Ya,AV.keys,ptA,kF,hho,ia]) ?_;simp only[ptA,kF,hho,ia,Wkl,ZmM,iak,and_true];(try simp[lk,Yc,Ya,AV.keys,ptA,kF,hho,ia]))
        . rw[if_neg e]at sl;simp -implicitDefEqProofs[plU,plT,hc,hly,hpt,hho,e,wc];rw[<- hX',hw4,<- sl];simp only[plU,plT]
          ((try simp only[ptA,kF,hho,ia]);refine Ym.sub (by simp[lk,Ya,AV.keys,ptA,kF,hho,ia]) ?_;simp only[ptA,kF,hho,ia,Wkl,ZmM,iak,and_true];(try simp[lk,Yc,Ya,AV.keys,ptA,kF,hho,ia]))
      . intro _;show AR _ _ _ (plI F (.vsl (S.map ptA)) k l' i hs S h (lfI Z h.id S S.length) B' j S.length) _;rw[<- lc,w1];refine Qga ?_;simp -implicitDefEqProofs[plU,plT];refine Qgr ?_;simp -implicitDefEqProofs[wj];rw[hw2,hV2,hQ2];simp only[plU,plT]
        ((try simp only[ptA,kF,hoa,ia]);refine Ym.sub (by simp[lk,Ya,AV.keys,ptA,kF,hoa,ia]) ?_;simp only[ptA,kF,hoa,ia,Wkl,ZmM,iak,and_true];(try simp[lk,Yc,Ya,AV.keys,ptA,kF,hoa,ia]))
   . intro _;show AR _ _ _ (plB F (.vsl (S.map ptA)) k l' i hs (lfK ids i S hs.length) (sbN ids i hs.length) hs.length) _;rw[plB];generalize sbN ids i hs.length=B;by_cases cB:B=[]
     case' pos =>
      have hV:nlV 58 B = .nils:=(by simp[nlV,cB]);have hQ:nlO 58 B=[]:=by simp[nlO,cB]
     case' neg =>
      have hV:nlV 58 B = .osl 58 B.length:=(by simp[nlV,cB]);have hQ:nlO 58 B=[(58,.row 1 (B.map ia))]:=by simp[nlO,cB]
     all_goals
      refine Qga ?_;simp -implicitDefEqProofs[plU,plT,hV,hQ];refine Qgr ?_;simp -implicitDefEqProofs[]
      ((try simp only[ptA,kF,ia]);refine Ym.sub (by simp[lk,Ya,AV.keys,ptA,kF,ia]) ?_;simp only[ptA,kF,ia,Wkl,ZmM,Zfv,and_true];(try simp[lk,Yc,Ya,AV.keys,ptA,kF,ia]))
 obtain ⟨Z,hZ⟩ : ∃ Z,Z=lfK ids i S hs.length:=⟨_,rfl⟩
 have hZm:∀ x,x∈Z↔x∈S/\(sbT ids i).contains x.ho=false:=λx=>by
  rw[hZ,sbT,lids];exact ZmU hnS hs.length
 have hZl:Z.length<=41:=by
  have:=(ZmS (ids:=ids) (v:=i) (S:=S) hs.length).length_le;rw[hZ];omega
 have hBl:sbN ids i hs.length=sbT ids i:=(by rw[sbT,lids]);rw[hBl,<- hZ];obtain ⟨B,hB⟩ : ∃ B,B=sbT ids i:=⟨_,rfl⟩;rw[<- hB]at hZm hat ⊢;obtain ⟨V,hV⟩ : ∃ V,V=Yg (B.map ia):=⟨_,rfl⟩;have pV:V.pure=true:=(by rw[hV];exact ZjW _);have kV:V.keys=[]:=AV.pure_keys _ pV;have fV:∀ ok st,frz ok st 6 V=some V:=λok st=>by rw[hV];unfold Yg;split <;> simp[frz,AV.keys]
 refine Zjd (Zjb λM A=>Z5t (α:=VisD Z.length) (kvs:=pmA Z) (λD=>plV F (.vsl (S.map ptA)) k l' i Z V (dwD Z D.D)) VisD.has ⟨[],.nil,by simp⟩ (by simp[VisD.has]) (by decide) (by simp[Z1y]) (λD=>by simp[plV,St.tmp,lk]) (λD n hn=>?_) ?_ ?_ ?_)
 . simp at hn;rcases hn with rfl|rfl|rfl|rfl|rfl <;> simp[plV,plT,St.tmp,lk]
 . have e0:dwD Z []=[]:=rfl;have e1:nlV 88 [] = .nils:=rfl;have e2:nlO 88 []=[]:=rfl;simp only[plV,e0,e1,e2];by_cases cB:B=[]
   . have hV1:nlV 58 B = .nils:=(by simp[nlV,cB]);have hQ1:nlO 58 B=[]:=(by simp[nlO,cB]);have hV2:V = .nils:=(by rw[hV];simp[Yg,cB]);simp -implicitDefEqProofs[plU,plT,hV1,hQ1];refine Ym.trans (Ym.frz (λk=>k == 25||k == 58) _) ?_;simp only[hV2]
     ((try simp only[Yi,frzA,frzO,frz,Yh,Yj,St.get,AV.pure,pm_fz,ZmN]);refine Ym.sub (by simp[lk,Ya,AV.keys,Yi,frzA,frzO,frz,Yh,Yj,St.get,AV.pure,pm_fz,ZmN]) ?_;simp only[Yi,frzA,frzO,frz,Yh,Yj,St.get,AV.pure,pm_fz,ZmN,Wkl,and_true];(try simp[lk,Yc,Ya,AV.keys,Yi,frzA,frzO,frz,Yh,Yj,St.get,AV.pure,pm_fz,ZmN]))
   . have hV1:nlV 58 B = .osl 58 B.length:=(by simp[nlV,cB]);have hQ1:nlO 58 B=[(58,.row 1 (B.map ia))]:=(by simp[nlO,cB]);have hV2:V = .vsl (B.map ia):=(by rw[hV];simp[Yg,cB]);simp -implicitDefEqProofs[plU,plT,hV1,hQ1];refine Ym.trans (Ym.frz (λk=>k == 25||k == 58) _) ?_;simp only[hV2]
     ((try simp only[Yi,frzA,frzO,frz,Yh,Yj,St.get,AV.pure,ia,pm_fz,ZmN]);refine Ym.sub (by simp[lk,Ya,AV.keys,Yi,frzA,frzO,frz,Yh,Yj,St.get,AV.pure,ia,pm_fz,ZmN]) ?_;simp only[Yi,frzA,frzO,frz,Yh,Yj,St.get,AV.pure,ia,pm_fz,ZmN,Wkl,and_true];(try simp[lk,Yc,Ya,AV.keys,Yi,frzA,frzO,frz,Yh,Yj,St.get,AV.pure,ia,pm_fz,ZmN]))
 . intro D j kx v hkv hD;obtain ⟨hj0,hkv2⟩:=W02.1 hkv;have hj:j<Z.length:=(by simpa [pmA] using hj0);have hv:v = .agg (ptA Z[j]):=(by simp[pmA]at hkv2;exact hkv2.2.symm);have hjn:j ∉ D.D:=(by simpa [VisD.has] using hD);have hDl:=pig Z.length D.D D.nd D.bd;have eD:dwD Z (D.D++[j])=dwD Z D.D++[Z[j].dw]:=by simp[dwD,ZiF hj]
   have nD:(D.D++[j]).Nodup/\∀ q∈D.D++[j],q<Z.length:=by
    refine ⟨List.nodup_append.2 ⟨D.nd,by simp,λa ha b hb=>?_⟩,λq hq=>?_⟩
    . simp at hb;subst hb;exact λe=>hjn (e ▸ ha)
    . rcases W0h.1 hq with hq|hq
      . exact D.bd q hq
      . simp at hq;omega
   have cD:∀ q,(D.D++[j]).contains q=(D.D.contains q||q == j):=λq=>by
    rw[W2i];simp
   obtain ⟨y,hy⟩ : ∃ y,y=Z[j]:=⟨_,rfl⟩;rw[<- hy]at hv eD;have hpt:ptA y=[.int .i64 y.no,.int .i64 y.dy,.int .i64 y.ho,.int .i64 y.dw,.int .i64 y.lt,.int .i64 y.bk,.int .u8 y.lo]:=rfl;subst hv;have lD:(dwD Z D.D).length=D.D.length:=(by simp[dwD]);have hfin:∀ s3,Ym s3 (plV F (.vsl (S.map ptA)) k l' i Z V (dwD Z (D.D++[j])))->∃ D':VisD Z.length,(∀ q,D'.has q=(D.has q||q == j))/\Ym s3 (plV F (.vsl (S.map ptA)) k l' i Z V (dwD Z D'.D)):=λs3 h=>⟨⟨D.D++[j],nD.1,nD.2⟩,cD,h⟩
   generalize dwD Z (D.D++[j])=U' at *;generalize dwD Z D.D=U at *;have bb:(U.length+1)*8<=70368744177664:=(by omega);have hne:¬U'=[]:=(by rw[eD];simp);have hV2:nlV 88 U' = .osl 88 (U.length+1):=(by rw[nlV,if_neg hne,eD];simp);have hQ2:nlO 88 U'=[(88,.row 1 (U.map ia++[[.int .i64 y.dw]]))]:=by rw[nlO,if_neg hne,eD,W0r];rfl
   have iak:∀ o:List (Nat×AObj),Yc o (.row 1 (U.map ia++[[.int .i64 y.dw]]))=true:=λo=>by
    have:=Zfv o (U++[y.dw])
    rwa [W0r]at this
   by_cases cU:U=[]
   case' pos =>
    have hV1:nlV 88 U = .nils:=(by simp[nlV,cU]);have hQ1:nlO 88 U=[]:=by simp[nlO,cU]
   case' neg =>
    have hV1:nlV 88 U = .osl 88 U.length:=(by simp[nlV,cU]);have hQ1:nlO 88 U=[(88,.row 1 (U.map ia))]:=by simp[nlO,cU]
   all_goals
    simp -implicitDefEqProofs[plV,plT,hV1,hQ1,hpt,bb];refine hfin _ ?_;simp only[plV,plT,hV2,hQ2]
    ((try simp only[ptA,kF,kV,ia,cU]);refine Ym.sub (by simp[lk,Ya,AV.keys,ptA,kF,kV,ia,cU]) ?_;simp only[ptA,kF,kV,ia,cU,Wkl,iak,and_true];(try simp[lk,Yc,Ya,AV.keys,ptA,kF,kV,ia,cU]))
 intro D hD
 have hD2:∀ q,q<Z.length->q∈D.D:=λq hq=>by
  have:=hD q (by simpa [pmA] using hq);simpa [VisD.has] using this
 have hat:=hat (D.D.map (pAt Z)) λx=>by
  rw[<- hZm,W0i]
  constructor
  . rintro ⟨q,hq,rfl⟩;have:=D.bd q hq;rw[ZiF this];exact W0e this
  . intro hx;obtain ⟨q,hq,rfl⟩:=W0k hx;exact ⟨q,hD2 q hq,ZiF hq⟩
 have hUl:(dwD Z D.D).length<=41:=by
  have:=pig Z.length D.D D.nd D.bd;simp[dwD];omega
 have eU:(D.D.map (pAt Z)).map (·.dw)=dwD Z D.D:=(by simp[dwD]);rw[eU]at hat;refine ⟨plV F (.vsl (S.map ptA)) k l' i Z V (dwD Z D.D),⟨rfl,?_⟩,λ_ _ _ h=>h⟩;generalize dwD Z D.D=U at *;clear hD hD2 eU;obtain ⟨Y,hYe⟩ : ∃ Y,Y=Yg ((setI U).map ia):=⟨_,rfl⟩;have pY:Y.pure=true:=(by rw[hYe];exact ZjW _);have hpv:pvA (B,setI U) = .agg [V,Y]:=(by rw[pvA,hV,hYe]);obtain ⟨hsp,hcp,hOl,hOt,hOf,kO',rO,hCl⟩:=Zkb (G:=G) U (by omega);have sl:(sortI U).length=U.length:=Zds U;refine Zje ⟨(5,.ptr 5 0)::plT F (.vsl (S.map ptA)) k l' i,(5,.box [V,nlV 88 (sortI U)])::nlO 88 (sortI U)⟩ (λM A=>?_) (Zje ⟨(5,.ptr 5 0)::plT F (.vsl (S.map ptA)) k l' i,[(5,.box [V,Y])]⟩ (λM A=>?_) ?_)
 . refine Qga ?_;by_cases cU:U=[]
   . have e1:nlV 88 U = .nils:=(by simp[nlV,cU]);have e2:nlO 88 U=[]:=(by simp[nlO,cU]);have cS:sortI U=[]:=W0l.1 (by rw[sl,cU];rfl);have e3:nlV 88 (sortI U) = .nils:=(by simp[nlV,cS]);have e4:nlO 88 (sortI U)=[]:=(by simp[nlO,cS]);rw[e3,e4];simp -implicitDefEqProofs[plV,plT,e1,e2];refine Yd.of ZfF (by simp[AV.pure]) ?_;simp -implicitDefEqProofs[]
     ((try simp only[ptA,kF,kV]);refine Ym.sub (by simp[lk,Ya,AV.keys,ptA,kF,kV]) ?_;simp only[ptA,kF,kV,Wkl,and_true];(try simp[lk,Yc,Ya,AV.keys,ptA,kF,kV]))
   . have e1:nlV 88 U = .osl 88 U.length:=(by simp[nlV,cU]);have e2:nlO 88 U=[(88,.row 1 (U.map ia))]:=(by simp[nlO,cU]);have cS:¬sortI U=[]:=λh=>cU (W0l.1 (by rw[<- sl,h];rfl))
     have e3:nlV 88 (sortI U) = .osl 88 U.length:=(by simp[nlV,cS,sl]);have e4:nlO 88 (sortI U)=[(88,.row 1 ((sortI U).map ia))]:=(by simp[nlO,cS]);rw[e3,e4];simp -implicitDefEqProofs[plV,plT,e1,e2];refine Yd.sem (Z1B.byref hsp (λ_=>88) (by simp) (by simp) (by simp[St.get,lk,Zfu]) (by simp[Zfv]) (by simp[Ya,AV.keys,lk]) rfl (by simp[AV.ren]) rfl rfl) ?_;simp -implicitDefEqProofs[Yl,Zfu]
     ((try simp only[ptA,kF,kV,ia]);refine Ym.sub (by simp[lk,Ya,AV.keys,ptA,kF,kV,ia]) ?_;simp only[ptA,kF,kV,ia,Wkl,Zfv,and_true];(try simp[lk,Yc,Ya,AV.keys,ptA,kF,kV,ia]))
 . refine Qga ?_;by_cases cU:U=[]
   . have cS:sortI U=[]:=W0l.1 (by rw[sl,cU];rfl);have e3:nlV 88 (sortI U) = .nils:=(by simp[nlV,cS]);have e4:nlO 88 (sortI U)=[]:=by simp[nlO,cS]
     have e5:Y = .nils:=by
      have:setI U=[]:=W0l.1 (by have h2:=congrArg List.length cU;rw[W1V]at h2;omega);rw[hYe,this];rfl
     rw[e3,e4,e5];simp -implicitDefEqProofs[plT];refine Yd.of ZmV (by simp[AV.pure]) ?_;simp -implicitDefEqProofs[]
     ((try simp only[ptA,kF,kV]);refine Ym.sub (by simp[lk,Ya,AV.keys,ptA,kF,kV]) ?_;simp only[ptA,kF,kV,Wkl,and_true];(try simp[lk,Yc,Ya,AV.keys,ptA,kF,kV]))
   . have cS:¬sortI U=[]:=λh=>cU (W0l.1 (by rw[<- sl,h];rfl))
     have e3:nlV 88 (sortI U) = .osl 88 U.length:=(by simp[nlV,cS,sl]);have e4:nlO 88 (sortI U)=[(88,.row 1 ((sortI U).map ia))]:=by simp[nlO,cS]
     have e5:Y = .vsl ((setI U).map ia):=by
      have:¬setI U=[]:=λh=>cU (W1t.2 λx hx=>by have:=Zig.2 hx;rw[h]at this;cases this)
      rw[hYe,Yg,if_neg (by simpa using this)]
     rw[e3,e4,e5];simp -implicitDefEqProofs[plT];refine Yd.sem (Z1B.byref hcp (λ_=>88) (by simp) (by simp) (by simp[St.get,lk,Zfu]) (by simp[Zfv]) (by simp[Ya,AV.keys,lk]) rfl (by simp[AV.ren]) rfl rfl) ?_;by_cases hq:(setI U).length=U.length
     . have hOf:=hOf hq;rw[hOf]at *;simp -implicitDefEqProofs[Yl,Zfu,hq,AV.ren];refine Ym.trans (Ym.frz (λk=>k == 88) _) ?_
       ((try simp only[Yi,frzA,frzO,frz,Yh,Yj,St.get,AV.pure,ia,ptA,kF,kV,fV,hq]);refine Ym.sub (by simp[lk,Ya,AV.keys,Yi,frzA,frzO,frz,Yh,Yj,St.get,AV.pure,ia,ptA,kF,kV,fV,hq]) ?_;simp only[Yi,frzA,frzO,frz,Yh,Yj,St.get,AV.pure,ia,ptA,kF,kV,fV,hq,Wkl,and_true];(try simp[lk,Yc,Ya,AV.keys,Yi,frzA,frzO,frz,Yh,Yj,St.get,AV.pure,ia,ptA,kF,kV,fV,hq]))
     . simp -implicitDefEqProofs[Yl,rO,hq,AV.ren];refine Ym.trans (Ym.frz (λk=>k == 88) _) ?_
       ((try simp only[Yi,frzA,frzO,frz,Yh,Yj,St.get,AV.pure,ia,ptA,kF,kV,fV,hOl,hOt]);refine Ym.sub (by simp[lk,Ya,AV.keys,Yi,frzA,frzO,frz,Yh,Yj,St.get,AV.pure,ia,ptA,kF,kV,fV,hOl,hOt]) ?_;simp only[Yi,frzA,frzO,frz,Yh,Yj,St.get,AV.pure,ia,ptA,kF,kV,fV,hOl,hOt,Wkl,and_true];(try simp[lk,Yc,Ya,AV.keys,Yi,frzA,frzO,frz,Yh,Yj,St.get,AV.pure,ia,ptA,kF,kV,fV,hOl,hOt]))
 refine Zjj H hY 2 (d:=99) (f:=.t 97) (ys:=[.t 98]) (gd:=none) rfl (xs:=[.agg [V,Y]])
  ((98,.agg [V,Y])::(97,.func (.yield l') [] [])::plT F (.vsl (S.map ptA)) k l' i) ⟨(100,.bool false)::plT F (.vsl (S.map ptA)) k l' i,[]⟩ [] [(100,.bool true)] (W0C rfl) ?_ ?_ ?_ ?_ rfl rfl ?_ ?_ ?_ ?_ ?_ ?_
 . rw[W09,W09,hat,W0m,W0m,hpv]
 . intro x hx;simp only[W0g,W0Q,or_false]at hx;subst hx;simp[AV.pure,pV,pY]
 . intro q hq;simp only[W0g]at hq;rcases hq with rfl|rfl|hq
   . simp[AV.pure,pV,pY]
   . simp[AV.pure]
   . exact pT i q hq
 . simp -implicitDefEqProofs[plT]
   ((try simp only[ptA,kF,kV,AV.pure_keys _ pY]);refine Ym.sub (by simp[lk,Ya,AV.keys,ptA,kF,kV,AV.pure_keys _ pY]) ?_;simp only[ptA,kF,kV,AV.pure_keys _ pY,Wkl,and_true];(try simp[lk,Yc,Ya,AV.keys,ptA,kF,kV,AV.pure_keys _ pY]))
 . rfl
 . simp -implicitDefEqProofs[plT];exact (by (first|exact Ym.tm (by simp[lk])|exact Ym.sub (by simp[lk,Ya,AV.keys]) (by simp[lk,Yc,Ya,AV.keys])))
 . refine Zjf .normal ⟨plT F (.vsl (S.map ptA)) k l' i,[]⟩ (λM A=>?_) ⟨rfl,Zjf .normal ⟨plT F (.vsl (S.map ptA)) k l' (i+1),[]⟩ (λM A=>?_) ⟨i+1,rfl,rfl,by omega,by omega⟩⟩
   . refine Qga ?_;simp -implicitDefEqProofs[plT];exact (by (first|exact Ym.tm (by simp[lk])|exact Ym.sub (by simp[lk,Ya,AV.keys]) (by simp[lk,Yc,Ya,AV.keys])))
   . refine Qga ?_;simp -implicitDefEqProofs[plT,wi];exact (by (first|exact Ym.tm (by simp[lk])|exact Ym.sub (by simp[lk,Ya,AV.keys]) (by simp[lk,Yc,Ya,AV.keys])))
 . intro q hq
   cases hq
 . simp -implicitDefEqProofs[];exact (by (first|exact Ym.tm (by simp[lk])|exact Ym.sub (by simp[lk,Ya,AV.keys]) (by simp[lk,Yc,Ya,AV.keys])))
 . intro A;refine Qga ?_;simp -implicitDefEqProofs[];exact (by (first|exact Ym.tm (by simp[lk])|exact Ym.sub (by simp[lk,Ya,AV.keys]) (by simp[lk,Yc,Ya,AV.keys])))
theorem ZmX (r:List Iss) (l:List Nte) (hs:List Hld) (ps S:List Prt) (hnS:(S.map (·.no)).Nodup) (hS:S.length<=41) (h6:hs.length<=6) (hdl:(nums r).Pairwise (· < ·)) (hd:∀ x∈S,x.dw∈nums r) :
  IterG Tryz.prog G 179 [.vptr [ofA r l hs ps] 0,.vptr [Yg (S.map ptA)] 0] ((plE (hs.map (·.id)) (nums r) S).map pvA) :=
 (ZmW r l hs ps S hnS hS h6 hdl hd).sub ⟨.rfl',.vptr ⟨.orNil _,trivial⟩,trivial⟩
end
open Qq in
def ZmY:RCode :=
 .seq (r 0 [b 2 0,n 4 .nils,n 5 .nils]) (.seq (r 1 [n 6 .nils,n 7 .nils]) (.seq (r 2 [n 8 (.bool false)]) (.seq (.seq (r 3 [n 9 O]) (.block 0 (.loop (.seq (.seq (r 4 [m 20 9,f 21 2 2,l 22 21,e 23 22,w 24 (.vop (.sh true) [(.c I),(.t 23)]),o 25 .lss 20 24]) (.cond (.t 25) .skip (.exit 0))) (.seq (.block 1 (.seq (r 6 [n 10 .nils,n 11 .nils]) (.seq (.seq (r 7 [n 12 O]) (.block 2 (.loop (.seq (.seq (r 8 [m 28 12,f 29 2 2,l 30 29,e 31 30,o 32 .lss 28 31]) (.cond (.t 32) .skip (.exit 2))) (.seq (.block 3 (.seq (r 10 [m 35 9,m 36 12,w 37 (.vop (.sh false) [(.t 35),(.t 36)]),w 38 (.vop (.bits .and) [(.t 37),(.c I)]),k 39 .eql 38 I]) (.cond (.t 39) (r 11 [m 40 10,f 41 2 2,l 42 41,m 43 12,i 44 4 42 43,f 45 0 44,l 46 45,w 47 (.bsl false 1 1 [O] [(0,.t 46)]),w 48 (.app 1 8 (.t 40) (.t 47)),m 10 48]) .skip))) (r 9 [m 33 12,k 34 .add 33 I,m 12 34])))))) (.seq (r 12 [f 49 0 2,f 50 0 49,L 51 1 50,c 52 54 [51],m 13 52]) (.seq (.seq (r 13 [n 14 O]) (.block 4 (.loop (.seq (.seq (r 14 [m 53 14,m 54 13,e 55 54,o 56 .lss 53 55]) (.cond (.t 56) .skip (.exit 4))) (.seq (.block 5 (.seq (r 16 [n 15 (.bool false)]) (.seq (.seq (r 17 [n 16 O]) (.block 6 (.loop (.seq (.seq (r 18 [m 59 16,m 60 1,e 61 60,o 62 .lss 59 61]) (.cond (.t 62) .skip (.exit 6))) (.seq (.block 7 (.seq (R 20 [f 65 3 2,a [0] (l 66 65),m 67 1,m 68 16,a [2,3] (i 69 1 67 68),a [4] (l 70 69),a [1,5] (i 71 7 66 70),a [6] (L 72 7 71),w 17 (.alloc [O,O,O,O,O,O,.int .u8 0]),a [8,7,0,1,2,3,4,5,6,7,8] (s 7 17 72)]) (R 21 [m 73 15,a [0] (m 74 73),a [1] (g 74 false (f 75 3 17)),a [2,1] (g 74 false (f 76 0 75)),a [3,1] (g 74 false (l 77 76)),a [1] (g 74 false (m 78 13)),a [1] (g 74 false (m 79 14)),a [5,6,1] (g 74 false (i 80 1 78 79)),a [7,1] (g 74 false (l 81 80)),a [4,8,1] (g 74 false (o 82 .eql 77 81)),a [9,1,1] (g 74 false (m 83 82)),a [10] (g 83 true (m 84 10)),a [10] (g 83 true (f 85 2 17)),a [12,10] (g 83 true (l 86 85)),a [11,13,10,10] (g 83 true (c 87 104 [84,86])),a [14,10] (g 83 true (t 88 87)),a [10,15,1] (g 74 false (v 89 83 88)),a [1,16] (u 90 74 89),a [17,14,0,1,2,3,4,5,6,7,8,9,10,11,12,13,14,15,16,17] (m 15 90)]))) (r 19 [m 63 16,k 64 .add 63 I,m 16 64])))))) (.seq (r 22 [m 91 15]) (.cond (.t 91) (r 23 [m 92 11,m 93 13,m 94 14,i 95 1 93 94,l 96 95,w 97 (.bsl false 1 1 [O] [(0,.t 96)]),w 98 (.app 1 8 (.t 92) (.t 97)),m 11 98]) .skip))))) (r 15 [m 57 14,k 58 .add 57 I,m 14 58])))))) (.seq (r 24 [m 99 10,e 100 99,m 101 11,e 102 101,o 103 .add 100 102,m 104 6,e 105 104,m 106 7,e 107 106,o 108 .add 105 107,m 18 103,m 19 108]) (.seq (r 25 [m 109 8,t 110 109,m 111 110,g 111 false (m 112 18),g 111 false (m 113 19),g 111 false (o 114 .lss 112 113),u 115 111 114,m 116 115,g 116 false (m 117 18),g 116 false (m 118 19),g 116 false (o 119 .eql 117 118),g 116 false (m 120 119),g 120 true (m 121 10),g 120 true (m 122 6),g 120 true (c 123 55 [121,122]),g 116 false (v 124 120 123),u 125 116 124]) (.cond (.t 125) (r 26 [m 126 10,m 127 11,m 6 126,m 7 127,n 8 (.bool true)]) .skip)))))))) (r 5 [m 26 9,k 27 .add 26 I,m 9 27])))))) (.seq (r 27 [m 128 6,m 129 7,m 4 128,m 5 129]) .ret))))
def ZmZ:List RRes:=[.t 4,.t 5]
theorem Zn0:PCt Tryz.prog 96 Tryz.f96 ZmY ZmZ:=pcT Tryz.func96 rfl (by kernel_rfl) (by kernel_rfl) (by kernel_rfl)
open Qq in
def Zn1:RCode :=
 .seq (r 0 [b 2 0,n 4 .nils,n 5 .nils,n 6 O]) (.seq (.seq (r 1 [L 10 4 2,m 11 1,w 12 (.call 92 [.t 10,.t 11,.c I]),m 7 12]) (.seq (r 2 [m 13 7,k 14 .neq 13 O]) (.cond (.t 14) (.seq (r 3 [m 15 7,n 4 .nils,n 5 .nils,m 6 15]) .ret) .skip))) (.seq (R 4 [L 17 4 2,L 18 4 2,m 19 1,a [1,2] (c 20 94 [18,19]),a [0,3,3] (c 21 96 [17,20]),a [4] (m 16 21),a [5] (x 22 0 16),a [5] (x 23 1 16),a [6,4,0,1,2,3,4,5,6] (m 8 22),a [7,8,0,1,2,3,4,5,6,7,8] (m 9 23)]) (.seq (r 5 [m 24 8,m 25 9,m 4 24,m 5 25,n 6 O]) .ret)))
def Zn2:List RRes:=[.t 4,.t 5,.t 6]
theorem Zn3:PCt Tryz.prog 37 Tryz.f37 Zn1 Zn2:=pcT Tryz.func37 rfl (by kernel_rfl) (by kernel_rfl) (by kernel_rfl)
open Qq in
def Zn4:RCode :=
 .seq (r 0 [b 2 0,n 4 .nils,n 5 O]) (.seq (.seq (r 1 [L 12 4 2,m 13 1,w 14 (.call 92 [.t 12,.t 13,.c I]),m 6 14]) (.seq (r 2 [m 15 6,k 16 .neq 15 O]) (.cond (.t 16) (.seq (r 3 [m 17 6,n 4 .nils,m 5 17]) .ret) .skip))) (.seq (r 4 [L 18 4 2,m 19 1,c 20 94 [18,19],m 7 20]) (.seq (r 5 [L 22 4 2,m 23 7,c 24 96 [22,23],m 21 24,x 25 0 21,x 26 1 21,m 8 25,m 9 26]) (.seq (r 6 [L 28 4 2,m 29 7,m 30 8,e 31 30,m 32 9,e 33 32,o 34 .add 31 33,w 35 (.call 99 [.t 28,.t 29,.c O,.t 34,.c .nils]),m 27 35,x 36 0 27,x 37 1 27,m 10 36,m 11 37]) (.seq (r 7 [L 38 4 2,m 39 10,c 40 93 [38,39],m 4 40,n 5 O]) .ret)))))
def Zn5:List RRes:=[.t 4,.t 5]
theorem Zn6:PCt Tryz.prog 39 Tryz.f39 Zn4 Zn5:=pcT Tryz.func39 rfl (by kernel_rfl) (by kernel_rfl) (by kernel_rfl)
open Qq in
def Zn7:RCode :=
 .seq (r 0 [b 2 0,n 4 .nils,n 5 .nils,n 6 O]) (.seq (r 1 [L 10 4 2,m 11 1,w 12 (.call 89 [.t 10,.t 11,.c I]),m 9 12,x 13 0 9,x 14 1 9,m 7 13,m 6 14]) (.seq (.seq (r 2 [m 15 6,k 16 .neq 15 O]) (.cond (.t 16) (.seq (r 3 [m 17 6,n 4 .nils,n 5 .nils,m 6 17]) .ret) .skip)) (.seq (r 4 [m 18 7,m 19 7,m 20 1,c 21 91 [19,20],c 22 95 [18,21],w 8 (.alloc [.nils,.nils]),s 2 8 22]) (.seq (R 5 [f 23 0 8,a [0] (l 24 23),f 25 1 8,a [2] (l 26 25),a [1,0,1] (m 4 24),a [3,4,0,1,2,3,4] (m 5 26),a [5,0,1,2,3,4,5] (n 6 O)]) .ret))))
def Zn8:List RRes:=[.t 4,.t 5,.t 6]
theorem Zn9:PCt Tryz.prog 36 Tryz.f36 Zn7 Zn8:=pcT Tryz.func36 rfl (by kernel_rfl) (by kernel_rfl) (by kernel_rfl)
open Qq in
def Zna:RCode :=
 .seq (r 0 [b 2 0,n 4 .nils,n 5 O]) (.seq (r 1 [L 10 4 2,m 11 1,w 12 (.call 89 [.t 10,.t 11,.c I]),m 9 12,x 13 0 9,x 14 1 9,m 6 13,m 7 14]) (.seq (.seq (r 2 [m 15 7,k 16 .neq 15 O]) (.cond (.t 16) (.seq (r 3 [m 17 7,n 4 .nils,m 5 17]) .ret) .skip)) (.seq (r 4 [m 18 6,m 19 1,c 20 91 [18,19],m 8 20]) (.seq (r 5 [m 21 8,m 22 6,m 23 8,c 24 95 [22,23],c 25 98 [24],w 26 (.call 97 [.t 21,.t 25,.c .nils]),c 27 90 [26],m 4 27,n 5 O]) .ret))))
def Znb:List RRes:=[.t 4,.t 5]
theorem Znc:PCt Tryz.prog 38 Tryz.f38 Zna Znb:=pcT Tryz.func38 rfl (by kernel_rfl) (by kernel_rfl) (by kernel_rfl)
open Qq in
def Znd:RCode :=
 .seq (r 0 [b 2 0,n 4 (.bool false)]) (.seq (.seq (r 1 [L 20 4 2,c 21 17 [20]]) (.cond (.t 21) (.seq (r 2 [n 4 (.bool true)]) .ret) .skip)) (.seq (r 3 [L 22 4 2,c 23 18 [22],w 5 (.alloc [.nils,.nils,.nils,.nils]),s 4 5 23]) (.seq (r 4 [L 25 4 5,m 26 1,c 27 34 [25,26],m 24 27,x 28 0 24,x 29 1 24,m 6 28,m 7 29]) (.seq (r 5 [L 31 4 2,m 32 1,c 33 35 [31,32],m 30 33,x 34 0 30,x 35 1 30,m 8 34,m 9 35]) (.seq (r 6 [L 37 4 5,m 38 1,c 39 36 [37,38],m 36 39,x 40 0 36,x 41 1 36,x 42 2 36,m 10 40,m 11 41,m 12 42]) (.seq (r 7 [L 44 4 2,m 45 1,c 46 37 [44,45],m 43 46,x 47 0 43,x 48 1 43,x 49 2 43,m 13 47,m 14 48,m 15 49]) (.seq (r 8 [L 51 4 5,m 52 1,c 53 38 [51,52],m 50 53,x 54 0 50,x 55 1 50,m 16 54,m 17 55]) (.seq (r 9 [L 57 4 2,m 58 1,c 59 39 [57,58],m 56 59,x 60 0 56,x 61 1 56,m 18 60,m 19 61]) (.seq (r 10 [m 62 6,m 63 8,c 64 25 [62,63],m 65 64,g 65 true (m 66 7),g 65 true (m 67 9),g 65 true (o 68 .eql 66 67),v 69 65 68,m 70 69,g 70 true (m 71 10),g 70 true (m 72 13),g 70 true (c 73 25 [71,72]),v 74 70 73,m 75 74,g 75 true (m 76 11),g 75 true (m 77 14),g 75 true (c 78 25 [76,77]),v 79 75 78,m 80 79,g 80 true (m 81 12),g 80 true (m 82 15),g 80 true (o 83 .eql 81 82),v 84 80 83,m 85 84,g 85 true (m 86 16),g 85 true (m 87 18),g 85 true (c 88 25 [86,87]),v 89 85 88,m 90 89,g 90 true (m 91 17),g 90 true (m 92 19),g 90 true (o 93 .eql 91 92),v 94 90 93,m 95 94,g 95 true (L 96 4 5),g 95 true (L 97 4 2),g 95 true (c 98 26 [96,97]),v 99 95 98,m 4 99]) .ret)))))))))
def Zne:List RRes:=[.t 4]
theorem Znf:PCt Tryz.prog 5 Tryz.f5 Znd Zne:=pcT Tryz.func5 rfl (by kernel_rfl) (by kernel_rfl) (by kernel_rfl)
def ndK (dl:List Int) (L:List Prt) (A:List Int) (j:Nat):List Int:=(dl.take j).filter λd=>L.any λx=>decide (x.dw=d) && !A.contains x.ho
theorem Zng (dl:List Int) (L:List Prt) (A:List Int):ndK dl L A dl.length=ndL dl L A:=by unfold ndK ndL;rw[W0v]
theorem Znh {dl:List Int} {L:List Prt} {A:List Int} {j:Nat} (h:j<dl.length):ndK dl L A (j+1)=if (L.any λx=>decide (x.dw=dl[j]) && !A.contains x.ho)=true then ndK dl L A j++[dl[j]] else ndK dl L A j:=by
 unfold ndK;rw[W08 h,W1a];generalize hb:(L.any λx=>decide (x.dw=dl[j]) && !A.contains x.ho)=b
 cases b <;> simp only[List.filter_cons,List.filter_nil,hb] <;> simp
theorem Zni {dl:List Int} {L:List Prt} {A:List Int} {j:Nat}:(ndK dl L A j).length<=j:=by
 unfold ndK;exact W0O (W0D ..) (by simp;omega)
def c7T (B:List AV) (I:List Int) (VH VD:AV) (v:Nat):List (Nat×AV):=[(9,.int .i64 v),(8,.bool (decide (0<v))),(7,VD),(6,VH),(2,.ptr 2 0),(1,.vsl (I.map ia))]
def c7S (B:List AV) (I:List Int) (b:List Int×List Int) (v:Nat):St:=⟨c7T B I (.vsl (b.1.map ia)) (.vsl (b.2.map ia)) v,[(2,.box B)]⟩
def c7H (B:List AV) (I:List Int) (VH VD:AV) (v:Nat) (A:List Int) (j:Nat):St:=⟨(12,.int .i64 j)::(11,.nils)::(10,nlV 48 A)::c7T B I VH VD v,(2,.box B)::nlO 48 A⟩
def c7D (B:List AV) (I:List Int) (VH VD:AV) (v:Nat) (VA:AV) (dl U:List Int) (j:Nat):St:=⟨(14,.int .i64 j)::(13,.vsl (dl.map ia))::(11,nlV 98 U)::(10,VA)::c7T B I VH VD v,(2,.box B)::nlO 98 U⟩
def c7F (B:List AV) (I:List Int) (VH VD:AV) (v:Nat) (VA VU:AV) (Q:List (Nat×AObj)) (dl:List Int) (e:Bool) (j q:Nat):St:=⟨(16,.int .i64 q)::(15,.bool e)::(14,.int .i64 j)::(13,.vsl (dl.map ia))::(11,VU)::(10,VA)::c7T B I VH VD v,(2,.box B)::Q⟩
theorem Ym.nilv {st:St} (n:Nat) (h:st.tmp n=some .nils):Ym st (st.put n (.vsl [])):=by
 rintro R a W ⟨κ,hk⟩;refine ⟨κ,{ hk with tm:=λm x hx=>?_ }⟩;rw[St.tmp_put]at hx
 split at hx
 . rename_i e;subst e
   cases hx
   have hv:=hk.tm n _ h;generalize a.tmps.getD n Go.undef=u at *
   cases hv with
   |pv hv=>exact .pv (Nsub.nils _ _ _ hv)
 . exact hk.tm m x hx
section
variable {G:Nat->Option (List AV)}
set_option maxHeartbeats 8000000 in
theorem Znj (r:List Iss) (l:List Nte) (hs:List Hld) (ps:List Prt) (I:List Int) (hr:Wf r) (hne:r≠[]) (hd:Sml (nums r)) (h6:hs.length<=6) (hp:ps.length<=41) (hI:∀ x∈I,∃ k:Nat,k<ps.length/\x=k) (hl:I.length<=100) :
  PC Tryz.prog G 96 [prA r l hs ps,.vsl (I.map ia)] (.tup [.vsl ((caE (hs.map (·.id)) (nums r) (I.map λx=>pAt ps x.toNat)).1.map ia),.vsl ((caE (hs.map (·.id)) (nums r) (I.map λx=>pAt ps x.toNat)).2.map ia)]):=by
 have cN:=Zav (G:=G) r hr.1.1 hne;rw[rega]at cN;have sh:=shU7 (n:=hs.length) (by omega);have hpw:=pow6 (n:=hs.length) h6;unfold Sml at hd;obtain ⟨ids,hids⟩ : ∃ ids,ids=hs.map (·.id):=⟨_,rfl⟩;have lids:ids.length=hs.length:=(by rw[hids];simp);have gid:∀ i (h:i<hs.length),ids.getD i 0=hs[i].id:=λi h=>by rw[hids,W0j,W09,W07 h];rfl
 rw[<- hids];obtain ⟨L,hL⟩ : ∃ L,L=I.map λx=>pAt ps x.toNat:=⟨_,rfl⟩
 rw[<- hL];have hLl:L.length=I.length:=by rw[hL];simp
 have hLg:∀ q (h:q<I.length),∃ k,∃ hk:k<ps.length,I[q]=(k:Int)/\L[q]'(by omega)=ps[k]:=λq h=>by
  obtain ⟨k,hk,e⟩:=hI _ (W0e h);refine ⟨k,hk,e,?_⟩;simp only[hL,W1w,e];rw[show ((k:Int)).toNat=k by omega,ZiF hk]
 obtain ⟨dl,hdl⟩ : ∃ dl,dl=nums r:=⟨_,rfl⟩;rw[<- hdl]at cN hd ⊢;obtain ⟨P,hP⟩ : ∃ P,P=plE ids dl L:=⟨_,rfl⟩;have hPl:P.length=2 ^ hs.length:=by rw[hP,Zmz,lids]
 have hPv:∀ v,v<2 ^ hs.length->P.getD v ([],[])=(sbT ids v,ndL dl L (sbT ids v)):=λv hv=>by
  rw[hP,plE,W0j,W09,W0L (by rw[lids];exact hv)];simp only[W0m,W0P,plN,Ziz]
 rw[<- ZmB,<- hP]
 have hfb:∀ k,k<=P.length->(fsK P k).1.length<=6/\(fsK P k).2.length<=dl.length:=λk hk=>by
  rcases Zmw (P:=P) k hk with h|h
  . rw[h];simp
  . obtain ⟨v,hv,e⟩:=W0k h;have e2:=hPv v (by omega);rw[W0j,W07 hv,e]at e2;simp only[W0P]at e2;rw[e2];refine ⟨?_,W0D ..⟩;have:=Zh3 ids v ids.length;show (sbN ids v ids.length).length<=6;omega
 obtain ⟨k,hk⟩ : ∃ k,k=2 ^ hs.length:=⟨_,rfl⟩;rw[<- hk]at hpw sh hPl hPv;rw[hPl];obtain ⟨B,hB'⟩ : ∃ B:List AV,B=[.vsl (r.map isa),.vsl (l.map na),.vsl (hs.map hoa),.vsl (ps.map ptA)]:=⟨_,rfl⟩;have b0:B[0]? = some (.vsl (r.map isa)):=(by rw[hB'];rfl);have b2:B[2]? = some (.vsl (hs.map hoa)):=(by rw[hB'];rfl);have b3:B[3]? = some (.vsl (ps.map ptA)):=(by rw[hB'];rfl);have bK:∀ o:List (Nat×AObj),Yc o (.box B)=true:=λo=>by rw[hB'];simp[Yc,Ya,AV.keys]
 have bF:∀ ok st,frzO ok st (.box B) = .box B:=λok st=>by rw[hB'];simp[frzO,frzA,frz,AV.keys]
 have c3:=λA n h=>ZkP (G:=G) A n h
 have cB:=λa b h=>Zmo (G:=G) a b h
 unfold prA;refine Zn0 rfl λR hG' hrd=>?_
 subst hG';refine Qga ?_;simp -implicitDefEqProofs[ZmY,ZmZ];rw[<- hB'];refine Za9 (λv=>c7S B I (fsK P v) v) (λ_=>True) k ?_ trivial ?_ ?_
 . have e0:fsK P 0=([],[]):=rfl;refine Ym.trans (Ym.nilv 6 (by simp[St.tmp,lk])) (Ym.trans (Ym.nilv 7 (by simp[St.tmp,lk,St.put])) ?_);simp only[c7S,c7T,e0,St.put,W1d]
   ((try simp only[ia]);refine Ym.sub (by simp[lk,Ya,AV.keys,ia]) ?_;simp only[ia,Wkl,bK,and_true];(try simp[lk,Yc,Ya,AV.keys,ia]))
 . intro v hv _;have wv:IntKind.i64.wrap ((v:Int)+1)=(v:Int)+1:=Yf (by omega) (by omega);have hPv:=hPv v hv;have sc:fsK P (v+1)=if v=0∨btB (P.getD v ([],[])) (fsK P v)=true then P.getD v ([],[]) else fsK P v:=rfl
   obtain ⟨g1,g2⟩:=hfb v (by omega);rw[hPv]at sc;obtain ⟨b',hb'⟩ : ∃ b',b'=fsK P (v+1):=⟨_,rfl⟩;obtain ⟨b,hb⟩ : ∃ b,b=fsK P v:=⟨_,rfl⟩;have hw0:c7S B I (fsK P v) v=⟨c7T B I (.vsl (b.1.map ia)) (.vsl (b.2.map ia)) v,[(2,.box B)]⟩:=(by rw[c7S,<- hb]);have hw9:c7S B I (fsK P (v+1)) (v+1)=⟨c7T B I (.vsl (b'.1.map ia)) (.vsl (b'.2.map ia)) (v+1),[(2,.box B)]⟩:=(by rw[c7S,<- hb']);obtain ⟨S9,hS9⟩ : ∃ S9,S9=c7S B I (fsK P (v+1)) (v+1):=⟨_,rfl⟩;rw[<- hb]at sc g1 g2;rw[<- hb']at sc;rw[<- hS9]at hw9;clear hP;obtain ⟨A,hA⟩ : ∃ A,A=sbT ids v:=⟨_,rfl⟩
   have hA6:A.length<=6:=by
    rw[hA];have:=Zh3 ids v ids.length;show (sbN ids v ids.length).length<=6;omega
   rw[<- hA]at sc hPv;refine Qga ?_;show GO _ _ _ _ _ _ (c7S B I (fsK P v) v);rw[hw0];simp -implicitDefEqProofs[c7T,b2,hv,sh];refine Za9 (λj=>c7H B I (.vsl (b.1.map ia)) (.vsl (b.2.map ia)) v (sbN ids v j) j) (λ_=>True) hs.length ?_ trivial ?_ ?_
   . have e0:sbN ids v 0=[]:=rfl;simp only[c7H,c7T,e0,nlV,nlO,if_true]
     ((try simp only[ia]);refine Ym.sub (by simp[lk,Ya,AV.keys,ia]) ?_;simp only[ia,Wkl,bK,and_true];(try simp[lk,Yc,Ya,AV.keys,ia]))
   . intro j hj _;have wj:IntKind.i64.wrap ((j:Int)+1)=(j:Int)+1:=Yf (by omega) (by omega);have s1:sbN ids v (j+1)=if v / 2 ^ j % 2=1 then sbN ids v j++[ids.getD j 0] else sbN ids v j:=rfl
     have hle:=Zh3 ids v j;have bU:=bitU (v:=v) (i:=j) (by omega) (by omega);rw[gid j hj]at s1;obtain ⟨h,hh⟩ : ∃ h,h=hs[j]:=⟨_,rfl⟩;rw[<- hh]at s1;have hlh:hs[j]=h:=hh.symm;have hho:hoa h=[.int .i64 h.id,.int .i64 h.fr,.int .i64 h.to,.vsl (h.ds.map ia)]:=rfl;obtain ⟨C',hC'⟩ : ∃ C',C'=sbN ids v (j+1):=⟨_,rfl⟩;obtain ⟨C,hC⟩ : ∃ C,C=sbN ids v j:=⟨_,rfl⟩;have hw1:c7H B I (.vsl (b.1.map ia)) (.vsl (b.2.map ia)) v (sbN ids v j) j=⟨(12,.int .i64 j)::(11,.nils)::(10,nlV 48 C)::c7T B I (.vsl (b.1.map ia)) (.vsl (b.2.map ia)) v,(2,.box B)::nlO 48 C⟩:=(by rw[c7H,<- hC]);have hw2:c7H B I (.vsl (b.1.map ia)) (.vsl (b.2.map ia)) v (sbN ids v (j+1)) (j+1)=⟨(12,.int .i64 (j+1:Nat))::(11,.nils)::(10,nlV 48 C')::c7T B I (.vsl (b.1.map ia)) (.vsl (b.2.map ia)) v,(2,.box B)::nlO 48 C'⟩:=(by rw[c7H,<- hC']);rw[<- hC',<- hC]at s1;rw[<- hC]at hle;have bb:(C.length+1)*8<=70368744177664:=(by omega);show AR _ _ _ (c7H B I (.vsl (b.1.map ia)) (.vsl (b.2.map ia)) v (sbN ids v j) j) _;rw[hw1];by_cases cC:C=[]
     case' pos =>
      have hV:nlV 48 C = .nils:=(by simp[nlV,cC]);have hQ:nlO 48 C=[]:=by simp[nlO,cC]
     case' neg =>
      have hV:nlV 48 C = .osl 48 C.length:=(by simp[nlV,cC]);have hQ:nlO 48 C=[(48,.row 1 (C.map ia))]:=by simp[nlO,cC]
     all_goals
      refine Qga ?_;by_cases q:v / 2 ^ j % 2=1
      case neg =>
       rw[if_neg q]at s1 bU;simp -implicitDefEqProofs[c7T,hV,hQ,b2,hj,hlh,hho,bU,wj];rw[hw2,s1,hV,hQ];simp only[c7T]
       ((try simp only[ia]);refine Ym.sub (by simp[lk,Ya,AV.keys,ia]) ?_;simp only[ia,Wkl,bK,Zfv,and_true];(try simp[lk,Yc,Ya,AV.keys,ia]))
      rw[if_pos q]at s1 bU;have hne:¬C'=[]:=(by rw[s1];simp);have hV2:nlV 48 C' = .osl 48 (C.length+1):=(by rw[nlV,if_neg hne,s1];simp);have hQ2:nlO 48 C'=[(48,.row 1 (C.map ia++[[.int .i64 h.id]]))]:=by rw[nlO,if_neg hne,s1,W0r];rfl
      have iak:∀ o:List (Nat×AObj),Yc o (.row 1 (C.map ia++[[.int .i64 h.id]]))=true:=λo=>by
       have:=Zfv o (C++[h.id])
       rwa [W0r]at this
      simp -implicitDefEqProofs[c7T,hV,hQ,b2,hj,hlh,hho,bU,bb,wj];rw[hw2,hV2,hQ2];simp only[c7T]
      ((try simp only[ia,cC]);refine Ym.sub (by simp[lk,Ya,AV.keys,ia,cC]) ?_;simp only[ia,cC,Wkl,bK,iak,and_true];(try simp[lk,Yc,Ya,AV.keys,ia,cC]))
   intro _;have e1:sbN ids v hs.length=A:=by rw[hA,sbT,lids]
   have wk48:Ym (c7H B I (.vsl (b.1.map ia)) (.vsl (b.2.map ia)) v (sbN ids v hs.length) hs.length) ⟨(12,.int .i64 hs.length)::(11,.nils)::(10,.vsl (A.map ia))::c7T B I (.vsl (b.1.map ia)) (.vsl (b.2.map ia)) v,[(2,.box B)]⟩:=by
    rw[c7H,e1];by_cases cA:A=[]
    . have hV:nlV 48 A = .nils:=(by simp[nlV,cA]);have hQ:nlO 48 A=[]:=(by simp[nlO,cA]);rw[hV,hQ,cA];refine Ym.trans (Ym.nilv 10 (by simp[St.tmp,lk])) ?_;simp only[c7T,St.put,W1d]
      ((try simp only[ia]);refine Ym.sub (by simp[lk,Ya,AV.keys,ia]) ?_;simp only[ia,Wkl,bK,and_true];(try simp[lk,Yc,Ya,AV.keys,ia]))
    . have hV:nlV 48 A = .osl 48 A.length:=(by simp[nlV,cA]);have hQ:nlO 48 A=[(48,.row 1 (A.map ia))]:=(by simp[nlO,cA]);refine Ym.trans (Ym.frz (λk=>k == 48) _) ?_;simp only[hV,hQ,c7T]
      ((try simp only[Yi,frzA,frz,Yh,Yj,St.get,AV.pure,ia,bF]);refine Ym.sub (by simp[lk,Ya,AV.keys,Yi,frzA,frz,Yh,Yj,St.get,AV.pure,ia,bF]) ?_;simp only[Yi,frzA,frz,Yh,Yj,St.get,AV.pure,ia,bF,Wkl,bK,and_true];(try simp[lk,Yc,Ya,AV.keys,Yi,frzA,frz,Yh,Yj,St.get,AV.pure,ia,bF]))
   refine Z2R wk48 ?_;have c3:=λn=>c3 A n (by unfold Sml;omega)
   refine Qga ?_;have bt:B.take 1=[.vsl (r.map isa)]:=(by rw[hB'];rfl);have b1:1<=B.length:=(by rw[hB'];simp);simp -implicitDefEqProofs[c7T,b2];refine Qgr ?_;simp -implicitDefEqProofs[b0,bt,b1];refine Yd.of cN (by simp[AV.pure,isa]) ?_;simp -implicitDefEqProofs[];refine Za9 (λj=>c7D B I (.vsl (b.1.map ia)) (.vsl (b.2.map ia)) v (.vsl (A.map ia)) dl (ndK dl L A j) j) (λ_=>True) dl.length ?_ trivial ?_ ?_
   . have e0:ndK dl L A 0=[]:=rfl;simp only[c7D,c7T,e0,nlV,nlO,if_true]
     ((try simp only[ia]);refine Ym.sub (by simp[lk,Ya,AV.keys,ia]) ?_;simp only[ia,Wkl,bK,and_true];(try simp[lk,Yc,Ya,AV.keys,ia]))
   . intro j hj _;have wj:IntKind.i64.wrap ((j:Int)+1)=(j:Int)+1:=Yf (by omega) (by omega);have sn:=Znh (L:=L) (A:=A) hj;have hle:=Zni (dl:=dl) (L:=L) (A:=A) (j:=j);obtain ⟨d,hde⟩ : ∃ d,d=dl[j]:=⟨_,rfl⟩;rw[<- hde]at sn;have hld:dl[j]=d:=hde.symm;obtain ⟨U',hU'⟩ : ∃ U',U'=ndK dl L A (j+1):=⟨_,rfl⟩;obtain ⟨U,hU⟩ : ∃ U,U=ndK dl L A j:=⟨_,rfl⟩;have hw1:c7D B I (.vsl (b.1.map ia)) (.vsl (b.2.map ia)) v (.vsl (A.map ia)) dl (ndK dl L A j) j=⟨(14,.int .i64 j)::(13,.vsl (dl.map ia))::(11,nlV 98 U)::(10,.vsl (A.map ia))::c7T B I (.vsl (b.1.map ia)) (.vsl (b.2.map ia)) v,(2,.box B)::nlO 98 U⟩:=(by rw[c7D,<- hU]);have hw2:c7D B I (.vsl (b.1.map ia)) (.vsl (b.2.map ia)) v (.vsl (A.map ia)) dl (ndK dl L A (j+1)) (j+1)=⟨(14,.int .i64 (j+1:Nat))::(13,.vsl (dl.map ia))::(11,nlV 98 U')::(10,.vsl (A.map ia))::c7T B I (.vsl (b.1.map ia)) (.vsl (b.2.map ia)) v,(2,.box B)::nlO 98 U'⟩:=(by rw[c7D,<- hU']);obtain ⟨S2,hS2⟩ : ∃ S2,S2=c7D B I (.vsl (b.1.map ia)) (.vsl (b.2.map ia)) v (.vsl (A.map ia)) dl (ndK dl L A (j+1)) (j+1):=⟨_,rfl⟩;rw[<- hS2]at hw2;rw[<- hU',<- hU]at sn;rw[<- hU]at hle;have bb:(U.length+1)*8<=70368744177664:=by omega
     obtain ⟨tI,t0,t1,t2⟩ : ∃ t:Nat->Bool,t 0=false/\(∀ q (hq:q<I.length),t (q+1)=(t q||(decide ((L[q]'(by omega)).dw=d) && !A.contains (L[q]'(by omega)).ho)))/\t I.length=L.any λx=>decide (x.dw=d) && !A.contains x.ho :=
      ⟨λq=>(L.take q).any λx=>decide (x.dw=d) && !A.contains x.ho,by simp,λq hq=>by simp only[W08 (show q<L.length by omega),W2h];simp,by simp only[<- hLl,W0v]⟩
     show AR _ _ _ (c7D B I (.vsl (b.1.map ia)) (.vsl (b.2.map ia)) v (.vsl (A.map ia)) dl (ndK dl L A j) j) _;rw[hw1];by_cases cU:U=[]
     case' pos =>
      have hV:nlV 98 U = .nils:=(by simp[nlV,cU]);have hQ:nlO 98 U=[]:=by simp[nlO,cU]
     case' neg =>
      have hV:nlV 98 U = .osl 98 U.length:=(by simp[nlV,cU]);have hQ:nlO 98 U=[(98,.row 1 (U.map ia))]:=by simp[nlO,cU]
     all_goals
      refine Qga ?_;simp -implicitDefEqProofs[c7T,hV,hQ,hj];refine Za9 (λq=>c7F B I (.vsl (b.1.map ia)) (.vsl (b.2.map ia)) v (.vsl (A.map ia)) (nlV 98 U) (nlO 98 U) dl (tI q) j q) (λ_=>True) I.length ?_ trivial ?_ ?_
      . simp only[c7F,c7T,t0,hV,hQ]
        ((try simp only[ia]);refine Ym.sub (by simp[lk,Ya,AV.keys,ia]) ?_;simp only[ia,Wkl,bK,Zfv,and_true];(try simp[lk,Yc,Ya,AV.keys,ia]))
      . intro q hq _;have wq:IntKind.i64.wrap ((q:Int)+1)=(q:Int)+1:=Yf (by omega) (by omega);have tt:=t1 q hq;obtain ⟨k2,hk2,ek,eL⟩:=hLg q hq;rw[eL]at tt;obtain ⟨y,hy⟩ : ∃ y,y=ps[k2]:=⟨_,rfl⟩;rw[<- hy]at tt;have hly:ps[k2]=y:=hy.symm;have hpt:ptA y=[.int .i64 y.no,.int .i64 y.dy,.int .i64 y.ho,.int .i64 y.dw,.int .i64 y.lt,.int .i64 y.bk,.int .u8 y.lo]:=rfl;have c3:=c3 y.ho;refine Qga ?_
        cases e:tI q
        case true =>
         rw[e,Bool.true_or]at tt;simp -implicitDefEqProofs[c7F,c7T,e,hV,hQ,hq,ia,ek,b3,hk2,hly,hpt,wq];refine ⟨rfl,rfl,?_⟩;simp only[tt]
         ((try simp only[ia,hpt]);refine Ym.sub (by simp[lk,Ya,AV.keys,ia,hpt]) ?_;simp only[ia,hpt,Wkl,bK,Zfv,and_true];(try simp[lk,Yc,Ya,AV.keys,ia,hpt]))
        rw[e,W1P]at tt;by_cases p1:y.dw=d
        case neg =>
         simp only[p1,W1x,W1L]at tt;simp -implicitDefEqProofs[c7F,c7T,e,hV,hQ,hq,ia,ek,b3,hk2,hly,hpt,hj,hld,p1,wq];refine ⟨rfl,rfl,?_⟩;simp only[tt]
         ((try simp only[ia,hpt]);refine Ym.sub (by simp[lk,Ya,AV.keys,ia,hpt]) ?_;simp only[ia,hpt,Wkl,bK,Zfv,and_true];(try simp[lk,Yc,Ya,AV.keys,ia,hpt]))
        simp only[p1,W1i,W1k]at tt;simp -implicitDefEqProofs[c7F,c7T,e,hV,hQ,hq,ia,ek,b3,hk2,hly,hpt,hj,hld,p1];refine ⟨rfl,?_⟩;refine Ye.of c3 (by simp[AV.pure,ia]) ?_;by_cases p2:y.ho∈A
        . have p3:A.contains y.ho=true:=(by simpa using p2);rw[p3,W17]at tt;simp -implicitDefEqProofs[p2,wq];refine ⟨rfl,?_⟩;simp only[tt]
          ((try simp only[ia,hpt,p1]);refine Ym.sub (by simp[lk,Ya,AV.keys,ia,hpt,p1]) ?_;simp only[ia,hpt,p1,Wkl,bK,Zfv,and_true];(try simp[lk,Yc,Ya,AV.keys,ia,hpt,p1]))
        . have p3:A.contains y.ho=false:=(by simpa using p2);rw[p3,W1F]at tt;simp -implicitDefEqProofs[p2,wq];refine ⟨rfl,?_⟩;simp only[tt]
          ((try simp only[ia,hpt,p1]);refine Ym.sub (by simp[lk,Ya,AV.keys,ia,hpt,p1]) ?_;simp only[ia,hpt,p1,Wkl,bK,Zfv,and_true];(try simp[lk,Yc,Ya,AV.keys,ia,hpt,p1]))
      . intro _;refine Qga ?_
        cases ht:L.any λx=>decide (x.dw=d) && !A.contains x.ho
        . rw[ht]at t2 sn;have sn:U'=U:=(by rw[sn];simp);simp -implicitDefEqProofs[c7F,c7T,t2,hV,hQ];refine Qgr ?_;simp -implicitDefEqProofs[wj];rw[<- hS2,hw2,sn,hV,hQ];simp only[c7T]
          ((try simp only[ia]);refine Ym.sub (by simp[lk,Ya,AV.keys,ia]) ?_;simp only[ia,Wkl,bK,Zfv,and_true];(try simp[lk,Yc,Ya,AV.keys,ia]))
        . rw[ht]at t2 sn;have sn:U'=U++[d]:=(by rw[sn];simp);have hne:¬U'=[]:=(by rw[sn];simp);have hV2:nlV 98 U' = .osl 98 (U.length+1):=(by rw[nlV,if_neg hne,sn];simp);have hQ2:nlO 98 U'=[(98,.row 1 (U.map ia++[[.int .i64 d]]))]:=by rw[nlO,if_neg hne,sn,W0r];rfl
          have iak:∀ o:List (Nat×AObj),Yc o (.row 1 (U.map ia++[[.int .i64 d]]))=true:=λo=>by
           have:=Zfv o (U++[d])
           rwa [W0r]at this
          simp -implicitDefEqProofs[c7F,c7T,t2,hV,hQ];refine Qgr ?_;simp -implicitDefEqProofs[wj,hj,hld,ia,bb];rw[<- hS2,hw2,hV2,hQ2];simp only[c7T]
          ((try simp only[ia,cU]);refine Ym.sub (by simp[lk,Ya,AV.keys,ia,cU]) ?_;simp only[ia,cU,Wkl,bK,iak,and_true];(try simp[lk,Yc,Ya,AV.keys,ia,cU]))
   intro _;have e2:ndK dl L A dl.length=ndL dl L A:=Zng dl L A;have hUl:(ndL dl L A).length<=dl.length:=W0D ..
   have wk98:Ym (c7D B I (.vsl (b.1.map ia)) (.vsl (b.2.map ia)) v (.vsl (A.map ia)) dl (ndK dl L A dl.length) dl.length) ⟨(14,.int .i64 dl.length)::(13,.vsl (dl.map ia))::(11,.vsl ((ndL dl L A).map ia))::(10,.vsl (A.map ia))::c7T B I (.vsl (b.1.map ia)) (.vsl (b.2.map ia)) v,[(2,.box B)]⟩:=by
    rw[c7D,e2];generalize ndL dl L A=U;by_cases cU:U=[]
    . have hV:nlV 98 U = .nils:=(by simp[nlV,cU]);have hQ:nlO 98 U=[]:=(by simp[nlO,cU]);rw[hV,hQ,cU];refine Ym.trans (Ym.nilv 11 (by simp[St.tmp,lk])) ?_;simp only[c7T,St.put,W1d]
      ((try simp only[ia]);refine Ym.sub (by simp[lk,Ya,AV.keys,ia]) ?_;simp only[ia,Wkl,bK,and_true];(try simp[lk,Yc,Ya,AV.keys,ia]))
    . have hV:nlV 98 U = .osl 98 U.length:=(by simp[nlV,cU]);have hQ:nlO 98 U=[(98,.row 1 (U.map ia))]:=(by simp[nlO,cU]);refine Ym.trans (Ym.frz (λk=>k == 98) _) ?_;simp only[hV,hQ,c7T]
      ((try simp only[Yi,frzA,frz,Yh,Yj,St.get,AV.pure,ia,bF]);refine Ym.sub (by simp[lk,Ya,AV.keys,Yi,frzA,frz,Yh,Yj,St.get,AV.pure,ia,bF]) ?_;simp only[Yi,frzA,frz,Yh,Yj,St.get,AV.pure,ia,bF,Wkl,bK,and_true];(try simp[lk,Yc,Ya,AV.keys,Yi,frzA,frz,Yh,Yj,St.get,AV.pure,ia,bF]))
   refine Z2R wk98 ?_;generalize ndL dl L A=U at *;have wa:IntKind.i64.wrap ((A.length:Int)+(U.length:Int))=(A.length:Int)+(U.length:Int):=Yf (by omega) (by omega);have wb:IntKind.i64.wrap ((b.1.length:Int)+(b.2.length:Int))=(b.1.length:Int)+(b.2.length:Int):=Yf (by omega) (by omega);have cB:=cB A b.1 (by unfold Sml;omega);have vp:0<v+1:=(by omega);have hz:szP (A,U)=A.length+U.length:=rfl;have hzb:szP b=b.1.length+b.2.length:=rfl;refine Qga ?_;by_cases v0:v=0
   . have hv0:¬0<v:=(by omega);have sc:b'=(A,U):=(by rw[sc,if_pos (.inl v0)]);simp -implicitDefEqProofs[c7T,hv0];refine Qgr ?_;simp -implicitDefEqProofs[wa,wb,wv];rw[<- hS9,hw9,sc];simp only[c7T]
     ((try simp only[ia,vp]);refine Ym.sub (by simp[lk,Ya,AV.keys,ia,vp]) ?_;simp only[ia,vp,Wkl,bK,and_true];(try simp[lk,Yc,Ya,AV.keys,ia,vp]))
   have hv0:0<v:=(by omega);rcases W0R (szP (A,U)) (szP b) with c|c|c
   . have sc:b'=(A,U):=(by rw[sc,if_pos (.inr (by simp[btB,c]))]);have c2:(A.length:Int)+U.length<b.1.length+b.2.length:=(by rw[hz,hzb]at c;omega);simp -implicitDefEqProofs[c7T,hv0];refine Qgr ?_;simp -implicitDefEqProofs[wa,wb,wv,c2];rw[<- hS9,hw9,sc];simp only[c7T]
     ((try simp only[ia,vp]);refine Ym.sub (by simp[lk,Ya,AV.keys,ia,vp]) ?_;simp only[ia,vp,Wkl,bK,and_true];(try simp[lk,Yc,Ya,AV.keys,ia,vp]))
   . have c2:¬(A.length:Int)+U.length<b.1.length+b.2.length:=(by rw[hz,hzb]at c;omega);have c4:(A.length:Int)+U.length=b.1.length+b.2.length:=(by rw[hz,hzb]at c;omega);simp -implicitDefEqProofs[c7T,hv0];refine Qgr ?_;simp -implicitDefEqProofs[wa,wb,wv,c2,c4];refine Yd.of cB (by simp[AV.pure,ia]) ?_
     cases hf:bfr A b.1
     . have sc:b'=b:=(by rw[sc,if_neg (by simp[btB,c,hf,v0])]);simp -implicitDefEqProofs[wv];rw[<- hS9,hw9,sc];simp only[c7T]
       ((try simp only[ia,vp,hv0]);refine Ym.sub (by simp[lk,Ya,AV.keys,ia,vp,hv0]) ?_;simp only[ia,vp,hv0,Wkl,bK,and_true];(try simp[lk,Yc,Ya,AV.keys,ia,vp,hv0]))
     . have sc:b'=(A,U):=(by rw[sc,if_pos (.inr (by simp[btB,c,hf]))]);simp -implicitDefEqProofs[wv];rw[<- hS9,hw9,sc];simp only[c7T]
       ((try simp only[ia,vp,hv0]);refine Ym.sub (by simp[lk,Ya,AV.keys,ia,vp,hv0]) ?_;simp only[ia,vp,hv0,Wkl,bK,and_true];(try simp[lk,Yc,Ya,AV.keys,ia,vp,hv0]))
   . have sc:b'=b:=(by rw[sc,if_neg (by simp[btB,v0];omega)]);have c2:¬(A.length:Int)+U.length<b.1.length+b.2.length:=(by rw[hz,hzb]at c;omega);have c4:¬(A.length:Int)+U.length=b.1.length+b.2.length:=(by rw[hz,hzb]at c;omega);simp -implicitDefEqProofs[c7T,hv0];refine Qgr ?_;simp -implicitDefEqProofs[wa,wb,wv,c2,c4];rw[<- hS9,hw9,sc];simp only[c7T]
     ((try simp only[ia,vp,hv0]);refine Ym.sub (by simp[lk,Ya,AV.keys,ia,vp,hv0]) ?_;simp only[ia,vp,hv0,Wkl,bK,and_true];(try simp[lk,Yc,Ya,AV.keys,ia,vp,hv0]))
 . intro _;show AR _ _ _ (c7S B I (fsK P k) k) _;rw[c7S];refine Qga ?_;simp -implicitDefEqProofs[c7T,b2,sh];refine Qgr ?_;simp -implicitDefEqProofs[ia]
end
theorem Znl {x:Prt} {t:List Prt} {m:Nat} {tk:List Prt} (h:tk.any (clP x)=true):apD (x::t) (m+1) tk=apD t (m+1) tk:=by
 rw[apD,if_pos h]
theorem Znm {x:Prt} {t:List Prt} {m:Nat} {tk o:List Prt} (h:tk.any (clP x)=false) (h2:apD t m (tk++[x])=some o):apD (x::t) (m+1) tk=some o:=by
 rw[apD,if_neg (by simp[h]),h2]
theorem Znn {x:Prt} {t:List Prt} {m:Nat} {tk:List Prt} (h:tk.any (clP x)=false) (h2:apD t m (tk++[x])=none):apD (x::t) (m+1) tk=apD t (m+1) tk:=by
 rw[apD,if_neg (by simp[h]),h2]
def apR (l:List Prt) (m:Nat) (tk:List Prt):List Prt:=(apD l m tk).getD []
theorem Zno {l:List Prt} {m:Nat} {tk o:List Prt} (h:apD l m tk=some o) (ht:tk≠[]):o≠[]:=by
 obtain ⟨M,h1,-⟩:=Zij h;rw[h1];simp[ht]
def apS (W:AV) (l:List Prt) (m i:Nat):St:=⟨[(15,.int .i64 i),(14,.int .i64 l.length),(13,.vsl (l.map ptA)),(0,.vsl (l.map ptA)),(1,.int .i64 (m+1:Nat)),(2,W)],[]⟩
section
variable {G:Nat->Option (List AV)}
theorem Znp:PC Tryz.prog G 155 [.nils] .nils:=by
 refine PC_of Tryz.func155 rfl (by kernel_rfl) (rc:=Z5D) (by kernel_rfl) (rs:=Z5E) (by kernel_rfl) (W0C rfl) λR _ hG hrd=>Qga ?_
 subst hG;simp -implicitDefEqProofs[Z5D,Z5E]
set_option maxHeartbeats 4000000 in
theorem Znq:∀ (m:Nat) (l tk:List Prt),m<=1000->l.length+tk.length<=100->PC Tryz.prog G 97 [.vsl (l.map ptA),.int .i64 m,Yg (tk.map ptA)] (Yg ((apR l m tk).map ptA))
 | 0,l,tk,_,hl=>by
   have e:apR l 0 tk=tk:=(by unfold apR;cases l <;> rfl);rw[e];have pW:=Zmi tk;have sW:=Zmj tk;generalize Yg (tk.map ptA)=W at *
   (refine Z5H rfl λR hG hrd=>Qga ?_;subst hG)
   simp -implicitDefEqProofs[Z5F,Z5G,sW]
 | m + 1,l,tk,hm,hl=>by
   have ih:=λi x=>Znq m (l.drop (i+1)) (tk++[x]) (by omega)
   have pW:=Zmi tk;have kW:=AV.pure_keys _ pW;have wm:IntKind.i64.wrap (((m+1:Nat):Int)-1)=(m:Int):=(by rw[Yf (by omega) (by omega)];omega);have cC:=λx=>PC.sub (ZmF (G:=G) 154 [.vptr (ptA x) 0] (clP x) tk (by simp[AV.pure]) (by unfold Sml;omega) λy _=>ZmG x y) (xs:=[Yg (tk.map ptA),.func (.func 154) [] [.vptr (ptA x) 0]]) ⟨.orNil _,.rfl',trivial⟩
   obtain ⟨W,hW⟩ : ∃ W,W=Yg (tk.map ptA):=⟨_,rfl⟩;rw[<- hW]at cC pW kW ⊢;refine Z5H rfl λR hG' hrd=>?_
   subst hG';refine Qga ?_;have hm0:¬((m:Int)+1=0):=(by omega);simp -implicitDefEqProofs[Z5F,Z5G,hm0];refine Za9 (apS W l m) (λi=>apD l (m+1) tk=apD (l.drop i) (m+1) tk) l.length ?_ (by simp) ?_ ?_
   . simp only[apS]
     ((try simp only[kW]);refine Ym.sub (by simp[lk,Ya,AV.keys,kW]) ?_;simp only[kW,Wkl,and_true];(try simp[lk,Yc,Ya,AV.keys,kW]))
   . intro i hi hI;have wi:IntKind.i64.wrap ((i:Int)+1)=((i+1:Nat):Int):=Yf (by omega) (by omega);rw[W0x hi]at hI;obtain ⟨x,hx⟩ : ∃ x,x=l[i]:=⟨_,rfl⟩;rw[<- hx]at hI;have hlx:l[i]=x:=hx.symm;have cC:=cC x;have ih:=ih i x (by simp;omega);have hpt:ptA x=[.int .i64 x.no,.int .i64 x.dy,.int .i64 x.ho,.int .i64 x.dw,.int .i64 x.lt,.int .i64 x.bk,.int .u8 x.lo]:=rfl;rw[hpt]at cC;have sW:∀ ok st,Yh ok st 6 W=some W:=λok st=>by rw[hW];exact Zmj tk ok st
     refine Yb mixed 20 ?_;simp -implicitDefEqProofs[apS,hi,hlx,hpt];refine Yd.flat cC (by simp[AV.flat]) (by simp[Yj,snap,Yh,sW,St.get,lk,okAll,AV.pure]) ?_
     cases hc:tk.any (clP x)
     case true =>
      simp -implicitDefEqProofs[wi];refine Qgr ?_;simp -implicitDefEqProofs[wi];refine ⟨?_,hI.trans (Znl hc)⟩;simp only[apS]
      ((try simp only[kW]);refine Ym.sub (by simp[lk,Ya,AV.keys,kW]) ?_;simp only[kW,Wkl,and_true];(try simp[lk,Yc,Ya,AV.keys,kW]))
     have wm2:IntKind.i64.wrap (m:Int)=(m:Int):=Yf (by omega) (by omega);have hi0:(0:Int)<=(i:Int)+1:=(by omega);have hp7:∀ x:Prt,(ptA x).length=7:=λ_=>rfl
     have htk:(l.map ptA).take l.length=l.map ptA:=W0J (by simp);have hlm:i+1<=l.length:=hi;have lx:(l.drop (i+1)).map ptA=(l.map ptA).drop (i+1):=List.map_drop
     have eT:Yg ((tk++[x]).map ptA) = .vsl (tk.map ptA++[ptA x]):=by
      unfold Yg;rw[if_neg (by simp),W0r];rfl
     rw[lx,eT]at ih;have pQ:(Yg ((apR (l.drop (i+1)) m (tk++[x])).map ptA)).pure=true:=Zmi _;have kQ:=AV.pure_keys _ pQ
     have hQ:Yg ((apR (l.drop (i+1)) m (tk++[x])).map ptA)=match apD (l.drop (i+1)) m (tk++[x]) with|some o=>.vsl (o.map ptA)|none=>.nils:=by
      unfold apR
      cases e:apD (l.drop (i+1)) m (tk++[x]) with
      |none=>rfl
      | some o =>
        have:=Zno e (by simp);simp only[W0P,Yg];rw[if_neg (by simpa using this)]
     obtain ⟨Q,hQe⟩ : ∃ Q,Q=Yg ((apR (l.drop (i+1)) m (tk++[x])).map ptA):=⟨_,rfl⟩;rw[<- hQe]at ih pQ kQ hQ;simp -implicitDefEqProofs[];have bb:(tk.length+1)*56<=70368744177664:=(by omega);have pT:∀ L:List Prt,(L.map ptA).all (λr=>r.all AV.pure)=true:=λL=>by simp[ptA,AV.pure]
     by_cases c0:tk=[]
     . have eW:W = .nils:=(by rw[hW,c0];rfl);rw[eW];refine GO0 (Znk mixed 11 (by decide +kernel) ?_);simp only[W20,W1g,W1D,W1Q]
       iterate 7 (rw[RE_op (by simp[wants]) (by simp[Z1y])];simp -implicitDefEqProofs[execE,wi,wm,wm2,hlm,hi0,hp7,htk])
       rw[Zk8 (by simp[wants])];simp -implicitDefEqProofs[];refine CallE.of Znp (by simp[AV.pure]) ?_
       iterate 3 (rw[RE_op (by simp[wants]) (by simp[Z1y])];simp -implicitDefEqProofs[execE,hpt])
       refine ⟨rfl,⟨[(33,.vsl (tk.map ptA++[ptA x])),(28,.int .i64 m),(26,.vsl ((l.map ptA).drop (i+1))),(15,.int .i64 i),(14,.int .i64 l.length),(13,.vsl (l.map ptA)),(0,.vsl (l.map ptA)),(1,.int .i64 (m+1:Nat)),(2,.nils)],[]⟩,Ym.trans (Ym.frz (λk=>k == 33) _) ?_,?_⟩
       . simp only[c0]
         ((try simp only[Yi,frzA,frzO,frz,Yh,Yj,St.get,AV.pure,ptA]);refine Ym.sub (by simp[lk,Ya,AV.keys,Yi,frzA,frzO,frz,Yh,Yj,St.get,AV.pure,ptA]) ?_;simp only[Yi,frzA,frzO,frz,Yh,Yj,St.get,AV.pure,ptA,Wkl,and_true];(try simp[lk,Yc,Ya,AV.keys,Yi,frzA,frzO,frz,Yh,Yj,St.get,AV.pure,ptA]))
       rw[Zk8 (by simp[wants])];simp -implicitDefEqProofs[];refine CallE.of ih (by simp[AV.pure,ptA]) ?_;rw[RE_op (by simp[wants]) (by simp[Z1y])];simp -implicitDefEqProofs[execE];refine ⟨rfl,?_⟩
       cases e:apD (l.drop (i+1)) m (tk++[x]) with
       | some o =>
         rw[e]at hQ;have hQ:Q = .vsl (o.map ptA):=hQ;have ho:¬o=[]:=Zno e (by simp);have eR:apR l (m+1) tk=o:=(by unfold apR;rw[hI,Znm hc e];rfl);have pO:=pT o;refine Qgr ?_;simp -implicitDefEqProofs[hQ,ho,eR,Yg];refine Qgr ?_;simp -implicitDefEqProofs[pT o,ptA]
       | none =>
         rw[e]at hQ;have hQ:Q = .nils:=hQ;refine Qgr ?_;simp -implicitDefEqProofs[hQ,wi];refine ⟨?_,hI.trans (Znn hc e)⟩;simp only[apS]
         ((try simp only[kW]);refine Ym.sub (by simp[lk,Ya,AV.keys,kW]) ?_;simp only[kW,Wkl,and_true];(try simp[lk,Yc,Ya,AV.keys,kW]))
     . have eW:W = .vsl (tk.map ptA):=(by rw[hW,Yg,if_neg (by simpa using c0)]);rw[eW];refine GO0 (Znk mixed 11 (by decide +kernel) ?_);simp only[W20,W1g,W1D,W1Q]
       iterate 7 (rw[RE_op (by simp[wants]) (by simp[Z1y])];simp -implicitDefEqProofs[execE,wi,wm,wm2,hlm,hi0,hp7,htk])
       rw[Zk8 (by simp[wants])];simp -implicitDefEqProofs[];refine CallE.new (NewS.of (ZmH tk c0 (by unfold Sml;omega)) (λ_=>30) (by simp) (by simp[St.get,lk]) (by simp[AV.pure,ptA]) rfl) ?_;simp -implicitDefEqProofs[Yl,Zmd,AV.ren]
       iterate 3 (rw[RE_op (by simp[wants]) (by simp[Z1y])];simp -implicitDefEqProofs[execE,hpt,bb])
       refine ⟨rfl,⟨[(33,.vsl (tk.map ptA++[ptA x])),(28,.int .i64 m),(26,.vsl ((l.map ptA).drop (i+1))),(15,.int .i64 i),(14,.int .i64 l.length),(13,.vsl (l.map ptA)),(0,.vsl (l.map ptA)),(1,.int .i64 (m+1:Nat)),(2,.vsl (tk.map ptA))],[]⟩,Ym.trans (Ym.frz (λk=>k == 30) _) ?_,?_⟩
       . ((try simp only[Yi,frzA,frzO,frz,Yh,Yj,St.get,AV.pure,ptA]);refine Ym.sub (by simp[lk,Ya,AV.keys,Yi,frzA,frzO,frz,Yh,Yj,St.get,AV.pure,ptA]) ?_;simp only[Yi,frzA,frzO,frz,Yh,Yj,St.get,AV.pure,ptA,Wkl,and_true];(try simp[lk,Yc,Ya,AV.keys,Yi,frzA,frzO,frz,Yh,Yj,St.get,AV.pure,ptA]))
       rw[Zk8 (by simp[wants])];simp -implicitDefEqProofs[];refine CallE.of ih (by simp[AV.pure,ptA]) ?_;rw[RE_op (by simp[wants]) (by simp[Z1y])];simp -implicitDefEqProofs[execE];refine ⟨rfl,?_⟩
       cases e:apD (l.drop (i+1)) m (tk++[x]) with
       | some o =>
         rw[e]at hQ;have hQ:Q = .vsl (o.map ptA):=hQ;have ho:¬o=[]:=Zno e (by simp);have eR:apR l (m+1) tk=o:=(by unfold apR;rw[hI,Znm hc e];rfl);refine Qgr ?_;simp -implicitDefEqProofs[hQ,ho,eR,Yg];refine Qgr ?_;simp -implicitDefEqProofs[pT o,ptA]
       | none =>
         rw[e]at hQ;have hQ:Q = .nils:=hQ;refine Qgr ?_;simp -implicitDefEqProofs[hQ,wi];refine ⟨?_,hI.trans (Znn hc e)⟩;simp only[apS]
         ((try simp only[kW]);refine Ym.sub (by simp[lk,Ya,AV.keys,kW]) ?_;simp only[kW,Wkl,and_true];(try simp[lk,Yc,Ya,AV.keys,kW]))
   . intro hI
     have e:apR l (m+1) tk=[]:=by
      unfold apR;rw[hI,List.drop_length];rfl
     refine Qga ?_;simp -implicitDefEqProofs[apS];refine Qgr ?_;simp -implicitDefEqProofs[e,Yg]
end
def apN (g:Int->Prt):List Int->Nat->List Int->Option (List Int)
 |_,0,tk=>some tk
 |[],_+1,_=>none
 | x::t,m+1,tk=>if (tk.any λy=>clP (g x) (g y))=true then apN g t (m+1) tk else match apN g t m (tk++[x]) with
   |some o=>some o
   |none=>apN g t (m+1) tk
theorem Znr {p:Prop} [Decidable p] {α:Type} {x y:α} (h:p->x=y):(if p then x else y)=y:=by
 split
 . exact h ‹p›
 . rfl
theorem Zns {g:Int->Prt} {l tk:List Int}:apN g l 0 tk=some tk:=by cases l <;> rfl
theorem apN_D (g:Int->Prt):∀ (l:List Int) (m:Nat) (tk:List Int),(apN g l m tk).map (List.map g)=apD (l.map g) m (tk.map g)
 |l,0,tk=>by cases l <;> rfl
 |[],m+1,tk=>rfl
 | x :: t,m+1,tk=>by
   have e:(tk.map g).any (clP (g x))=tk.any λy=>clP (g x) (g y):=by rw[List.any_map];rfl
   rw[W0F,apD,apN,e];by_cases c:(tk.any λy=>clP (g x) (g y))=true
   . rw[if_pos c,if_pos c];exact apN_D g t (m+1) tk
   . rw[if_neg c,if_neg c];have i1:=apN_D g t m (tk++[x]);rw[W0r]at i1;have i2:=apN_D g t (m+1) tk;rw[W0F,W1d]at i1;rw[<- i1,<- i2]
     cases apN g t m (tk++[x]) <;> rfl
theorem Znt {g:Int->Prt} {x:Int} {t:List Int} {m:Nat} {tk:List Int} (h:(tk.any λy=>clP (g x) (g y))=true):apN g (x::t) (m+1) tk=apN g t (m+1) tk:=by
 rw[apN,if_pos h]
theorem Znu {g:Int->Prt} {x:Int} {t:List Int} {m:Nat} {tk o:List Int} (h:(tk.any λy=>clP (g x) (g y))=false) (h2:apN g t m (tk++[x])=some o):apN g (x::t) (m+1) tk=some o:=by
 rw[apN,if_neg (by simp[h]),h2]
theorem Znv {g:Int->Prt} {x:Int} {t:List Int} {m:Nat} {tk:List Int} (h:(tk.any λy=>clP (g x) (g y))=false) (h2:apN g t m (tk++[x])=none):apN g (x::t) (m+1) tk=apN g t (m+1) tk:=by
 rw[apN,if_neg (by simp[h]),h2]
theorem Znw {g:Int->Prt} {Q:Int->Prop}:∀ (l:List Int) (m:Nat) (tk:List Int),(∀ x∈tk,Q x)->(∀ x∈l,Q x)->∀ x∈(apN g l m tk).getD [],Q x
 |l,0,tk,h,_,x,hx=>by rw[Zns]at hx;exact h x hx
 |[],m+1,tk,_,_,x,hx=>by cases hx
 | y :: t,m+1,tk,h,hl,x,hx=>by
   rw[apN]at hx;have i2:=Znw (g:=g) t (m+1) tk h (λz hz=>hl z (by simp[hz])) x
   split at hx
   . exact i2 hx
   . have i1:=Znw (g:=g) t m (tk++[y]) (λz hz=>by
      rcases W0h.1 hz with hz|hz
      . exact h z hz
      . simp at hz;subst hz;exact hl z (by simp)) (λz hz=>hl z (by simp[hz])) x
     cases e:apN g t m (tk++[y]) with
     |some o=>rw[e]at hx i1;exact i1 hx
     |none=>rw[e]at hx;exact i2 hx
theorem Znx {g:Int->Prt} {l tk o:List Int} {m:Nat} (h:apN g l m tk=some o) (ht:tk≠[]):o≠[]:=by
 have h2:=apN_D g l m tk;rw[h]at h2;have:=Zno h2.symm (by simpa using ht);simpa using this
def gP (ps:List Prt) (x:Int):Prt:=pAt ps x.toNat
def a7R (ps:List Prt) (I:List Int) (m:Nat) (T:List Int):AV:=.tup [Yg (((apN (gP ps) I m T).getD []).map ia),.bool (apN (gP ps) I m T).isSome]
def a7S (B:List AV) (T I:List Int) (m i:Nat):St:=⟨[(12,.int .i64 i),(1,.vsl (I.map ia)),(3,.int .i64 (m+1:Nat)),(4,.vsl (T.map ia)),(5,.ptr 5 0)],[(5,.box B)]⟩
def a7F (B:List AV) (T I:List Int) (m:Nat) (x:Prt) (e:Bool) (i k:Nat):St:=⟨[(15,.int .i64 k),(14,.bool e),(13,.ptr 13 0),(12,.int .i64 i),(1,.vsl (I.map ia)),(3,.int .i64 (m+1:Nat)),(4,.vsl (T.map ia)),(5,.ptr 5 0)],[(13,.box (ptA x)),(5,.box B)]⟩
section
variable {G:Nat->Option (List AV)}
set_option maxHeartbeats 4000000 in
theorem Zny (r:List Iss) (l:List Nte) (hs:List Hld) (ps:List Prt) (I:List Int) (hp:ps.length<=41) (hI:∀ x∈I,∃ k:Nat,k<ps.length/\x=k) (hl:I.length<=100):∀ (m f:Nat) (T:List Int),m<=1000->f<=I.length->T.length+(I.length-f)<=100->(∀ x∈T,∃ k:Nat,k<ps.length/\x=k) ->
  PC Tryz.prog G 99 [prA r l hs ps,.vsl (I.map ia),.int .i64 f,.int .i64 m,Yg (T.map ia)] (a7R ps (I.drop f) m T)
 | 0,f,T,_,_,hT,_=>by
   have e:a7R ps (I.drop f) 0 T = .tup [Yg (T.map ia),.bool true]:=(by unfold a7R;rw[Zns];rfl);rw[e];have sW:=ZlP T;generalize Yg (T.map ia)=W at *;unfold prA
   (refine Z5K rfl λR hG hrd=>Qga ?_;subst hG)
   simp -implicitDefEqProofs[Z5I,Z5J,sW]
 | m + 1,f,T,hm,hf,hT,hTp=>by
   have ih:=λ(i:Nat) (x:Int) (hi:i+1<=I.length) (hlt:(T++[x]).length+(I.length-(i+1))<=100) (hTp:∀ y∈T++[x],∃ k:Nat,k<ps.length/\y=(k:Int))=>Zny r l hs ps I hp hI hl m (i+1) (T++[x]) (by omega) hi hlt hTp
   obtain ⟨B,hB'⟩ : ∃ B:List AV,B=[.vsl (r.map isa),.vsl (l.map na),.vsl (hs.map hoa),.vsl (ps.map ptA)]:=⟨_,rfl⟩;have b3:B[3]? = some (.vsl (ps.map ptA)):=(by rw[hB'];rfl);have b4:4<=B.length:=(by rw[hB'];simp);have bt:B.take 4=B:=(by rw[hB'];rfl);have bK:∀ o:List (Nat×AObj),Yc o (.box B)=true:=λo=>by rw[hB'];simp[Yc,Ya,AV.keys]
   have bF:∀ ok st,frzO ok st (.box B) = .box B:=λok st=>by rw[hB'];simp[frzO,frzA,frz,AV.keys]
   have bP:B.all AV.pure=true:=(by rw[hB'];simp[AV.pure,isa,na,hoa,ptA]);have wm:IntKind.i64.wrap (((m+1:Nat):Int)-1)=(m:Int):=(by rw[Yf (by omega) (by omega)];omega);have wm2:IntKind.i64.wrap (m:Int)=(m:Int):=Yf (by omega) (by omega);have hm0:¬((m:Int)+1=0):=(by omega);refine PC.sub (ys:=[prA r l hs ps,.vsl (I.map ia),.int .i64 f,.int .i64 (m+1:Nat),.vsl (T.map ia)]) ?_ ⟨.rfl',.rfl',.rfl',.rfl',.orNil _,trivial⟩;unfold prA at *;rw[<- hB']at ih ⊢;refine Z5K rfl λR hG' hrd=>?_
   subst hG';refine Qga ?_;simp -implicitDefEqProofs[Z5I,Z5J,hm0];refine Z1Q (λi:Nat=>a7S B T I m i) (λi=>f<=i/\i<=I.length/\apN (gP ps) (I.drop f) (m+1) T=apN (gP ps) (I.drop i) (m+1) T) (λi=>I.length-i) f ?_ ⟨W0f _,hf,rfl⟩ ?_
   . simp only[a7S]
     ((try simp only[ia]);refine Ym.sub (by simp[lk,Ya,AV.keys,ia]) ?_;simp only[ia,Wkl,bK,and_true];(try simp[lk,Yc,Ya,AV.keys,ia]))
   rintro i ⟨hfi,hil,hI2⟩;by_cases hi:i<I.length
   case neg =>
    have hi':¬(i:Int)<(I.length:Int):=by omega
    have e0:apN (gP ps) (I.drop f) (m+1) T=none:=by
     rw[hI2,W1j (by omega)];rfl
    have e:a7R ps (I.drop f) (m+1) T = .tup [.nils,.bool false]:=(by unfold a7R;rw[e0];rfl);refine Qga ?_;simp -implicitDefEqProofs[a7S,hi'];refine Qgr ?_;simp -implicitDefEqProofs[e]
   have wi:IntKind.i64.wrap ((i:Int)+1)=((i+1:Nat):Int):=Yf (by omega) (by omega);rw[W0x hi]at hI2;obtain ⟨kx,hkx,ek⟩:=hI _ (W0e hi);have hgx:gP ps I[i]=ps[kx]:=(by unfold gP;rw[ek,show ((kx:Int)).toNat=kx by omega,ZiF hkx]);obtain ⟨x,hx⟩ : ∃ x,x=ps[kx]:=⟨_,rfl⟩;have hlx:ps[kx]=x:=hx.symm;have hpt:ptA x=[.int .i64 x.no,.int .i64 x.dy,.int .i64 x.ho,.int .i64 x.dw,.int .i64 x.lt,.int .i64 x.bk,.int .u8 x.lo]:=rfl
   have hg:∀ q (h:q<T.length),∃ k,∃ hk:k<ps.length,T[q]=(k:Int)/\gP ps T[q]=ps[k]:=λq h=>by
    obtain ⟨k,hk,e⟩:=hTp _ (W0e h);exact ⟨k,hk,e,by unfold gP;rw[e,show ((k:Int)).toNat=k by omega,ZiF hk]⟩
   obtain ⟨t,t0,t1,t2⟩ : ∃ t:Nat->Bool,t 0=true/\(∀ j (hj:j<T.length),t (j+1)=(t j && !clP x (gP ps T[j])))/\t T.length = !(T.any λy=>clP x (gP ps y)) :=
    ⟨λj=>!((T.take j).any λy=>clP x (gP ps y)),by simp,λj hj=>by simp only[W08 hj,W2h];simp,by simp only[W0v]⟩
   have hm1:((I.map ia)[i]?)=some [.int .i64 (kx:Int)]:=(by rw[W09,W07 hi,ek];rfl);refine Qga ?_;simp -implicitDefEqProofs[a7S,hi,ia,ek,b3,hkx,hlx,hpt];refine ⟨rfl,?_⟩;refine Za9 (λk=>a7F B T I m x (t k) i k) (λ_=>True) T.length ?_ trivial ?_ ?_
   . simp only[a7F,t0]
     ((try simp only[ia,hpt]);refine Ym.sub (by simp[lk,Ya,AV.keys,ia,hpt]) ?_;simp only[ia,hpt,Wkl,bK,and_true];(try simp[lk,Yc,Ya,AV.keys,ia,hpt]))
   . intro k hk _;have wk:IntKind.i64.wrap ((k:Int)+1)=(k:Int)+1:=Yf (by omega) (by omega);have tt:=t1 k hk;obtain ⟨ky,hky,ey,egy⟩:=hg k hk;rw[egy]at tt;obtain ⟨y,hy⟩ : ∃ y,y=ps[ky]:=⟨_,rfl⟩;rw[<- hy]at tt;have hly:ps[ky]=y:=hy.symm;have hpy:ptA y=[.int .i64 y.no,.int .i64 y.dy,.int .i64 y.ho,.int .i64 y.dw,.int .i64 y.lt,.int .i64 y.bk,.int .u8 y.lo]:=rfl;refine Qga ?_
     cases e:t k
     case false =>
      rw[e,W1L]at tt;simp -implicitDefEqProofs[a7F,e,hk,ia,ey,b3,hky,hly,hpy,hpt,wk];refine ⟨rfl,?_⟩;simp only[tt]
      ((try simp only[ia,hpt,hpy]);refine Ym.sub (by simp[lk,Ya,AV.keys,ia,hpt,hpy]) ?_;simp only[ia,hpt,hpy,Wkl,bK,and_true];(try simp[lk,Yc,Ya,AV.keys,ia,hpt,hpy]))
     rw[e,W1k]at tt;unfold clP at tt;by_cases q1:x.ho=y.ho
     . simp only[q1,W1i,Bool.true_or,W17]at tt;simp -implicitDefEqProofs[a7F,e,hk,ia,ey,b3,hky,hly,hpy,hpt,q1,wk];refine ⟨rfl,?_⟩;simp only[tt]
       ((try simp only[ia,hpt,hpy,q1]);refine Ym.sub (by simp[lk,Ya,AV.keys,ia,hpt,hpy,q1]) ?_;simp only[ia,hpt,hpy,q1,Wkl,bK,and_true];(try simp[lk,Yc,Ya,AV.keys,ia,hpt,hpy,q1]))
     . by_cases q2:x.dw=y.dw
       . simp only[q2,W1i,Bool.or_true,W17]at tt;simp -implicitDefEqProofs[a7F,e,hk,ia,ey,b3,hky,hly,hpy,hpt,q1,q2,wk];refine ⟨rfl,?_⟩;simp only[tt]
         ((try simp only[ia,hpt,hpy,q2]);refine Ym.sub (by simp[lk,Ya,AV.keys,ia,hpt,hpy,q2]) ?_;simp only[ia,hpt,hpy,q2,Wkl,bK,and_true];(try simp[lk,Yc,Ya,AV.keys,ia,hpt,hpy,q2]))
       . simp only[q1,q2,W1x,Bool.or_self,W1F]at tt;simp -implicitDefEqProofs[a7F,e,hk,ia,ey,b3,hky,hly,hpy,hpt,q1,q2,wk];refine ⟨rfl,?_⟩;simp only[tt]
         ((try simp only[ia,hpt,hpy]);refine Ym.sub (by simp[lk,Ya,AV.keys,ia,hpt,hpy]) ?_;simp only[ia,hpt,hpy,Wkl,bK,and_true];(try simp[lk,Yc,Ya,AV.keys,ia,hpt,hpy]))
   . intro _;have ea:(T.any λy=>clP (gP ps I[i]) (gP ps y))=T.any λy=>clP x (gP ps y):=by rw[hgx,hlx]
     cases hc:T.any λy=>clP x (gP ps y)
     case true =>
      rw[hc,W17]at t2;refine Qga ?_;simp -implicitDefEqProofs[a7F,t2];refine Qgr ?_;simp -implicitDefEqProofs[wi];refine ⟨i+1,?_,⟨by omega,by omega,hI2.trans (Znt (ea.trans hc))⟩,by show I.length-(i+1)<I.length-i;omega⟩;simp only[a7S]
      ((try simp only[ia]);refine Ym.sub (by simp[lk,Ya,AV.keys,ia]) ?_;simp only[ia,Wkl,bK,and_true];(try simp[lk,Yc,Ya,AV.keys,ia]))
     rw[hc,W1F]at t2
     have ih:=ih i I[i] (by omega) (by rw[W0s,W2t];omega) λz hz=>by
      rcases W0h.1 hz with hz|hz
      . exact hTp z hz
      . simp at hz;subst hz;exact ⟨kx,hkx,ek⟩
     have eT:Yg ((T++[I[i]]).map ia) = .vsl (T.map ia++[[.int .i64 (kx:Int)]]):=by
      unfold Yg;rw[if_neg (by simp),W0r,ek];rfl
     rw[eT]at ih;unfold a7R at ih;obtain ⟨A,hA⟩ : ∃ A,A=apN (gP ps) (I.drop (i+1)) m (T++[I[i]]):=⟨_,rfl⟩;rw[<- hA]at ih;have pQ:(Yg ((A.getD []).map ia)).pure=true:=ZjW _;have kQ:=AV.pure_keys _ pQ;obtain ⟨Q,hQ⟩ : ∃ Q,Q=Yg ((A.getD []).map ia):=⟨_,rfl⟩;rw[<- hQ]at ih pQ kQ;have b1:(T.length+1)*8<=70368744177664:=(by omega);have b2:T.length*8<=70368744177664:=(by omega);refine Qga ?_;simp -implicitDefEqProofs[a7F,t2];refine Z2S mixed 10 ?_;simp -implicitDefEqProofs[];refine GO0 (Znk mixed 15 (by decide +kernel) ?_);simp only[W20,W1g,W1D,W1Q]
     iterate 9 (rw[RE_op (by simp[wants]) (by simp[Z1y])];simp -implicitDefEqProofs[execE,wi,wm,wm2,hi,ek,ia,b1,b2,b4,bt])
     rw[Znr (by rintro rfl;rfl)];simp -implicitDefEqProofs[]
     iterate 6 (rw[RE_op (by simp[wants]) (by simp[Z1y])];simp -implicitDefEqProofs[execE,wi,wm,wm2,hi,ek,ia,b1,b2,b4,bt])
     refine ⟨rfl,⟨[(85,.vsl (T.map ia++[[.int .i64 (kx:Int)]])),(76,.int .i64 m),(74,.int .i64 (i+1:Nat)),(72,.vsl (I.map ia)),(71,.agg B),(12,.int .i64 i),(1,.vsl (I.map ia)),(3,.int .i64 (m+1:Nat)),(4,.vsl (T.map ia)),(5,.ptr 5 0)],[(5,.box B)]⟩,Ym.trans (Ym.frz (λk=>k == 77) _) ?_,?_⟩
     . ((try simp only[Yi,frzA,frzO,frz,Yh,Yj,St.get,AV.pure,ia,hB']);refine Ym.sub (by simp[lk,Ya,AV.keys,Yi,frzA,frzO,frz,Yh,Yj,St.get,AV.pure,ia,hB']) ?_;simp only[Yi,frzA,frzO,frz,Yh,Yj,St.get,AV.pure,ia,hB',Wkl,and_true];(try simp[lk,Yc,Ya,AV.keys,Yi,frzA,frzO,frz,Yh,Yj,St.get,AV.pure,ia,hB']))
     rw[Zk8 (by simp[wants])];simp -implicitDefEqProofs[];refine CallE.of ih (by simp[AV.pure,bP,ia]) ?_
     iterate 5 (rw[RE_op (by simp[wants]) (by simp[Z1y])];simp -implicitDefEqProofs[execE])
     refine ⟨rfl,?_⟩
     cases e:A with
     | some o =>
       rw[e]at hQ hA;have ho:¬o=[]:=Znx hA.symm (by simp);have hQ:Q = .vsl (o.map ia):=by rw[hQ];show Yg (o.map ia)=_;rw[Yg,if_neg (by simpa using ho)]
       have eR:a7R ps (I.drop f) (m+1) T = .tup [.vsl (o.map ia),.bool true]:=by
        unfold a7R;rw[hI2,Znu (ea.trans hc) hA.symm];show AV.tup [Yg (o.map ia),_]=_;rw[Yg,if_neg (by simpa using ho)];rfl
       refine Qgr ?_;simp -implicitDefEqProofs[hQ,eR];refine Qgr ?_;simp -implicitDefEqProofs[ia]
     | none =>
       rw[e]at hA;refine Qgr ?_;simp -implicitDefEqProofs[wi];refine ⟨i+1,?_,⟨by omega,by omega,hI2.trans (Znv (ea.trans hc) hA.symm)⟩,by show I.length-(i+1)<I.length-i;omega⟩;simp only[a7S]
       ((try simp only[ia]);refine Ym.sub (by simp[lk,Ya,AV.keys,ia]) ?_;simp only[ia,Wkl,bK,and_true];(try simp[lk,Yc,Ya,AV.keys,ia]))
end
def ca7E (r:List Iss) (l:List Nte) (hs:List Hld) (ps:List Prt) (day:Int):List Int×List Int:=if as7 r l hs ps day 1=0 then caE (hs.map (·.id)) (nums r) (staL l hs ps day) else ([],[])
def ca7D (r:List Iss) (l:List Nte) (hs:List Hld) (ps:List Prt) (day:Int):AV:=.tup [.vsl ((ca7E r l hs ps day).1.map ia),.vsl ((ca7E r l hs ps day).2.map ia),.int .i64 (as7 r l hs ps day 1)]
def ca7A (r:List Iss) (l:List Nte) (hs:List Hld) (ps:List Prt) (day:Int):AV:=.tup [Yg ((ca7E r l hs ps day).1.map ia),Yg ((ca7E r l hs ps day).2.map ia),.int .i64 (as7 r l hs ps day 1)]
def pr7E (r:List Iss) (l:List Nte) (hs:List Hld) (ps:List Prt) (day:Int):List Int:=if as7 r l hs ps day 1=0 then (apR (staL l hs ps day) (szP (caE (hs.map (·.id)) (nums r) (staL l hs ps day))) []).map (·.no) else []
def pr7A (r:List Iss) (l:List Nte) (hs:List Hld) (ps:List Prt) (day:Int):AV:=.tup [Yg ((pr7E r l hs ps day).map ia),.int .i64 (as7 r l hs ps day 1)]
theorem Znz {r:List Iss} {hs:List Hld} {L:List Prt} (h6:hs.length<=6) (h60:r.length<=60):(caE (hs.map (·.id)) (nums r) L).1.length<=6/\(caE (hs.map (·.id)) (nums r) L).2.length<=60:=by
 obtain ⟨s,-,e⟩:=Zil (hs.map (·.id)) (nums r) L;rw[e,plN];refine ⟨?_,?_⟩
 . show (bitL _ s).length<=6;rw[Ziz];have:=Zh3 (hs.map (·.id)) s (hs.map (·.id)).length;rw[W0N]at this;show (sbN _ s (hs.map (·.id)).length).length<=6;rw[W0N];omega
 . exact W0O (W0D ..) (W0O (ZaD r) h60)
theorem Nsub.tup {xs ys:List AV} (h:NsubL xs ys):Nsub (.tup xs) (.tup ys):=λM W u hu=>by
 cases hu with
 | tup _ us h1 hx =>
   refine .tup ys us (by rw[h1,h.len]) λi y u hy hu=>?_
   obtain ⟨x,h2,h3⟩:=h.at i y hy;exact h3 _ _ _ (hx i x u h2 hu)
structure Cl7 (r:List Iss) (hs:List Hld) (ps:List Prt):Prop where
 h6:hs.length<=6
 n60:r.length<=60
 ne:r≠[]
 no:(ps.map (·.no)).Nodup
 dl:(nums r).Pairwise (· < ·)
theorem ZnA {r:List Iss} {l:List Nte} {hs:List Hld} {ps:List Prt} (h:ck7 r l hs ps=0):Cl7 r hs ps:=by
 obtain ⟨h1,h2⟩:=Zju.1 h;obtain ⟨⟨q1,-⟩,-,q3,-⟩:=ZiH.1 h2;have hL:=ZiA (Zjv h1);refine ⟨q1,(Zcr hL).2,ZkN (Zjv h1),?_,ZaH (ZaF hL)⟩;rw[List.Nodup,W2p];exact q3.imp λh=>by omega
section
variable {G:Nat->Option (List AV)}
theorem ZnB (r:List Iss) (l:List Nte) (hs:List Hld) (ps:List Prt) (day:Int) (hw:WfP hs ps) (h0:ck7 r l hs ps=0) :
  PC Tryz.prog G 95 [ofA r l hs ps,Yg ((staL l hs ps day).map ptA)] (pvA (caE (hs.map (·.id)) (nums r) (staL l hs ps day))):=by
 obtain ⟨h6,n60,-,hno,hdl⟩:=ZnA h0;have hsub:(staL l hs ps day).Sublist ps:=(by unfold staL;exact List.filter_sublist);have hpl:=hw.pl;have hle:=hsub.length_le;have hit:=ZmX (G:=G) r l hs ps (staL l hs ps day) (hno.sublist (hsub.map _)) (by omega) h6 hdl λx hx=>(ZlU h0 (hsub.subset hx)).2
 have:=ZmD (G:=G) r l hs ps (staL l hs ps day) _ hit λp hp=>by
  unfold plE at hp;obtain ⟨v,hv,rfl⟩:=W0i.1 hp;rw[plN];refine ⟨?_,?_⟩
  . show (bitL _ v).length<=100;rw[Ziz];have:=Zh3 (hs.map (·.id)) v (hs.map (·.id)).length;rw[W0N]at this;show (sbN _ v (hs.map (·.id)).length).length<=100;rw[W0N];omega
  . exact W0O (W0D ..) (W0O (ZaD r) (by omega))
 rwa [ZmB]at this
theorem ZnC (hG:GC G) (hN:GN G) (hP:GP G) (r:List Iss) (l:List Nte) (hs:List Hld) (ps:List Prt) (day:Int) (hl:WfN l) (hr:Wf r) (hd:Sml (nums r)) (hw:WfP hs ps) :
  PC Tryz.prog G 36 [prA r l hs ps,.int .i64 day] (ca7A r l hs ps day):=by
 have ha:=Zjx hG hN hP r l hs ps day 1 hl hr hd hw;have pO:=ZiI r l hs ps;unfold asP at ha;unfold ca7A ca7E;by_cases h0:as7 r l hs ps day 1=0
 case neg =>
  rw[if_neg h0]at ha ⊢;unfold prA at *
  (refine Zn9 rfl λR hG hrd=>Qga ?_;subst hG)
  simp -implicitDefEqProofs[Zn7,Zn8];refine Qco (ha) (by simp) ?_;simp -implicitDefEqProofs[h0,Yg]
 have k0:=(ZkX h0).1;have c1:=Zmg hG hN r l hs ps day hl hr hd hw k0;have c2:=ZnB (G:=G) r l hs ps day hw k0;have pS:=Zmi (staL l hs ps day);rw[if_pos h0,h0]at ha;rw[if_pos h0,h0];generalize caE (hs.map (·.id)) (nums r) (staL l hs ps day)=c at *;unfold pvA at c2;have d1:=Zmx c.1;have d2:=Zmx c.2;generalize Yg (c.1.map ia)=V1 at *;generalize Yg (c.2.map ia)=V2 at *;generalize Yg ((staL l hs ps day).map ptA)=W at *;unfold prA at *;rcases d1 with rfl|rfl <;> rcases d2 with rfl|rfl
 all_goals
  (refine Zn9 rfl λR hG hrd=>Qga ?_;subst hG)
  simp -implicitDefEqProofs[Zn7,Zn8];refine Qco (ha) (by simp) ?_;simp -implicitDefEqProofs[];refine Yd.of c1 (by simp[pO,AV.pure]) ?_;simp -implicitDefEqProofs[];refine Yd.of c2 (by simp[pO,pS]) ?_;simp -implicitDefEqProofs[ia]
  try rfl
theorem ZnD (r:List Iss) (l:List Nte) (hs:List Hld) (ps:List Prt) (day:Int) (hl:WfN l) (hr:Wf r) (hd:Sml (nums r)) (hw:WfP hs ps) :
  PC Tryz.prog G 37 [prA r l hs ps,.int .i64 day] (ca7D r l hs ps day):=by
 have ha:=ZkW (G:=G) r l hs ps day 1 hl hr hd hw;unfold ca7D ca7E;by_cases h0:as7 r l hs ps day 1=0
 case neg =>
  rw[if_neg h0];refine PC.out (v:=.tup [.nils,.nils,.int .i64 (as7 r l hs ps day 1)]) ?_ (.tup ⟨.nils,.nils,.rfl',trivial⟩);unfold prA at *
  (refine Zn3 rfl λR hG hrd=>Qga ?_;subst hG)
  simp -implicitDefEqProofs[Zn1,Zn2];refine Qco (ha) (by simp) ?_;simp -implicitDefEqProofs[h0]
 have k0:=(ZkX h0).1;obtain ⟨h6,n60,hne,hno,hdl⟩:=ZnA k0;have c1:=ZlV (G:=G) r l hs ps day hl hr hd hw k0;have hle:=ZlR (l:=l) (hs:=hs) (day:=day) (ps:=ps) (i:=ps.length);have hpl:=hw.pl;have c2:=PC.sub (Znj (G:=G) r l hs ps (siK l hs day ps ps.length) hr hne hd h6 hpl (λx hx=>ZlS hx) (by omega)) (xs:=[prA r l hs ps,Yg ((siK l hs day ps ps.length).map ia)]) ⟨.rfl',.orNil _,trivial⟩;rw[ZlT]at c2;have pI:=ZjW (siK l hs day ps ps.length);have kI:=AV.pure_keys _ pI;rw[h0]at ha;rw[if_pos h0,h0];generalize caE (hs.map (·.id)) (nums r) (staL l hs ps day)=c at *;generalize Yg ((siK l hs day ps ps.length).map ia)=I at *;unfold prA at *
 (refine Zn3 rfl λR hG hrd=>Qga ?_;subst hG)
 simp -implicitDefEqProofs[Zn1,Zn2];refine Qco (ha) (by simp) ?_;simp -implicitDefEqProofs[];refine Ye.of c1 (by simp[AV.pure,isa,na,hoa,ptA]) ?_;simp -implicitDefEqProofs[];refine Ye.of c2 (by simp[AV.pure,isa,na,hoa,ptA,pI]) ?_;simp -implicitDefEqProofs[kI,ia]
 try rfl
theorem ZnE (hG:GC G) (hN:GN G) (hP:GP G) (r:List Iss) (l:List Nte) (hs:List Hld) (ps:List Prt) (day:Int) (hl:WfN l) (hr:Wf r) (hd:Sml (nums r)) (hw:WfP hs ps) :
  PC Tryz.prog G 38 [prA r l hs ps,.int .i64 day] (pr7A r l hs ps day):=by
 have ha:=Zjx hG hN hP r l hs ps day 1 hl hr hd hw;have pO:=ZiI r l hs ps;unfold asP at ha;unfold pr7A pr7E;by_cases h0:as7 r l hs ps day 1=0
 case neg =>
  rw[if_neg h0]at ha ⊢;unfold prA at *
  (refine Znc rfl λR hG hrd=>Qga ?_;subst hG)
  simp -implicitDefEqProofs[Zna,Znb];refine Qco (ha) (by simp) ?_;simp -implicitDefEqProofs[h0,Yg]
 have k0:=(ZkX h0).1;obtain ⟨h6,n60,-,-,-⟩:=ZnA k0;have hpl:=hw.pl;have hle:=Zmk (l:=l) (hs:=hs) (ps:=ps) (day:=day);have hcl:=Znz (r:=r) (hs:=hs) (L:=staL l hs ps day) h6 n60;have c1:=Zmg hG hN r l hs ps day hl hr hd hw k0;have c2:=ZnB (G:=G) r l hs ps day hw k0;have pS:=Zmi (staL l hs ps day);rw[if_pos h0,h0]at ha;rw[if_pos h0,h0]
 have hRl:∀ m,(apR (staL l hs ps day) m []).length<=100:=λm=>by
  unfold apR
  cases e:apD (staL l hs ps day) m [] with
  |none=>simp
  | some o =>
    obtain ⟨M,h1,h2,-⟩:=Zij e;have:=h2.length_le;simp only[W0P,h1,W18];omega
 generalize caE (hs.map (·.id)) (nums r) (staL l hs ps day)=c at *;have c3:=PC.sub (Zmp (G:=G) c.1 c.2 (by unfold Sml;omega) (by unfold Sml;omega)) (xs:=[.agg [Yg (c.1.map ia),Yg (c.2.map ia)]]) ⟨.agg ⟨.orNil _,.orNil _,trivial⟩,trivial⟩;have c4:=PC.sub (Znq (G:=G) (szP c) (staL l hs ps day) [] (by unfold szP;omega) (by simp;omega)) (xs:=[Yg ((staL l hs ps day).map ptA),.int .i64 (szP c:Nat),.nils]) ⟨.orNil _,.rfl',.rfl',trivial⟩;have c5:=PC.sub (Zm1 (G:=G) (apR (staL l hs ps day) (szP c) []) (hRl _)) (xs:=[Yg ((apR (staL l hs ps day) (szP c) []).map ptA)]) ⟨.orNil _,trivial⟩;rw[Zmh]at c5;have sV:=ZlP ((apR (staL l hs ps day) (szP c) []).map (·.no));have pA:=Zmi (apR (staL l hs ps day) (szP c) []);unfold pvA at c2;have p1:=ZjW c.1;have p2:=ZjW c.2;generalize Yg (((apR (staL l hs ps day) (szP c) []).map (·.no)).map ia)=V at *;generalize Yg ((apR (staL l hs ps day) (szP c) []).map ptA)=Q at *;generalize Yg ((staL l hs ps day).map ptA)=W at *;have eS:c.1.length+c.2.length=szP c:=rfl;rw[eS]at c3;generalize Yg (c.1.map ia)=V1 at *;generalize Yg (c.2.map ia)=V2 at *;unfold prA at *
 (refine Znc rfl λR hG hrd=>Qga ?_;subst hG)
 simp -implicitDefEqProofs[Zna,Znb];refine Qco (ha) (by simp) ?_;simp -implicitDefEqProofs[];refine Yd.of c1 (by simp[pO,AV.pure]) ?_;simp -implicitDefEqProofs[];refine Yd.of c2 (by simp[pO,pS]) ?_;simp -implicitDefEqProofs[];refine Yd.of c3 (by simp[AV.pure,p1,p2]) ?_;simp -implicitDefEqProofs[];refine Yd.of c4 (by simp[AV.pure,pS]) ?_;simp -implicitDefEqProofs[];refine Yd.of c5 (by simp[pA]) ?_;simp -implicitDefEqProofs[sV]
theorem ZnF (r:List Iss) (l:List Nte) (hs:List Hld) (ps:List Prt) (I:List Int) (hI:∀ x∈I,∃ k:Nat,k<ps.length/\x=k) (hl:I.length<=100):PC Tryz.prog G 93 [prA r l hs ps,Yg (I.map ia)] (Yg (((I.map (gP ps)).map (·.no)).map ia)):=by
 have c:=PC.sub (Zm0 (G:=G) r l hs ps I hI hl) (xs:=[prA r l hs ps,Yg (I.map ia)]) ⟨.rfl',.orNil _,trivial⟩
 have e:noK ps I I.length=(I.map (gP ps)).map (·.no):=by
  unfold noK gP;rw[W0v,W10];rfl
 rwa [e]at c
theorem ZnG (r:List Iss) (l:List Nte) (hs:List Hld) (ps:List Prt) (day:Int) (hl:WfN l) (hr:Wf r) (hd:Sml (nums r)) (hw:WfP hs ps) :
  PC Tryz.prog G 39 [prA r l hs ps,.int .i64 day] (pr7A r l hs ps day):=by
 have ha:=ZkW (G:=G) r l hs ps day 1 hl hr hd hw;unfold pr7A pr7E;by_cases h0:as7 r l hs ps day 1=0
 case neg =>
  rw[if_neg h0];unfold prA at *
  (refine Zn6 rfl λR hG hrd=>Qga ?_;subst hG)
  simp -implicitDefEqProofs[Zn4,Zn5];refine Qco (ha) (by simp) ?_;simp -implicitDefEqProofs[h0,Yg]
 have k0:=(ZkX h0).1;obtain ⟨h6,n60,hne,hno,hdl⟩:=ZnA k0;have c1:=ZlV (G:=G) r l hs ps day hl hr hd hw k0;have hle:=ZlR (l:=l) (hs:=hs) (day:=day) (ps:=ps) (i:=ps.length);have hpl:=hw.pl;have hcl:=Znz (r:=r) (hs:=hs) (L:=staL l hs ps day) h6 n60;have hbd:∀ x∈siK l hs day ps ps.length,∃ k:Nat,k<ps.length/\x=k:=λx hx=>ZlS hx
 have c2:=PC.sub (Znj (G:=G) r l hs ps (siK l hs day ps ps.length) hr hne hd h6 hpl hbd (by omega)) (xs:=[prA r l hs ps,Yg ((siK l hs day ps ps.length).map ia)]) ⟨.rfl',.orNil _,trivial⟩;rw[ZlT]at c2;have hno2:(siK l hs day ps ps.length).map (gP ps)=staL l hs ps day:=ZlT;obtain ⟨I,hI⟩ : ∃ I,I=siK l hs day ps ps.length:=⟨_,rfl⟩;rw[<- hI]at c1 c2 hno2 hbd hle;rw[h0]at ha;rw[if_pos h0,h0];generalize caE (hs.map (·.id)) (nums r) (staL l hs ps day)=c at *;have c3:=PC.sub (Zny (G:=G) r l hs ps I hpl hbd (by omega) (szP c) 0 [] (by unfold szP;omega) (by omega) (by simp;omega) (by simp)) (xs:=[prA r l hs ps,Yg (I.map ia),.int .i64 0,.int .i64 (szP c:Nat),.nils]) ⟨.rfl',.orNil _,.rfl',.rfl',.rfl',trivial⟩;rw[W1Q]at c3;have hD:=apN_D (gP ps) I (szP c) [];rw[hno2,W1d]at hD
 have hR:(apR (staL l hs ps day) (szP c) [])=((apN (gP ps) I (szP c) []).getD []).map (gP ps):=by
  unfold apR;rw[<- hD]
  cases apN (gP ps) I (szP c) [] <;> rfl
 have hRb:∀ x∈(apN (gP ps) I (szP c) []).getD [],x∈I:=Znw (Q:=λx=>x∈I) I (szP c) [] (by simp) λx hx=>hx
 have hRl:((apN (gP ps) I (szP c) []).getD []).length<=100:=by
  have h1:((apN (gP ps) I (szP c) []).getD []).length=(apR (staL l hs ps day) (szP c) []).length:=(by rw[hR];simp);rw[h1];have hle2:=Zmk (l:=l) (hs:=hs) (ps:=ps) (day:=day);unfold apR
  cases e:apD (staL l hs ps day) (szP c) [] with
  |none=>simp
  | some o =>
    obtain ⟨M,h1,h2,-⟩:=Zij e;have:=h2.length_le;simp only[W0P,h1,W18];omega
 have c4:=ZnF (G:=G) r l hs ps ((apN (gP ps) I (szP c) []).getD []) (λx hx=>hbd x (hRb x hx)) hRl;rw[<- hR]at c4;unfold a7R at c3;generalize apR (staL l hs ps day) (szP c) []=Z at *;generalize (apN (gP ps) I (szP c) []).isSome=bo at *;generalize (apN (gP ps) I (szP c) []).getD []=Y at *;have sV:=ZlP (Z.map (·.no));have pI:=ZjW I;have pY:=ZjW Y
 have ws:IntKind.i64.wrap ((c.1.length:Int)+(c.2.length:Int))=((szP c:Nat):Int):=by
  rw[Yf (by omega) (by omega)];unfold szP;omega
 generalize Yg ((Z.map (·.no)).map ia)=V at *;generalize Yg (Y.map ia)=Q at *;generalize Yg (I.map ia)=W at *;unfold prA at *
 (refine Zn6 rfl λR hG hrd=>Qga ?_;subst hG)
 simp -implicitDefEqProofs[Zn4,Zn5];refine Qco (ha) (by simp) ?_;simp -implicitDefEqProofs[];refine Yd.of c1 (by simp[AV.pure,isa,na,hoa,ptA]) ?_;simp -implicitDefEqProofs[];refine Yd.of c2 (by simp[AV.pure,isa,na,hoa,ptA,pI]) ?_;simp -implicitDefEqProofs[ia,ws];refine Yd.of c3 (by simp[AV.pure,isa,na,hoa,ptA,pI]) ?_;simp -implicitDefEqProofs[];refine Yd.of c4 (by simp[AV.pure,isa,na,hoa,ptA,pY]) ?_;simp -implicitDefEqProofs[sV]
end
theorem ZnH {r:List Iss} {l:List Nte} {hs:List Hld} {ps:List Prt} {day:Int}:Sml (ca7E r l hs ps day).1/\Sml (ca7E r l hs ps day).2:=by
 unfold ca7E
 split
 . rename_i h;obtain ⟨h6,n60,-⟩:=ZnA (ZkX h).1;have:=Znz (r:=r) (hs:=hs) (L:=staL l hs ps day) h6 n60;unfold Sml;omega
 . simp[Sml]
section
variable {G:Nat->Option (List AV)}
set_option maxHeartbeats 1000000 in
theorem ZnI (hG:GC G) (hN:GN G) (hP:GP G) (r:List Iss) (l:List Nte) (hs:List Hld) (ps:List Prt) (day:Int) (hr:∀ x∈r,KOk x) (hl:∀ x∈l,NOk7 x) (hp:∀ x∈ps,POk x) :
  PC Tryz.prog G 5 [prA r l hs ps,.int .i64 day] (.bool true):=by
 have c1:=Zlv (G:=G) r l hs ps
 cases h:gr7 r l hs ps
 case true =>
  rw[h]at c1;unfold prA at *
  (refine Znf rfl λR hG hrd=>Qga ?_;subst hG)
  simp -implicitDefEqProofs[Znd,Zne];refine Qco (c1) (by simp) ?_;simp -implicitDefEqProofs[]
 obtain ⟨wl,wr,wd,wp⟩:=Zly h hr hl hp;have c2:=Zlx (G:=G) r l hs ps wr.1 wl.1 wp;have c3:=Zml hG hN hP r l hs ps day wl wr wd wp;have c4:=Zm2 (G:=G) r l hs ps day wl wr wd wp;have c5:=ZnC hG hN hP r l hs ps day wl wr wd wp;have c6:=ZnD (G:=G) r l hs ps day wl wr wd wp;have c7:=ZnE hG hN hP r l hs ps day wl wr wd wp;have c8:=ZnG (G:=G) r l hs ps day wl wr wd wp;have hpl:=wp.pl
 have s1:Sml (sta7E r l hs ps day):=by
  unfold sta7E
  split
  . have:=Zmk (l:=l) (hs:=hs) (ps:=ps) (day:=day);unfold Sml;rw[W0N];omega
  . simp[Sml]
 have s2:Sml (pr7E r l hs ps day):=by
  unfold pr7E
  split
  . have hle2:=Zmk (l:=l) (hs:=hs) (ps:=ps) (day:=day);unfold Sml apR;rw[W0N]
    cases e:apD (staL l hs ps day) (szP (caE (hs.map (·.id)) (nums r) (staL l hs ps day))) [] with
    |none=>simp
    | some o =>
      obtain ⟨M,h1,h2,-⟩:=Zij e;have:=h2.length_le;simp only[W0P,h1,W18];omega
  . simp[Sml]
 obtain ⟨s3,s4⟩:=ZnH (r:=r) (l:=l) (hs:=hs) (ps:=ps) (day:=day);have q1:=PC.sub (Zag (G:=G) _ (sta7E r l hs ps day) s1) (xs:=[Yg ((sta7E r l hs ps day).map ia),Yg ((sta7E r l hs ps day).map ia)]) ⟨.orNil _,.orNil _,trivial⟩;have q2:=PC.sub (Zag (G:=G) _ (pr7E r l hs ps day) s2) (xs:=[Yg ((pr7E r l hs ps day).map ia),Yg ((pr7E r l hs ps day).map ia)]) ⟨.orNil _,.orNil _,trivial⟩;have q3:=PC.sub (Zag (G:=G) _ (ca7E r l hs ps day).1 s3) (xs:=[Yg ((ca7E r l hs ps day).1.map ia),.vsl ((ca7E r l hs ps day).1.map ia)]) ⟨.orNil _,.rfl',trivial⟩;have q4:=PC.sub (Zag (G:=G) _ (ca7E r l hs ps day).2 s4) (xs:=[Yg ((ca7E r l hs ps day).2.map ia),.vsl ((ca7E r l hs ps day).2.map ia)]) ⟨.orNil _,.rfl',trivial⟩;have c12:=Zlw (G:=G) r l hs ps wr.1 wl.1 wp;rw[h]at c1;have p1:=ZjW (sta7E r l hs ps day);have p2:=ZjW (pr7E r l hs ps day);have p3:=ZjW (ca7E r l hs ps day).1;have p4:=ZjW (ca7E r l hs ps day).2;unfold stA7 at c3 c4;unfold ca7A at c5;unfold ca7D at c6;unfold pr7A at c7 c8;have pp:(prA r l hs ps).pure=true:=(by simp[prA,AV.pure,isa,na,hoa,ia,ptA]);unfold prA at *;generalize Yg ((sta7E r l hs ps day).map ia)=V1 at *;generalize Yg ((pr7E r l hs ps day).map ia)=V2 at *;generalize Yg ((ca7E r l hs ps day).1.map ia)=V3 at *;generalize Yg ((ca7E r l hs ps day).2.map ia)=V4 at *;generalize as7 r l hs ps day 1=e1 at *
 (refine Znf rfl λR hG hrd=>Qga ?_;subst hG)
 simp -implicitDefEqProofs[Znd,Zne];refine Qco (c1) (by simp) ?_;simp -implicitDefEqProofs[];refine Qco (c2) (by simp) ?_;simp -implicitDefEqProofs[];refine Qco (c3) (by simp) ?_;simp -implicitDefEqProofs[];refine Qco (c4) (by simp) ?_;simp -implicitDefEqProofs[];refine Qco (c5) (by simp) ?_;simp -implicitDefEqProofs[];refine Qco (c6) (by simp) ?_;simp -implicitDefEqProofs[];refine Qco (c7) (by simp) ?_;simp -implicitDefEqProofs[];refine Qco (c8) (by simp) ?_;simp -implicitDefEqProofs[];refine Yd.of q1 (by simp[p1]) ?_;simp -implicitDefEqProofs[];refine Yd.of q3 (by simp[AV.pure,p3,ia]) ?_;simp -implicitDefEqProofs[];refine Yd.of q4 (by simp[AV.pure,p4,ia]) ?_;simp -implicitDefEqProofs[];refine Yd.of q2 (by simp[p2]) ?_;simp -implicitDefEqProofs[];refine Yd.of c12 (by simp[pp]) ?_;simp -implicitDefEqProofs[]
end
theorem ZnJ {xs:List AV} (h:TVs [.int .i64] xs):∃ n:Int,xs=ia n:=by
 obtain ⟨x0,_,rfl,h0,h⟩:=h.cons_inv;obtain rfl:=h.nil_inv;obtain ⟨n,rfl,-⟩:=h0.int_inv;exact ⟨n,rfl⟩
open Go.ChangeShapes Go.WideShapes Go.ChangeAt Go.WideMaps Go.WideElems Go.RowKit Go.Deep
def laid7:List (String×DataW Unit):=[("blueline/sheet.checks",Rows.laid_blueline_sheet_checks),("blueline/note.checks",Rows.laid_blueline_note_checks),("blueline/recall.checks",Rows.laid_blueline_recall_checks)]
theorem ZnK (os:Os) (args:Array Value):laidMetH Tryz.prog laid7 ((World.doorLaid Tryz.prog 41 os).forCall (λ_ _=>0) ⟨#[],args,[]⟩).memory :=
 laidMetH_of_parts3 (fuel:=8) (laidMet_of_run' 8 (by kernel_rfl) (by kernel_rfl)) (by kernel_rfl) (by kernel_rfl)
theorem cellF {W:World} {fuel:Nat} {c:Value} {y:DataW (List UInt8)×List MemPlace} {tE:Nat} {fld:Field} {ps rs:Array TypeId} {vd:Bool} {b:UInt8} {s:List UInt8} {f0:FuncId}
  (uE:Tryz.prog.underlying tE=some (.struct #[fld])) (hfo:fld.offset=0) (uF:Tryz.prog.underlying fld.type=some (.func ps rs vd)) (cF:Tryz.prog.cellsOf fld.type=1)
  (hone:((List.range Tryz.prog.funcs.size).filter λf=>(Tryz.prog.funcs[f]?).any (·.name.toUTF8.data.toList == b::s))=[f0])
  (h:DataW.trod (funcToken Tryz.prog) Tryz.prog W 0 (λ_=>true) true fuel tE [c]=some y) (hy:y.1 = .agg [.held (b::s)]):c = .func (.func f0) #[] #[]:=by
 obtain ⟨y0,n,rfl,-,h0⟩:=trod_struct1 uE h;rw[hfo,W1Q,cF]at h0;simp only[DataW.agg.injEq,W2g,and_true]at hy;exact func_of_trod (q:=y0.2) uF hone (by rw[<- hy];simpa using h0)
theorem ZnL {W:World} {laid:List (String×DataW Unit)} {nm:String} {d:DataW Unit} {g tA tE:Nat} {fld:Field} {ps rs:Array TypeId} {vd:Bool} {n:Nat} (toks:List (List UInt8)) (fs:List FuncId)
  (h:laidMetH Tryz.prog laid W) (hm:(nm,DataW.iface "func table" d)∈laid) (hg:Tryz.prog.globalNamed nm=some g) (ht:(Tryz.prog.globals[g]?).map (·.type)=some tA)
  (uA:Tryz.prog.underlying tA=some (.array n tE)) (uE:Tryz.prog.underlying tE=some (.struct #[fld])) (hfo:fld.offset=0) (uF:Tryz.prog.underlying fld.type=some (.func ps rs vd))
  (cA:Tryz.prog.cellsOf tA=n) (cE:Tryz.prog.cellsOf tE=1) (cF:Tryz.prog.cellsOf fld.type=1) (hl1:toks.length=n) (hl2:fs.length=n)
  (hd0:(d.funcsOut:DataW (List UInt8)) = .agg (toks.map λs=>.agg [.held s]))
  (hone:∀ (i:Nat) (s:List UInt8) (f:FuncId),toks[i]? = some s->fs[i]? = some f->∃ b r,s=b::r/\((List.range Tryz.prog.funcs.size).filter λf=>(Tryz.prog.funcs[f]?).any (·.name.toUTF8.data.toList == b::r))=[f]) :
  ∃ t fr,W.heap[g]? = some (.cells ((fs.map λf=>Value.func (.func f) #[] #[]).toArray) t fr):=by
 obtain ⟨g',t,cs,fuel,p,hg',ht',hv,hd⟩:=h.funcs hm;obtain rfl:=W1M (hg.symm.trans hg');obtain rfl:=W1M (ht.symm.trans ht');obtain ⟨xs,m,rfl,hx,hlen,hn,hel⟩:=DataW.trod_array uA hd;rw[cA]at hlen;rw[cE]at hel;rw[hd0,W06,DataW.agg.injEq]at hx;have hx:=hx.1
 have hcs:cs.toList=fs.map λf=>Value.func (.func f) #[] #[]:=by
  refine List.ext_getElem? λi=>?_
  by_cases hi:i<n
  . have e:=hel i hi;have h1:i<xs.length:=(by omega);have h2:i<toks.length:=(by omega);have h3:i<fs.length:=(by omega);have h4:i<cs.toList.length:=(by omega);obtain ⟨b,r,hb,ho⟩:=hone i _ _ (W07 h2) (W07 h3);rw[Nat.mul_one,W0x h4,W20,W1g,W07 h1]at e;have ey:=congrArg (λl=>l[i]?) hx;simp only[W09,W07 h2,W07 h1,W0m,W00]at ey;rw[hb]at ey;have:=cellF uE hfo uF cF ho e ey.symm;rw[W07 h4,W09,W07 h3,this];rfl
  . rw[W26 (by omega),W26 (by simp;omega)]
 simp only[World.var?,hg,W1o]at hv
 split at hv
 . rename_i cs' t fr heq;injection hv with hv
   have e:cs=(fs.map λf=>Value.func (.func f) #[] #[]).toArray:=(by rw[<- hcs]);exact ⟨t,fr,by rw[heq,hv,e]⟩
 . cases hv
def TabB (W:World) (g:Nat) (fs:List FuncId):Prop:=∃ t fr,W.heap[g]? = some (.cells ((fs.map λf=>Value.func (.func f) #[] #[]).toArray) t fr)
def tabA (fs:List FuncId):List AV:=fs.map λf=>.func (.func f) [] []
theorem ZnM {W:World} {g:Nat} {fs:List FuncId} (h:TabB W g fs):PV noM W (.vptr (tabA fs) 0) (.pointer (some ⟨g,0,none⟩)):=by
 obtain ⟨t,fr,hb⟩:=h;refine .vptr _ 0 g 0 (λj=>(((fs.map λf=>Value.func (.func f) #[] #[]).toArray)[j]?).getD undef) (W0c.1 hb).1 id ?_ ?_
 . intro j hj;have hj':j<fs.length:=(by simpa [tabA] using hj);simp[World.cell?,hb,hj']
 . intro j x hx;unfold tabA at hx;rw[W09,W04]at hx;obtain ⟨f,hf,rfl⟩:=hx;have hj':=(W02.1 hf).1;have e:((fs.map λf=>Value.func (.func f) #[] #[]).toArray)[j]? = some (.func (.func f) #[] #[]):=(by simp[hf]);rw[e];exact .func _ [] [] #[] #[] rfl rfl (by simp) (by simp)
def fsC:List FuncId:=[260,261,262,263]
def fsN:List FuncId:=[237,238,239,240,242,243,246,248]
def fsR:List FuncId:=[252,253,254,257,258]
set_option maxRecDepth 100000 in
theorem ZnN {W:World} (h:laidMetH Tryz.prog laid7 W):TabB W 0 fsN :=
 ZnL [[98,108,117,101,108,105,110,101,47,110,111,116,101,46,99,104,101,99,107,115,36,49],[98,108,117,101,108,105,110,101,47,110,111,116,101,46,99,104,101,99,107,115,36,50],[98,108,117,101,108,105,110,101,47,110,111,116,101,46,99,104,101,99,107,115,36,51],[98,108,117,101,108,105,110,101,47,110,111,116,101,46,99,104,101,99,107,115,36,52],[98,108,117,101,108,105,110,101,47,110,111,116,101,46,99,104,101,99,107,115,36,53],[98,108,117,101,108,105,110,101,47,110,111,116,101,46,99,104,101,99,107,115,36,54],[98,108,117,101,108,105,110,101,47,110,111,116,101,46,99,104,101,99,107,115,36,55],[98,108,117,101,108,105,110,101,47,110,111,116,101,46,99,104,101,99,107,115,36,56]] fsN h (W0z _ (W0H ..)) (by kernel_rfl) (by kernel_rfl) Tryz.underlying235 (fld:=_) Tryz.underlying234 rfl Tryz.underlying208 (by kernel_rfl) (by kernel_rfl) (by kernel_rfl) rfl rfl rfl
 (λi s f hs hf=>by
  match i,hs,hf with
  |0,hs,hf=>cases hs;cases hf;exact ⟨_,_,rfl,by kernel_rfl⟩
  |1,hs,hf=>cases hs;cases hf;exact ⟨_,_,rfl,by kernel_rfl⟩
  |2,hs,hf=>cases hs;cases hf;exact ⟨_,_,rfl,by kernel_rfl⟩
  |3,hs,hf=>cases hs;cases hf;exact ⟨_,_,rfl,by kernel_rfl⟩
  |4,hs,hf=>cases hs;cases hf;exact ⟨_,_,rfl,by kernel_rfl⟩
  |5,hs,hf=>cases hs;cases hf;exact ⟨_,_,rfl,by kernel_rfl⟩
  |6,hs,hf=>cases hs;cases hf;exact ⟨_,_,rfl,by kernel_rfl⟩
  |7,hs,hf=>cases hs;cases hf;exact ⟨_,_,rfl,by kernel_rfl⟩
  |i+8,hs,_=>simp at hs)
set_option maxRecDepth 100000 in
theorem ZnO {W:World} (h:laidMetH Tryz.prog laid7 W):TabB W 2 fsC :=
 ZnL [[98,108,117,101,108,105,110,101,47,115,104,101,101,116,46,99,104,101,99,107,115,36,49],[98,108,117,101,108,105,110,101,47,115,104,101,101,116,46,99,104,101,99,107,115,36,50],[98,108,117,101,108,105,110,101,47,115,104,101,101,116,46,99,104,101,99,107,115,36,51],[98,108,117,101,108,105,110,101,47,115,104,101,101,116,46,99,104,101,99,107,115,36,52]] fsC h (W0H ..) (by kernel_rfl) (by kernel_rfl) Tryz.underlying264 (fld:=_) Tryz.underlying263 rfl Tryz.underlying262 (by kernel_rfl) (by kernel_rfl) (by kernel_rfl) rfl rfl rfl
 (λi s f hs hf=>by
  match i,hs,hf with
  |0,hs,hf=>cases hs;cases hf;exact ⟨_,_,rfl,by kernel_rfl⟩
  |1,hs,hf=>cases hs;cases hf;exact ⟨_,_,rfl,by kernel_rfl⟩
  |2,hs,hf=>cases hs;cases hf;exact ⟨_,_,rfl,by kernel_rfl⟩
  |3,hs,hf=>cases hs;cases hf;exact ⟨_,_,rfl,by kernel_rfl⟩
  |i+4,hs,_=>simp at hs)
set_option maxRecDepth 100000 in
theorem ZnP {W:World} (h:laidMetH Tryz.prog laid7 W):TabB W 1 fsR :=
 ZnL [[98,108,117,101,108,105,110,101,47,114,101,99,97,108,108,46,99,104,101,99,107,115,36,49],[98,108,117,101,108,105,110,101,47,114,101,99,97,108,108,46,99,104,101,99,107,115,36,50],[98,108,117,101,108,105,110,101,47,114,101,99,97,108,108,46,99,104,101,99,107,115,36,51],[98,108,117,101,108,105,110,101,47,114,101,99,97,108,108,46,99,104,101,99,107,115,36,52],[98,108,117,101,108,105,110,101,47,114,101,99,97,108,108,46,99,104,101,99,107,115,36,53]] fsR h (W0z _ (W0z _ (W0H ..))) (by kernel_rfl) (by kernel_rfl) Tryz.underlying245 (fld:=_) Tryz.underlying244 rfl Tryz.underlying242 (by kernel_rfl) (by kernel_rfl) (by kernel_rfl) rfl rfl rfl
 (λi s f hs hf=>by
  match i,hs,hf with
  |0,hs,hf=>cases hs;cases hf;exact ⟨_,_,rfl,by kernel_rfl⟩
  |1,hs,hf=>cases hs;cases hf;exact ⟨_,_,rfl,by kernel_rfl⟩
  |2,hs,hf=>cases hs;cases hf;exact ⟨_,_,rfl,by kernel_rfl⟩
  |3,hs,hf=>cases hs;cases hf;exact ⟨_,_,rfl,by kernel_rfl⟩
  |4,hs,hf=>cases hs;cases hf;exact ⟨_,_,rfl,by kernel_rfl⟩
  |i+5,hs,_=>simp at hs)
def G7:Nat->Option (List AV):=λg=>if g=2 then some (tabA fsC) else if g=0 then some (tabA fsN) else if g=1 then some (tabA fsR) else none
theorem ZnQ:GC G7:=rfl
theorem ZnR:GN G7:=rfl
theorem ZnS:GP G7:=rfl
theorem ZnT {W:World} (h:laidMetH Tryz.prog laid7 W):GR G7 noM W:=by
 intro g cs hg;simp only[G7]at hg
 split at hg
 . rename_i e;subst e;cases hg;exact ZnM (ZnO h)
 . split at hg
   . rename_i e;subst e;cases hg;exact ZnM (ZnN h)
   . split at hg
     . rename_i e;subst e;cases hg;exact ZnM (ZnP h)
     . cases hg
def nteK:List TY:=[.int .i64,.int .i64,.int .u8,.int .i64,.int .i64,.int .i64,.int .i64,.int .i64,.bool,.int .u8]
def hldK:List TY:=[.int .i64,.int .i64,.int .i64,.sl [.int .i64]]
def prtK:List TY:=[.int .i64,.int .i64,.int .i64,.int .i64,.int .i64,.int .i64,.int .u8]
def prsK:List TY:=[.sl isK2,.sl nteK,.sl hldK,.sl prtK]
theorem ZnU {xs:List AV} (h:TVs nteK xs):∃ x:Nte,xs=na x/\NOk7 x:=by
 obtain ⟨x0,_,rfl,h0,h⟩:=h.cons_inv;obtain ⟨x1,_,rfl,h1,h⟩:=h.cons_inv;obtain ⟨x2,_,rfl,h2,h⟩:=h.cons_inv;obtain ⟨x3,_,rfl,h3,h⟩:=h.cons_inv;obtain ⟨x4,_,rfl,h4,h⟩:=h.cons_inv;obtain ⟨x5,_,rfl,h5,h⟩:=h.cons_inv;obtain ⟨x6,_,rfl,h6,h⟩:=h.cons_inv;obtain ⟨x7,_,rfl,h7,h⟩:=h.cons_inv;obtain ⟨x8,_,rfl,h8,h⟩:=h.cons_inv;obtain ⟨x9,_,rfl,h9,h⟩:=h.cons_inv;obtain rfl:=h.nil_inv;obtain ⟨v0,rfl,-⟩:=h0.int_inv;obtain ⟨v1,rfl,-⟩:=h1.int_inv;obtain ⟨v2,rfl,k2⟩:=h2.int_inv;obtain ⟨v3,rfl,-⟩:=h3.int_inv;obtain ⟨v4,rfl,-⟩:=h4.int_inv;obtain ⟨v5,rfl,-⟩:=h5.int_inv;obtain ⟨v6,rfl,-⟩:=h6.int_inv;obtain ⟨v7,rfl,-⟩:=h7.int_inv;obtain ⟨v8,rfl⟩:=h8.bool_inv;obtain ⟨v9,rfl,k9⟩:=h9.int_inv;obtain ⟨a2,b2⟩:=bounds_u8 k2;obtain ⟨a9,b9⟩:=bounds_u8 k9;exact ⟨⟨v0,v1,v2,v3,v4,v5,v6,v7,v8,v9⟩,rfl,a2,b2,a9,b9⟩
theorem ZnV {xs:List AV} (h:TVs hldK xs):∃ x:Hld,xs=hoa x:=by
 obtain ⟨x0,_,rfl,h0,h⟩:=h.cons_inv;obtain ⟨x1,_,rfl,h1,h⟩:=h.cons_inv;obtain ⟨x2,_,rfl,h2,h⟩:=h.cons_inv;obtain ⟨x3,_,rfl,h3,h⟩:=h.cons_inv;obtain rfl:=h.nil_inv;obtain ⟨v0,rfl,-⟩:=h0.int_inv;obtain ⟨v1,rfl,-⟩:=h1.int_inv;obtain ⟨v2,rfl,-⟩:=h2.int_inv;obtain ⟨rows,rfl,-,g⟩:=h3.sl_inv;obtain ⟨ds,rfl⟩:=Zlh (f:=ia) λr hr=>ZnJ (g r hr)
 exact ⟨⟨v0,v1,v2,ds⟩,rfl⟩
theorem ZnW {xs:List AV} (h:TVs prtK xs):∃ x:Prt,xs=ptA x/\POk x:=by
 obtain ⟨x0,_,rfl,h0,h⟩:=h.cons_inv;obtain ⟨x1,_,rfl,h1,h⟩:=h.cons_inv;obtain ⟨x2,_,rfl,h2,h⟩:=h.cons_inv;obtain ⟨x3,_,rfl,h3,h⟩:=h.cons_inv;obtain ⟨x4,_,rfl,h4,h⟩:=h.cons_inv;obtain ⟨x5,_,rfl,h5,h⟩:=h.cons_inv;obtain ⟨x6,_,rfl,h6,h⟩:=h.cons_inv;obtain rfl:=h.nil_inv;obtain ⟨v0,rfl,-⟩:=h0.int_inv;obtain ⟨v1,rfl,-⟩:=h1.int_inv;obtain ⟨v2,rfl,-⟩:=h2.int_inv;obtain ⟨v3,rfl,-⟩:=h3.int_inv;obtain ⟨v4,rfl,-⟩:=h4.int_inv;obtain ⟨v5,rfl,-⟩:=h5.int_inv;obtain ⟨v6,rfl,k6⟩:=h6.int_inv;exact ⟨⟨v0,v1,v2,v3,v4,v5,v6⟩,rfl,bounds_u8 k6⟩
theorem ZnX {xs:List AV} (h:TVs prsK xs):∃ (r:List Iss) (l:List Nte) (hs:List Hld) (ps:List Prt),AV.agg xs=prA r l hs ps/\(∀ x∈r,KOk x)/\(∀ x∈l,NOk7 x)/\∀ x∈ps,POk x:=by
 obtain ⟨x0,_,rfl,h0,h⟩:=h.cons_inv;obtain ⟨x1,_,rfl,h1,h⟩:=h.cons_inv;obtain ⟨x2,_,rfl,h2,h⟩:=h.cons_inv;obtain ⟨x3,_,rfl,h3,h⟩:=h.cons_inv;obtain rfl:=h.nil_inv;obtain ⟨rows,rfl,-,g⟩:=h0.sl_inv;obtain ⟨r,rfl,hr⟩:=Zlp (f:=isa) (p:=KOk) λr hr=>Zlo (g r hr)
 obtain ⟨rows,rfl,-,g⟩:=h1.sl_inv;obtain ⟨l,rfl,hl⟩:=Zlp (f:=na) (p:=NOk7) λr hr=>ZnU (g r hr)
 obtain ⟨rows,rfl,-,g⟩:=h2.sl_inv;obtain ⟨hs,rfl⟩:=Zlh (f:=hoa) λr hr=>ZnV (g r hr)
 obtain ⟨rows,rfl,-,g⟩:=h3.sl_inv;obtain ⟨ps,rfl,hp⟩:=Zlp (f:=ptA) (p:=POk) λr hr=>ZnW (g r hr)
 exact ⟨r,l,hs,ps,rfl,hr,hl,hp⟩
theorem ZnY {P:Program} {f:FuncId} {fn:Func} {s:ChangeSpec} {c:OpenClaim}
  (h1:c.wf (OpenSpec.ofChange s)=true) (h1a:laidOutB P=true) (h1b:mapsRowed P=true)
  (h2:(fn.params.all (P.readableRec ·)&&namedTie P c.named s.vars&&(c.stops == [])&&(P.stops == [])&&(c.knobs == [])&&(P.stopKnobs == []))=true)
  (h3:(c.inPlace == P.inPlace f)=true) (h4:(c.unfollowed == P.unfollowed f)=true) (h5:(c.recurses == P.recurses f)=true) (h6:(c.named == P.varsNamed f)=true)
  (h7:((c.maps == (fn.params.toList++s.plain.varTypes P).any (P.mapsRec ·))&&(c.ifaces == (fn.params.toList++s.plain.varTypes P).any (P.ifacesRec ·))&&(c.mapsOut == P.mapsAmong fn.resultTypes.toList)&&(c.loops == (fn.params.toList++s.plain.varTypes P).any (P.loopsFrom ·))&&(c.wideKeys == (fn.params.toList++s.plain.varTypes P++fn.resultTypes.toList).any (P.wideKeysFrom ·))&&s.vars.all (P.varReadable ·)&&fn.resultTypes.all (λt=>P.readableRec t&&decide (t<P.types.size))&&(c.ifacesOut == fn.resultTypes.toList.any (P.ifacesRec ·))&&(c.loopsOut == fn.resultTypes.toList.any (P.loopsFrom ·)))=true)
  (h8:(c.plainKeys == P.plainKeys)=true) (h9:c.shortTexts.isNone=true) (h10:P.stopsHeard=true) (h11:P.mayEnter=true) (h12:(c.lifted == P.liftsFinal)=true) (h13:(P.make == some c.make)=true)
  (h14:((c.kinds == (if c.domain.isEmpty then [] else fn.params.toList.map λt=>match P.underlying t with|some (.int k)=>some k|_=>none))&&(c.pinned == c.pinnedBy)&&(c.veiled == (fn.params.toList++s.plain.varTypes P++fn.resultTypes.toList).any (P.veiledRec ·))&&c.veiledFits P fn.params.toList (fn.params.toList++s.plain.varTypes P++fn.resultTypes.toList))=true) :
  joinedFacts P f fn s c=true:=by
 rw[Bool.and_eq_true,Bool.and_eq_true,Bool.and_eq_true,Bool.and_eq_true,Bool.and_eq_true]at h2;rw[Bool.and_eq_true,Bool.and_eq_true,Bool.and_eq_true,Bool.and_eq_true,Bool.and_eq_true,Bool.and_eq_true,Bool.and_eq_true,Bool.and_eq_true]at h7;obtain ⟨⟨⟨⟨⟨a1,a2⟩,a3⟩,a4⟩,a5⟩,a6⟩:=h2;obtain ⟨⟨⟨⟨⟨⟨⟨⟨b1,b2⟩,b3⟩,b4⟩,b5⟩,b6⟩,b7⟩,b8⟩,b9⟩:=h7;unfold joinedFacts;rw[h1,h1a,h1b,a1,a2,a3,a4,a5,a6,h3,h4,h5,h6,b1,b2,b3,b4,b5,b6,b7,b8,b9,h8,h9,h10,h11,h12,h13];simp only[Bool.true_and];exact h14
theorem ZnZ:laidOutB Tryz.prog=true:=by kernel_rfl
theorem Zo0:mapsRowed Tryz.prog=true:=by kernel_rfl
theorem Zo1:(false == Tryz.prog.plainKeys)=true:=by kernel_rfl
theorem Zo2:Tryz.prog.stopsHeard=true:=by kernel_rfl
theorem Zo3:Tryz.prog.mayEnter=true:=by kernel_rfl
theorem Zo4:(Rows.recallHoldsRow.lifted == Tryz.prog.liftsFinal)=true:=by kernel_rfl
theorem Zo5:(Tryz.prog.make == some Rows.recallHoldsRow.make)=true:=by kernel_rfl
theorem Zo6:Tryz.prog.mainIs=some (true, "c78c3ff270fe74a990be3be0c8d074bef76ac0378b180a9ded0d213bc229583d".toList):=by kernel_rfl
theorem Zo7:false=Tryz.prog.looks []:=by kernel_rfl
end Go.Proofs.YtcdlimgkliklhaaGreatDoor
