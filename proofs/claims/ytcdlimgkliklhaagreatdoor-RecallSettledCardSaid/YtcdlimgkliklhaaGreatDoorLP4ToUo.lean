/-
  slices.Insert of one print that does not come last: the library's own text, walked by its two roads (room, no room).
-/
import Derived.Shelf.Spec.SlicesInsert
import Derived.WalkKit
import Derived.Lib.Walk
import Derived.Lib.SliceRun
import Derived.Lib.JoinLaws
import Derived.Lib.AppendZerosOnto
import Derived.Lib.Overlaps
import Derived.Laws.Externs
import Derived.Laws.IdiomCopy
import Derived.Laws.NewBlocks
import Derived.Deep.RegionLaw
import Derived.Test.YtcdlimgkliklhaaGreatDoorLQlToRci
set_option linter.all false
set_option maxHeartbeats 8000000
namespace Go.Proofs.YtcdlimgkliklhaaGreatDoor
open Go.Proofs.Tryz (prog)
open IntKind (i64)
open Go.RowKit Go.Lib
def Znn {P:Program} (w:World) (dT sT ty elem:TypeId) (b o dLen dCap:Nat) (a:Addr) (sLen sCap sz:Nat) (cs:List Value)
  (hu:P.underlying dT=some (.slice elem)) (hs:(P.info? elem).map (·.size)=some sz) (hn:cs.length=Nat.min sLen dLen*sz)
  (hsrc:∀ j v,cs[j]? = some v->w.cell? (a.add j)=some v) (hc:∀ j,j<cs.length->(w.cell? ⟨b,o+j,none⟩).isSome=true) (hf:∀ j,j<cs.length->w.frozen? ⟨b,o+j,none⟩=false) (h1:∀ v∈cs,v.oneCell'=true) :
  (Builtin.copy_ #[dT,sT] ty #[.slice (some ⟨b,o,none⟩) dLen dCap,.slice (some a) sLen sCap]).run P w = .ok (goInt (Nat.min sLen dLen)) (w.setCells b o cs):=by
 have hl:=run_loadCells_list (P:=P) w a cs hsrc;have hst:=run_storeCells_cells (P:=P) b o cs 0 w (by simpa using hc) (by simpa using hf) h1
 cases hq:P.info? elem with
 |none=>simp[hq]at hs
 | some i =>
   have hi:i.size=sz:=(by simpa [hq] using hs);simp[Builtin.copy_,run_underlying hu,Builtin.lenOf,Builtin.firstCells,sizeOf,typeInfo,hq,hi,<- hn,hl,hst]
def Zns {P:Program} (w:World) (tS tR e:TypeId) (ht:P.underlying tS=some (.slice e)) (size:Nat) (hz:∀ w,(Go.sizeOf e).run P w = .ok size w)
  (a b:Addr) (la ca lb cb:Nat) (hne:a.block≠b.block) (tA tB:TypeId) (kA kB:Nat)
  (hsa:w.shape? a.block=some (tA,kA)) (hkA:kA≠0) (hsb:w.shape? b.block=some (tB,kB)) (hfb:w.frozen? b=false) (hfe:w.frozen? { block:=b.block,off:=kB }=false) :
  (Extern.SlicesOverlaps.overlaps #[tS,tS] #[tR] #[.slice (some a) la ca,.slice (some b) lb cb]).run P w = .ok (.bool false) w:=by
 have hnb:(a.block != b.block)=true:=(by simpa using hne);have hnb':(a.block == b.block)=false:=by simpa using hne
 change Sem.run P (underlying tS>>=_) w=_
 by_cases h0:la=0∨lb=0∨size=0
 . simp[run_underlying ht,hz,h0]
 . cases kA with
   |zero=>exact absurd rfl hkA
   | succ kA =>
     cases q1:w.frozen? a <;> cases q2:w.frozen? { block:=a.block,off:=kA+1 } <;>
      simp[run_underlying ht,hz,h0,hnb,hnb',frozen,noView,viewAt,mayBeOne,stringish,shape,Sem.run,hsa,hsb,hfb,hfe,q1,q2]
set_option maxRecDepth 100000 in
def Znt (b off n c i vb voff vc:Nat) (cs vs:List Value) (w:World) (hi:i<n) (hroom:n+1<=c) (hc63:c<=9223372036854775807) (hvb:vb≠b)
  (hcl:cs.length=n*7) (hvl:vs.length=7)
  (hcs:∀ j v,cs[j]? = some v->w.cell? ⟨b,off+j,none⟩=some v) (hsp:∀ j,j<(n+1)*7->(w.cell? ⟨b,off+j,none⟩).isSome=true) (hfz:∀ j,j<(n+1)*7->w.frozen? ⟨b,off+j,none⟩=false)
  (hvs:∀ j v,vs[j]? = some v->w.cell? ⟨vb,voff+j,none⟩=some v) (h1c:∀ v∈cs,v.oneCell'=true) (h1v:∀ v∈vs,v.oneCell'=true)
  (tA tB:TypeId) (kA kB:Nat) (hsa:w.shape? vb=some (tA,kA)) (hkA:kA≠0) (hsb:w.shape? b=some (tB,kB)) (hfb:∀ j,w.frozen? ⟨b,j,none⟩=false) :
  Calls prog 108 #[.slice (some ⟨b,off,none⟩) n c,.int .i64 i,.slice (some ⟨vb,voff,none⟩) 1 vc] w λe w' =>
   e = .returned (.slice (some ⟨b,off,none⟩) (n+1) c)/\w'=(w.drew.setCells b (off+(i+1)*7) (cs.drop (i*7))).setCells b (off+i*7) vs:=by
 have hz2:¬((i:Int)=(n:Int)):=(by omega);obtain ⟨ie,hie⟩ : ∃ ie,prog.info? 70=some ie:=⟨_,rfl⟩;have hsz7:ie.size=7:=(by revert hie;rintro ⟨⟩;rfl);have hsz:(prog.info? 70).map (·.size)=some 7:=(by rw[hie];simp[hsz7]);have hso:∀ w,(Go.sizeOf 70).run prog w = .ok 7 w:=λw=>by simp[sizeOf,typeInfo,hie,hsz7]
 have hov:∀ lb cb,(callFunc 158 #[.slice (some ⟨vb,voff,none⟩) 1 vc,.slice (some ⟨b,off+(i+1)*7,none⟩) lb cb]).run prog w = .ok (.value (.bool false)) w:=λlb cb=>by
  rw[run_callFunc_extern Tryz.func158 (by kernel_rfl) (by kernel_rfl) (by kernel_rfl) (e:=Extern.SlicesOverlaps.overlaps #[29,29] #[4]) (by kernel_rfl),
   Zns w 29 4 70 Tryz.underlying29 7 hso ⟨vb,voff,none⟩ ⟨b,off+(i+1)*7,none⟩ 1 vc lb cb hvb tA tB kA kB hsa hkA hsb (hfb _) (hfb _)]
  rfl
 have hdl:(cs.drop (i*7)).length=(n-i)*7:=(by rw[List.length_drop,hcl,Nat.sub_mul]);have hw1:i64.wrap ((i:Int)+1)=(i:Int)+1:=(by rw[IntKind.wrap_i64];omega);have hw2:i64.wrap ((n:Int)+1)=(n:Int)+1:=(by rw[IntKind.wrap_i64];omega);have hb1:(0:Int)<=(i:Int)+1:=(by omega);have hin:i<=n:=(by omega);have htn:((i:Int)+1).toNat=i+1:=(by omega);have htn2:((n:Int)+1).toNat=n+1:=(by omega);have hb2:¬(c=i+1):=(by omega);have hb3:(i:Int)<=(n:Int)+1:=(by omega);have hb4:¬(c=i):=(by omega);have hcn:¬((n:Int)+1 > (c:Int)):=(by omega);have hcn2:¬((c:Int)<(n:Int)+1):=(by omega);have hsp0:∀ j,j<(n+1)*7->(w.drew.cell? ⟨b,off+j,none⟩).isSome=true:=hsp;have e1:n-i+1+i=n+1:=(by omega);have m1:(n+1)*7=n*7+7:=(by omega);have m2:(i+1)*7=i*7+7:=(by omega);have m3:i*7+(n-i)*7=n*7:=by rw[<- W0Z];congr 1;omega
 have hcp1:∀ ty dc sc,(Builtin.copy_ #[29,29] ty #[.slice (some ⟨b,off+(i+1)*7,none⟩) (n-i) dc,.slice (some ⟨b,off+i*7,none⟩) (n+1-i) sc]).run prog w.drew = .ok (goInt ((n-i:Nat):Int)) (w.drew.setCells b (off+(i+1)*7) (cs.drop (i*7))):=λty dc sc=>by
  have hmin:Nat.min (n+1-i) (n-i)=n-i:=by simp only[Nat.min_def];split <;> omega
  have h:=Znn w.drew 29 29 ty 70 b (off+(i+1)*7) (n-i) dc ⟨b,off+i*7,none⟩ (n+1-i) sc 7 (cs.drop (i*7)) Tryz.underlying29 hsz (by rw[hmin,hdl])
   (λj v hj=>by rw[Addr.add_lit,W1v];exact hcs (i*7+j) v (by rwa [W13]at hj))
   (λj hj=>by rw[W1v];exact hsp0 _ (by omega)) (λj hj=>by rw[W1v];exact hfz _ (by omega)) (λv hv=>h1c v (W1T hv))
  rwa [hmin]at h
 obtain ⟨W1,hW1⟩:=Qex (w.drew.setCells b (off+(i+1)*7) (cs.drop (i*7)))
 have hsp1:∀ k,k<(n+1)*7->(W1.cell? ⟨b,off+k,none⟩).isSome=true:=λk hk=>by
  rw[hW1];exact isSome_setCells b _ _ _ (λj hj=>by rw[W1v];exact hsp0 _ (by omega)) _ (hsp0 k hk)
 have hcp2:∀ ty dc,(Builtin.copy_ #[29,29] ty #[.slice (some ⟨b,off+i*7,none⟩) (n+1-i) dc,.slice (some ⟨vb,voff,none⟩) 1 vc]).run prog W1 = .ok (goInt 1) (W1.setCells b (off+i*7) vs):=λty dc=>by
  have hmin:Nat.min 1 (n+1-i)=1:=by simp only[Nat.min_def];split <;> omega
  have h:=Znn W1 29 29 ty 70 b (off+i*7) (n+1-i) dc ⟨vb,voff,none⟩ 1 vc 7 vs Tryz.underlying29 hsz (by rw[hmin,hvl])
   (λj v hj=>by
    rw[Addr.add_lit,hW1,World.cell?_setCells_out b _ _ _ _ (λh _=>absurd h hvb)];exact hvs j v hj)
   (λj hj=>by rw[W1v];exact hsp1 _ (by omega)) (λj hj=>by rw[hW1,World.frozen?_setCells,W1v];exact hfz _ (by omega)) h1v
  rwa [hmin]at h
 rw[hW1]at hcp2;clear e1 m1 m2 m3
 go_enter Tryz.func108,Tryz.ntmps108
 go_wp2_with (simp only[hov])
 go_region_law (refine step_copy_runI rfl _ _ 29 29 rfl _ _ (by simp[Act.eval,Act.put]) (by simp[Act.eval,Act.put]) (hcp1 _ _ _) ?_)
 go_wp2_with (simp only[hcp2])
 go_ret
 first|exact ⟨rfl,rfl⟩|exact ⟨rfl,by rw[hW1]⟩
set_option maxRecDepth 100000 in
def Znu (b off n c i vb voff vc:Nat) (cs vs:List Value) (w:World) (hi:i<n) (hnc:n<=c) (hroom:c<n+1) (hbig:(n+1)*56<=140737488355328)
  (hcl:cs.length=n*7) (hvl:vs.length=7)
  (hcs:∀ j v,cs[j]? = some v->w.cell? ⟨b,off+j,none⟩=some v)
  (hvs:∀ j v,vs[j]? = some v->w.cell? ⟨vb,voff+j,none⟩=some v) (h1c:∀ v∈cs,v.oneCell'=true) (h1v:∀ v∈vs,v.oneCell'=true)
  (ie:TypeInfo) (z:Value) (hie:prog.info? 70=some ie) (hz:ie.zero=some z) (hsz7:ie.size=7) (hzb:ie.bytes=56) (hzs:z.cells.size=7) :
  Calls prog 108 #[.slice (some ⟨b,off,none⟩) n c,.int .i64 i,.slice (some ⟨vb,voff,none⟩) 1 vc] w λe w' =>
   e = .returned (.slice (some ⟨w.heap.size,0,none⟩) (n+1) (grownCap w (n+1) c 70)) /\
   w'=(((w.drew.alloc (.cells ((cs.take (i*7)).toArray++Builtin.zeroCells z.cells (n+1-i)++Builtin.zeroCells z.cells (grownCap w (n+1) c 70-(n+1))) 70)).setCells w.heap.size (i*7) vs).drew).setCells w.heap.size ((i+1)*7) (cs.drop (i*7)):=by
 have hz2:¬((i:Int)=(n:Int)):=(by omega);have hz3:(c:Int)<(n:Int)+1:=(by omega);have hsz:(prog.info? 70).map (·.size)=some 7:=(by rw[hie];simp[hsz7]);have hbw:b<w.heap.size:=block_lt_of_cell (hcs 0 _ (W07 (by omega)));have hvw:vb<w.heap.size:=block_lt_of_cell (hvs 0 _ (W07 (by omega)));have hkk:(n:Int)+1-(i:Int)=((n+1-i:Nat):Int):=(by omega);have hik:i+(n+1-i)=n+1:=(by omega);have m0:i*7+(n-i)*7=n*7:=(by rw[<- W0Z];congr 1;omega);have m2:(i+1)*7=i*7+7:=(by omega);have m1:(n+1)*7=n*7+7:=(by omega);have m3:(n+1-i)*7=(n-i)*7+7:=(by rw[show n+1-i=(n-i)+1 by omega];omega);have htl:(cs.take (i*7)).length=i*7:=by rw[W15];omega
 have hold:(Builtin.firstCells ie.size i (.slice (some ⟨b,off,none⟩) i c)).run prog w.drew = .ok (cs.take (i*7)).toArray w.drew:=by
  rw[hsz7]
  exact run_firstCells_some (w:=w.drew) 7 i ⟨b,off,none⟩ i c (cs.take (i*7)) htl (λj v hj=>by
   rw[Addr.add_lit];rw[W1m]at hj
   split at hj
   . exact hcs j v hj
   . cases hj)
 have hrz:∀ ty,(Builtin.append_ #[29,3] ty #[.slice (some ⟨b,off,none⟩) i c,.int .i64 ((n:Int)+1-(i:Int))]).run prog w =
   .ok (.slice (some ⟨w.heap.size,0,none⟩) (n+1) (grownCap w (n+1) c 70)) (w.drew.alloc (.cells ((cs.take (i*7)).toArray++Builtin.zeroCells z.cells (n+1-i)++Builtin.zeroCells z.cells (grownCap w (n+1) c 70-(n+1))) 70)):=λty=>by
  have h:=Lib.run_append_grow_zeros w 29 3 ty 70 ie z .i64 .i64 Tryz.underlying29 Tryz.underlying3 hie hz (some ⟨b,off,none⟩) i c (cs.take (i*7)) hold (n+1-i) (by omega) (by omega) (by omega) (by omega) (by rw[hzb];omega) (by rw[hzb,hik];exact growslice_fits hroom hbig);rw[hik]at h;rw[hkk];exact h
 obtain ⟨G,hG⟩:=Qex (grownCap w (n+1) c 70);obtain ⟨ROW,hROW⟩ : ∃ ROW:Array Value,ROW=(cs.take (i*7)).toArray++Builtin.zeroCells z.cells (n+1-i)++Builtin.zeroCells z.cells (G-(n+1)):=⟨_,rfl⟩;rw[<- hG]at hrz ⊢;rw[<- hROW]at hrz ⊢
 have hRl:(n+1)*7<=ROW.size:=by
  rw[hROW];simp only[Array.size_append,List.size_toArray,htl,size_zeroCells,hzs];omega
 obtain ⟨W1,hW1⟩:=Qex (w.drew.alloc (.cells ROW 70));rw[<- hW1]at hrz
 have hN:∀ j,j<(n+1)*7->(W1.cell? ⟨w.heap.size,j,none⟩).isSome=true:=λj hj=>by
  rw[hW1,World.cell?_alloc_at (w:=w.drew) ROW _ w.heap.size j rfl,W0n (by omega)];rfl
 have hNf:∀ j,W1.frozen? ⟨w.heap.size,j,none⟩=false:=λj=>by rw[hW1];exact World.frozen?_alloc_at (w:=w.drew) ROW _ w.heap.size j rfl
 have hOb:∀ j v,w.cell? ⟨b,j,none⟩=some v->W1.cell? ⟨b,j,none⟩=some v:=λj v h=>by rw[hW1,World.cell?_alloc_past (w:=w.drew) _ b j hbw];exact h
 have hOv:∀ j v,w.cell? ⟨vb,j,none⟩=some v->W1.cell? ⟨vb,j,none⟩=some v:=λj v h=>by rw[hW1,World.cell?_alloc_past (w:=w.drew) _ vb j hvw];exact h
 have hdl:(cs.drop (i*7)).length=(n-i)*7:=(by rw[List.length_drop,hcl];omega);have hbN:b≠w.heap.size:=by omega
 have hcpA:∀ ty dc,(Builtin.copy_ #[29,29] ty #[.slice (some ⟨w.heap.size,i*7,none⟩) (n+1-i) dc,.slice (some ⟨vb,voff,none⟩) 1 vc]).run prog W1 = .ok (goInt 1) (W1.setCells w.heap.size (i*7) vs):=λty dc=>by
  have hmin:Nat.min 1 (n+1-i)=1:=by simp only[Nat.min_def];split <;> omega
  have h:=Znn W1 29 29 ty 70 w.heap.size (i*7) (n+1-i) dc ⟨vb,voff,none⟩ 1 vc 7 vs Tryz.underlying29 hsz (by rw[hmin,hvl])
   (λj v hj=>by rw[Addr.add_lit];exact hOv _ v (hvs j v hj))
   (λj hj=>hN _ (by omega)) (λj hj=>hNf _) h1v
  rwa [hmin]at h
 have hcpB:∀ ty dc sc,(Builtin.copy_ #[29,29] ty #[.slice (some ⟨w.heap.size,(i+1)*7,none⟩) (n-i) dc,.slice (some ⟨b,off+i*7,none⟩) (n-i) sc]).run prog (W1.setCells w.heap.size (i*7) vs).drew = .ok (goInt ((n-i:Nat):Int)) ((W1.setCells w.heap.size (i*7) vs).drew.setCells w.heap.size ((i+1)*7) (cs.drop (i*7))):=λty dc sc=>by
  have hmin:Nat.min (n-i) (n-i)=n-i:=by simp
  have h:=Znn (W1.setCells w.heap.size (i*7) vs).drew 29 29 ty 70 w.heap.size ((i+1)*7) (n-i) dc ⟨b,off+i*7,none⟩ (n-i) sc 7 (cs.drop (i*7)) Tryz.underlying29 hsz (by rw[hmin,hdl])
   (λj v hj=>by
    rw[Addr.add_lit];show (W1.setCells w.heap.size (i*7) vs).cell? _=some v;rw[World.cell?_setCells_out _ _ _ _ _ (λh _=>absurd h hbN),W1v];exact hOb _ v (hcs (i*7+j) v (by rwa [W13]at hj)))
   (λj hj=>by
    show ((W1.setCells w.heap.size (i*7) vs).cell? _).isSome=true;exact isSome_setCells _ _ _ _ (λt ht=>hN _ (by omega)) _ (hN _ (by omega)))
   (λj hj=>by
    show (W1.setCells w.heap.size (i*7) vs).frozen? _=false;rw[World.frozen?_setCells];exact hNf _) (λv hv=>h1c v (W1T hv))
  rwa [hmin]at h
 have hGn:n+1<=G:=by rw[hG];exact grownCap_ge w _ _ _
 have hG63:G<=9223372036854775807:=by
  have:=grownCap_le_maxLen w (n+1) c 70 (by unfold maxLen;omega);rw[<- hG]at this;unfold maxLen at this;omega
 have hGi:¬(G=i):=(by omega);have hGim:¬(G=i+1):=(by omega);have hci:¬(c=i):=(by omega);rw[<- hW1];have hw1:i64.wrap ((i:Int)+1)=(i:Int)+1:=(by rw[IntKind.wrap_i64];omega);have hw2:i64.wrap ((n:Int)+1)=(n:Int)+1:=(by rw[IntKind.wrap_i64];omega);have hw3:i64.wrap ((n:Int)+1-(i:Int))=(n:Int)+1-(i:Int):=(by rw[IntKind.wrap_i64];omega);have hb1:(0:Int)<=(i:Int)+1:=(by omega);have hin:i<=n:=(by omega);have htn:((i:Int)+1).toNat=i+1:=(by omega);have hb3:(i:Int)<=(n:Int):=(by omega);clear hkk hik hold hROW hG hRl m0 m1 m2 m3 htl hdl hN hNf hOb hOv;clear hW1
 go_enter Tryz.func108,Tryz.ntmps108
 go_wp2_with (first
  |(at_builtin;refine Lib.wpList_append_run _ rfl _ _ _ _ rfl _ _ rfl rfl _ _ (hrz _) ?_)
  |(at_builtin;refine wpList_copy_runI _ rfl _ _ 29 29 rfl _ _ rfl rfl (hcpA _ _) ?_))
 go_region_law (refine step_copy_runI rfl _ _ 29 29 rfl _ _ (by simp[Act.eval,Act.put]) (by simp[Act.eval,Act.put]) (hcpB _ _ _) ?_)
 go_wp2
 go_ret
 exact ⟨rfl,rfl⟩
open Go.RowKit Go.Lib
def Znv {x:Prt} {y:AV} (h:y∈ptA x):∃ (k:IntKind) (n:Int),y = .int k n:=by
 simp only[ptA,W0g,W0Q,or_false]at h;rcases h with rfl|rfl|rfl|rfl|rfl|rfl|rfl <;> exact ⟨_,_,rfl⟩
def Znw (x:Prt):(ptA x).length=7:=rfl
def Znx {l:Jp} {x:Prt} {i:Nat} (hi:i<l.length) {m j:Nat} {r:List AV} {y:AV} (hm:((putP l x i).map ptA)[m]? = some r) (hj:r[j]? = some y) :
  j<7/\((m<i/\(l.map ptA)[m]? = some r)∨(m=i/\r=ptA x)∨(i<m/\(l.map ptA)[m-1]? = some r)):=by
 rw[W09,W04]at hm;obtain ⟨p,hp,rfl⟩:=hm;refine ⟨(W02.1 hj).1,?_⟩;unfold putP at hp;rw[W1s]at hp;have htl:(l.take i).length=i:=by simp;omega
 split at hp
 . rename_i q;rw[htl]at q;rw[List.getElem?_take_of_lt q]at hp;exact .inl ⟨q,by rw[W09,hp];rfl⟩
 . rename_i q;rw[htl]at q hp;by_cases e:m=i
   . subst e;rw[W2q,W2i,W00]at hp;exact .inr (.inl ⟨rfl,by rw[hp]⟩)
   . rw[show m-i=(m-i-1)+1 by omega,List.getElem?_cons_succ,W13,show i+(m-i-1)=m-1 by omega]at hp;exact .inr (.inr ⟨by omega,by rw[W09,hp];rfl⟩)
section
variable {G:Jg}
set_option maxRecDepth 100000 in
def Zny (l:Jp) (x:Prt) (i:Nat) (hi:i<l.length) (hl:l.length<=41) :
  PB prog G 108 [(1000,.row 7 (l.map ptA))] [.osl 1000 l.length,.int .i64 i,.vsl [ptA x]] (.osl 1000 (l.length+1)) [(1000,.row 7 ((putP l x i).map ptA))]:=by
 refine ⟨by kernel_rfl,λR W κ vs hG hN hW hX hE hk hsz hvs=>?_⟩;have hg:(obSt [(1000,.row 7 (l.map ptA))]).get 1000=some (.row 7 (l.map ptA)):=rfl;obtain ⟨vs⟩:=vs
 match vs,hsz with
 |[v,vi,vx],_ =>
 have hv:=hvs 0 _ v rfl rfl;have hvi:=hvs 1 _ vi rfl rfl;have hvx:=hvs 2 _ vx rfl rfl;obtain rfl:vi = .int .i64 i:=by cases hvi with|pv h=>cases h;rfl
 obtain ⟨b,s,c,cs,t,hκ,rfl,hnc,hc,hb,hs,hr,hx⟩:=hk.osl hv hg (by simp);obtain ⟨a',cap,sz',bx,ox,f,rfl,q1,q2,q3,q4,q5,q6,q7⟩:=ZO hvx.vsl_inv';obtain ⟨rfl,q3b,q3c⟩:=q3 (by simp);obtain rfl:sz'=7:=(q5 (ptA x) (by simp)).symm;have hlt:=hk.loc_lt hκ;have hbb:bx≠b:=λe=>q3c (.inr ⟨1000,s,by rw[e];exact hκ⟩)
 have hcell:∀ q,q<l.length*7->∃ u,cs[s+q]? = some u/\u.oneCell'=true:=λq hq=>by
  have hm:q / 7<l.length:=(by omega);have hj:q % 7<(ptA l[q / 7]).length:=(by rw[Znw];omega);obtain ⟨u,hu,hu2⟩:=hx (q / 7) (q % 7) (ptA l[q / 7]) ((ptA l[q / 7])[q % 7]) (by simp[hm]) (by simp[hj]);refine ⟨u,by rw[<- hu];congr 1;omega,?_⟩;obtain ⟨k,n,e⟩:=Znv (W0e hj);rw[e]at hu2
  cases hu2 with|pv h=>cases h;rfl
 have hnew:∀ q,q<7->W.cell? ⟨bx,ox+q,none⟩=some (f 0 q)/\(f 0 q).oneCell'=true:=λq hq=>by
  have h1:=q6 0 q (by simp) hq;have hj:q<(ptA x).length:=hq;have h2:=q7 0 q (ptA x) ((ptA x)[q]) (by simp) (by simp[hj]);refine ⟨by simpa using h1,?_⟩;obtain ⟨k,n,e⟩:=Znv (W0e hj);rw[e]at h2
  cases hf:f 0 q <;> rw[hf]at h2 <;> cases h2 <;> rfl
 obtain ⟨cl,hcl⟩ : ∃ cl:List Value,cl=(List.range (l.length*7)).map λq=>cs.getD (s+q) Go.undef:=⟨_,rfl⟩
 obtain ⟨vl,hvl⟩ : ∃ vl:List Value,vl=(List.range 7).map λq=>f 0 q:=⟨_,rfl⟩
 have hcll:cl.length=l.length*7:=(by rw[hcl];simp);have hvll:vl.length=7:=by rw[hvl];simp
 have hcla:∀ q u,cl[q]? = some u->q<l.length*7/\cs[s+q]? = some u/\u.oneCell'=true:=λq u hq=>by
  have hlt2:q<l.length*7:=(by have:=(W02.1 hq).1;omega);obtain ⟨u2,h1,h2⟩:=hcell q hlt2;rw[hcl,W09,W0L hlt2,W0m,W00,W0a,h1]at hq;simp only[W0P]at hq;subst hq;exact ⟨hlt2,h1,h2⟩
 have hclb:∀ q u,q<l.length*7->cs[s+q]? = some u->cl[q]? = some u:=λq u hq h1=>by
  rw[hcl,W09,W0L hq,W0m,W0a,h1];rfl
 have hvla:∀ q u,vl[q]? = some u->W.cell? ⟨bx,ox+q,none⟩=some u/\u.oneCell'=true:=λq u hq=>by
  have hlt2:q<7:=(by have:=(W02.1 hq).1;omega);rw[hvl,W09,W0L hlt2,W0m,W00]at hq;subst hq;exact hnew q hlt2
 have hvlb:∀ q,q<7->vl[q]? = some (f 0 q):=λq hq=>by rw[hvl,W09,W0L hq];rfl
 have h1c:∀ u∈cl,u.oneCell'=true:=λu hu=>by
  obtain ⟨q,hq⟩:=List.mem_iff_getElem?.1 hu;exact (hcla q u hq).2.2
 have h1v:∀ u∈vl,u.oneCell'=true:=λu hu=>by
  obtain ⟨q,hq⟩:=List.mem_iff_getElem?.1 hu;exact (hvla q u hq).2
 have hW:∀ q u,cl[q]? = some u->W.cell? ⟨b,s+q,none⟩=some u:=λq u hq=>by
  rw[World.cell?,hb];exact (hcla q u hq).2.1
 have hfz:∀ q,W.frozen? ⟨b,q,none⟩=false:=λq=>by simp[World.frozen?,hb]
 have hput:(putP l x i).length=l.length+1:=ZfZ;have m1:(l.length+1)*7=l.length*7+7:=by omega
 have fin:∀ (c2:Array Value) (o2:Nat),(∀ q u,q<i*7->cl[q]? = some u->c2[o2+q]? = some u)->(∀ q u,vl[q]? = some u->c2[o2+i*7+q]? = some u)->(∀ q u,cl[i*7+q]? = some u->c2[o2+(i+1)*7+q]? = some u) ->
   ∀ (m j:Nat) (r:List AV) (y:AV),((putP l x i).map ptA)[m]? = some r->r[j]? = some y->∃ v,c2[o2+m*7+j]? = some v/\VR ((obSt [(1000,.row 7 (l.map ptA))]).env R.M κ) W y v:=λc2 o2 f1 f2 f3 m j r y hm hj=>by
  obtain ⟨hj7,h|h|h⟩:=Znx hi hm hj
  . obtain ⟨u,h1,h2⟩:=hx m j r y h.2 hj;have hlm:=h.1;refine ⟨u,?_,h2⟩;rw[W1v];exact f1 _ u (by omega) (hclb _ u (by omega) (by rw[<- W1v];exact h1))
  . obtain ⟨rfl,rfl⟩:=h;exact ⟨f 0 j,f2 j _ (hvlb j hj7),.pv (q7 0 j (ptA x) y rfl hj)⟩
  . obtain ⟨u,h1,h2⟩:=hx (m-1) j r y h.2 hj;have hlm:m-1<l.length:=(by have:=(W02.1 h.2).1;simpa using this);refine ⟨u,?_,h2⟩;have e1:o2+m*7+j=o2+(i+1)*7+((m-1-i)*7+j):=(by omega);rw[e1];refine f3 _ u (hclb _ u (by omega) ?_);rw[<- h1];congr 1;omega
 have hrows:∀ r∈(putP l x i).map ptA,r.length=7:=λr h=>by
  obtain ⟨p,-,rfl⟩:=W0i.1 h;rfl
 have hlen:(l.map ptA).length<((putP l x i).map ptA).length:=(by simp only[W0N];omega);by_cases hroom:l.length+1<=c
 . have hsh:∃ tA kA,W.shape? bx=some (tA,kA)/\kA≠0:=by
    have h1:=(hnew 0 (by omega)).1;unfold World.cell? at h1;unfold World.shape?
    split at h1
    . rename_i c2 e2 f2 hh;simp only[Option.isSome_none,W05,if_false]at h1;have:=(W0c.1 h1).1;exact ⟨_,_,by rw[hh],by omega⟩
    . cases h1
   obtain ⟨tA,kA,s1,s2⟩:=hsh;have hcap:(l.length+1)*7<=c*7:=W0I 7 hroom;refine (Znt b s l.length c i bx ox cap cl vl W hi hroom (by unfold maxLen at hc;omega) hbb hcll hvll hW (λj hj=>by simp[World.cell?,hb];omega) (λj _=>hfz _) (λj u h=>(hvla j u h).1) h1c h1v tA t kA cs.size s1 s2 (by simp[World.shape?,hb]) hfz).mono ?_;rintro e W' ⟨rfl,rfl⟩;have hdl:(cl.drop (i*7)).length=(l.length-i)*7:=(by rw[List.length_drop,hcll,Nat.sub_mul]);have m3:i*7+(l.length-i)*7=l.length*7:=(by rw[<- W0Z];congr 1;omega);have hb':W.drew.heap[b]? = some (.cells cs t (0,0)):=hb;obtain ⟨c1,d1,d2,d3,d4⟩:=ZD b (cl.drop (i*7)) (s+(i+1)*7) W.drew cs t hb' (by omega);obtain ⟨c2,g1,g2,g3,g4⟩:=ZD b vl (s+i*7) _ c1 t d1 (by omega)
   obtain ⟨k1,k2⟩:=hk.regrow (rows':=(putP l x i).map ptA) (nb:=(b,s)) (W':=(W.drew.setCells b (s+(i+1)*7) (cl.drop (i*7))).setCells b (s+i*7) vl) hg hκ hlen (by rw[ZE,ZE];exact W0f _)
    (λj hj hne=>by rw[World.heap_setCells_other _ b _ _ (by rw[ZE];exact hj) hne,World.heap_setCells_other W.drew b _ _ hj hne];rfl) (by rw[World.os_setCells,World.os_setCells];rfl) (by rw[ZF,ZF];rfl) (by rw[World.output_setCells,World.output_setCells];rfl) g1 (.inl rfl)
    ⟨hrows,by rw[g2,d2,W0N,hput];simp only;omega,fin c2 s (λq u hq h=>by
     rw[g3 _ (.inl (by omega)),d3 _ (.inl (by omega))];exact (hcla q u h).2.1) (λq u h=>g4 q u h) (λq u h=>by
     rw[g3 _ (.inr (by omega))];exact d4 q u (by rw[W13];exact h))⟩
   exact ⟨_,_,rfl,k1,.osl 1000 _ 7 ((putP l x i).map ptA).length _ _ _ (by simp[St.env,St.get,obSt,lk,AObj.dim]) (by simp[hput]) λ_=>⟨b,s,c2,t,by simp[St.env],rfl,by simp,by simpa using hroom,hc,g1,by omega⟩⟩
 . obtain ⟨ie,hie⟩ : ∃ ie,prog.info? 70=some ie:=⟨_,rfl⟩;have hi3:∃ z,ie.zero=some z/\ie.size=7/\ie.bytes=56/\z.cells.size=7:=(by revert hie;rintro ⟨⟩;exact ⟨_,rfl,rfl,rfl,rfl⟩);obtain ⟨z,z1,z2,z3,z4⟩:=hi3;refine (Znu b s l.length c i bx ox cap cl vl W hi hnc (by omega) (by omega) hcll hvll hW (λj u h=>(hvla j u h).1) h1c h1v ie z hie z1 z2 z3 z4).mono ?_;have hge:=grownCap_ge W (l.length+1) c 70;have hcm:grownCap W (l.length+1) c 70<=maxLen:=grownCap_le_maxLen W (l.length+1) c 70 (by unfold maxLen;omega);generalize hgc:grownCap W (l.length+1) c 70=gc at *;rintro e W' ⟨rfl,rfl⟩;have hdl:(cl.drop (i*7)).length=(l.length-i)*7:=(by rw[List.length_drop,hcll,Nat.sub_mul]);have htl:(cl.take (i*7)).length=i*7:=(by rw[W15,hcll];omega);have m3:i*7+(l.length-i)*7=l.length*7:=(by rw[<- W0Z];congr 1;omega);have m4:(l.length+1-i)*7=(l.length-i)*7+7:=(by rw[show l.length+1-i=(l.length-i)+1 by omega];omega);have m5:(l.length+1)*7+(gc-(l.length+1))*7=gc*7:=(by rw[<- W0Z];congr 1;omega);obtain ⟨ROW,hROW⟩ : ∃ ROW:Array Value,ROW=(cl.take (i*7)).toArray++Builtin.zeroCells z.cells (l.length+1-i)++Builtin.zeroCells z.cells (gc-(l.length+1)):=⟨_,rfl⟩;rw[<- hROW]
   have hRs:ROW.size=gc*7:=by
    rw[hROW];simp only[Array.size_append,List.size_toArray,htl,size_zeroCells,z4];omega
   have hR1:∀ q u,q<i*7->cl[q]? = some u->ROW[q]? = some u:=λq u hq h=>by
    rw[hROW,W0W,if_pos (by simp only[Array.size_append,List.size_toArray,htl];omega),W0W,if_pos (by simp only[List.size_toArray,htl];omega),W2s,List.getElem?_take_of_lt hq];exact h
   obtain ⟨c1,d1,d2,d3,d4⟩:=ZD W.heap.size vl (i*7) (W.drew.alloc (.cells ROW 70)) ROW 70 (heap_alloc_new W.drew _) (by omega);obtain ⟨c2,g1,g2,g3,g4⟩:=ZD W.heap.size (cl.drop (i*7)) ((i+1)*7) ((W.drew.alloc (.cells ROW 70)).setCells W.heap.size (i*7) vl).drew c1 70 d1 (by omega);have hsz2:(W.drew.alloc (.cells ROW 70)).heap.size=W.heap.size+1:=by simp
   have hold:∀ j,j<W.heap.size->((((W.drew.alloc (.cells ROW 70)).setCells W.heap.size (i*7) vl).drew).setCells W.heap.size ((i+1)*7) (cl.drop (i*7))).heap[j]? = W.heap[j]?:=λj hj=>by
    rw[World.heap_setCells_other _ W.heap.size _ _ (by show j<((W.drew.alloc (.cells ROW 70)).setCells W.heap.size (i*7) vl).heap.size;rw[ZE,hsz2];omega) (by omega)];show ((W.drew.alloc (.cells ROW 70)).setCells W.heap.size (i*7) vl).heap[j]? = _;rw[World.heap_setCells_other _ W.heap.size _ _ (by rw[hsz2];omega) (by omega)];exact heap_alloc_old W.drew _ hj
   obtain ⟨k1,k2⟩:=hk.regrow (rows':=(putP l x i).map ptA) (nb:=(W.heap.size,0)) (W':=(((W.drew.alloc (.cells ROW 70)).setCells W.heap.size (i*7) vl).drew).setCells W.heap.size ((i+1)*7) (cl.drop (i*7))) hg hκ hlen
    (by rw[ZE];show _<=((W.drew.alloc (.cells ROW 70)).setCells W.heap.size (i*7) vl).heap.size;rw[ZE,hsz2];omega)
    (λj hj _=>hold j hj) (by rw[World.os_setCells];show ((W.drew.alloc (.cells ROW 70)).setCells W.heap.size (i*7) vl).os=_;rw[World.os_setCells];rfl)
    (by rw[ZF];show ((W.drew.alloc (.cells ROW 70)).setCells W.heap.size (i*7) vl).tape=_;rw[ZF];rfl)
    (by rw[World.output_setCells];show ((W.drew.alloc (.cells ROW 70)).setCells W.heap.size (i*7) vl).output=_;rw[World.output_setCells];rfl) g1
    (.inr ⟨rfl,by rw[ZE];show _<((W.drew.alloc (.cells ROW 70)).setCells W.heap.size (i*7) vl).heap.size;rw[ZE,hsz2];omega,hold b hlt⟩)
    ⟨hrows,by rw[g2,d2,hRs,W0N,hput];simp only;omega,fin c2 0 (λq u hq h=>by
     rw[W1O,g3 _ (.inl (by omega)),d3 _ (.inl (by omega))];exact hR1 q u hq h) (λq u h=>by
     have:=(W02.1 h).1;rw[W1O,g3 _ (.inl (by omega))];exact d4 q u h) (λq u h=>by
     rw[W1O];exact g4 q u (by rw[W13];exact h))⟩
   exact ⟨_,_,rfl,k1,.osl 1000 _ 7 ((putP l x i).map ptA).length _ _ _ (by simp[St.env,St.get,obSt,lk,AObj.dim]) (by simp[hput]) λ_=>⟨W.heap.size,0,c2,70,by simp[St.env],rfl,by simp,by simpa using hge,hcm,g1,by omega⟩⟩
end
section
open Qq Go.Proofs.Tryz
def Znz:RCode :=
 S [r 0 [b 3 1,n 4 O],S [r 1 [m 6 0,e 7 6,n 8 O],.block 0 (.loop (S [r 2 [o 9 .lss 8 7],.cond (.t 9) .skip (.exit 0),.block 1 (S [r 3 [m 10 8,m 5 10],R 4 [L 11 7 3,m 12 0,m 13 5,a [1,2] (i 14 7 12 13),a [3] (L 15 7 14),a [0,4] (w 16 (.eqs false [.i,.i,.i,.i,.i,.i,.i] (.t 11) (.t 15)))],K 16 5 [m 17 5,m 4 17]]),r 6 [k 18 .add 8 I,m 8 18]]))],r 7 [n 4 (.int .i64 (-1))],.ret]
def ZnA:List RRes:=[.t 4]
def ZnB:PCt prog 103 f103 Znz ZnA:=pcT func103 rfl
def ZnC:RCode :=
 S [r 0 [n 2 O],r 1 [m 3 0,w 4 (.vop (.sh false) [(.t 3),(.c (.int .u64 1))]),w 5 (.vop (.bits .and) [(.t 4),(.c (.int .u64 6148914691236517205))]),m 6 0,w 7 (.vop (.bits .and) [(.t 6),(.c (.int .u64 6148914691236517205))]),o 8 .add 5 7,m 0 8],r 2 [m 9 0,w 10 (.vop (.sh false) [(.t 9),(.c (.int .u64 2))]),w 11 (.vop (.bits .and) [(.t 10),(.c (.int .u64 3689348814741910323))]),m 12 0,w 13 (.vop (.bits .and) [(.t 12),(.c (.int .u64 3689348814741910323))]),o 14 .add 11 13,m 0 14],r 3 [m 15 0,w 16 (.vop (.sh false) [(.t 15),(.c (.int .u64 4))]),m 17 0,o 18 .add 16 17,w 19 (.vop (.bits .and) [(.t 18),(.c (.int .u64 1085102592571150095))]),m 0 19],r 4 [m 20 0,m 21 0,w 22 (.vop (.sh false) [(.t 21),(.c (.int .u64 8))]),o 23 .add 20 22,m 0 23],r 5 [m 24 0,m 25 0,w 26 (.vop (.sh false) [(.t 25),(.c (.int .u64 16))]),o 27 .add 24 26,m 0 27],r 6 [m 28 0,m 29 0,w 30 (.vop (.sh false) [(.t 29),(.c (.int .u64 32))]),o 31 .add 28 30,m 0 31],r 7 [m 32 0,w 33 (.conv .i64 (.t 32)),w 34 (.vop (.bits .and) [(.t 33),(.c (.int .i64 127))]),m 2 34],.ret]
def ZnD:List RRes:=[.t 2]
def ZnE:PCt prog 102 f102 ZnC ZnD:=pcT func102 rfl
def ZnF:RCode :=
 S [r 0 [n 3 (.bool false)],r 1 [l 4 1,w 5 (.nilck (.t 4)),f 6 4 5,l 7 6,m 8 0,c 9 87 [7,8],t 10 9,m 3 10],.ret]
def ZnG:List RRes:=[.t 3]
def ZnH:PCt prog 100 f100 ZnF ZnG:=pcT func100 rfl
def ZnI:RCode :=
 S [r 0 [n 2 .nils],S [r 1 [m 3 0,w 4 (.vop (.eqn false) [(.t 3),(.c .nils)])],K 4 2 [n 2 .nils]],r 3 [w 5 (.bsl true 1 0 [] []),m 6 0,w 7 (.app 1 8 (.t 5) (.t 6)),m 2 7],.ret]
def ZnJ:List RRes:=[.t 2]
def ZnK:PCt prog 156 f156 ZnI ZnJ:=pcT func156 rfl
def ZnL:RCode :=
 S [r 0 [w 2 (.alloc [.nils,.nils,.nils,.nils])],R 1 [m 8 0,a [0] (w 9 (.nilck (.t 8))),a [1] (f 10 0 9),a [2] (f 11 0 10),a [3] (f 12 1 11),a [4] (l 13 12),a [5] (c 14 120 [13]),a [6] (w 15 (.build [.nils,.nils] [(1,1,.t 14)])),m 16 0,a [8] (w 17 (.nilck (.t 16))),a [9] (f 18 0 17),a [10] (f 19 3 18),a [11] (l 20 19),a [12,6] (c 21 155 [20]),a [7,13] (w 22 (.build [.nils,.nils,.nils,.nils] [(0,2,.t 15),(3,1,.t 21)])),w 3 (.alloc [.nils,.nils,.nils,.nils]),a [15,14,13,0,1,2,3,4,5,6,7,8,9,10,11,12,13,14,15] (s 4 3 22)],S [r 2 [m 23 0,w 24 (.nilck (.t 23)),f 25 0 24,f 26 0 25,f 27 0 26,f 28 0 27,l 29 28,e 30 29,n 31 O],.block 0 (.loop (S [r 3 [o 32 .lss 31 30],.cond (.t 32) .skip (.exit 0),.block 1 (S [r 4 [i 33 5 29 31,L 34 5 33,w 5 (.alloc [O,O,.int .u8 0,.nils,.nils]),s 5 5 34],R 5 [f 35 3 5,a [0] (l 36 35),a [1] (c 37 121 [36]),f 38 4 5,a [3] (l 39 38),a [4,2] (c 40 122 [39]),a [0,1,2,3,4] (f 41 3 5),a [6,2,5,0,1,2,3,4] (s 1 41 37),a [0,1,2,3,4,5,6,7] (f 42 4 5),a [8,5,7,0,1,2,3,4,5,6,7] (s 1 42 40)],r 6 [f 43 0 3,f 44 0 43,f 45 0 44,l 46 45,L 47 5 5,w 48 (.bsl false 5 1 [O,O,.int .u8 0,.nils,.nils] [(0,.t 47)]),w 49 (.app 5 72 (.t 46) (.t 48)),f 50 0 3,f 51 0 50,f 52 0 51,s 1 52 49]]),r 7 [k 53 .add 31 I,m 31 53]]))],S [r 8 [m 54 0,w 55 (.nilck (.t 54)),f 56 0 55,f 57 2 56,l 58 57,e 59 58,n 60 O],.block 2 (.loop (S [r 9 [o 61 .lss 60 59],.cond (.t 61) .skip (.exit 2),.block 3 (S [r 10 [i 62 4 58 60,L 63 4 62,w 7 (.alloc [O,O,O,.nils]),s 4 7 63],r 11 [f 64 3 7,l 65 64,c 66 156 [65],f 67 3 7,s 1 67 66],r 12 [f 68 2 3,l 69 68,L 70 4 7,w 71 (.bsl false 4 1 [O,O,O,.nils] [(0,.t 70)]),w 72 (.app 4 48 (.t 69) (.t 71)),f 73 2 3,s 1 73 72]]),r 13 [k 74 .add 60 I,m 60 74]]))],r 14 [L 75 4 3,s 4 2 75],.ret]
def ZnM:List RRes:=[.c 2 true 4]
def ZnN:PCt prog 101 f101 ZnL ZnM:=pcT func101 rfl
def ZnO:RCode :=
 S [r 0 [b 4 0,w 8 (.alloc [.nils,.nils,.nils,.nils]),n 9 O],r 1 [L 21 4 4,m 22 1,w 23 (.call 89 [.t 21,.t 22,.c I]),m 20 23,x 24 0 20,x 25 1 20,w 10 (.alloc [.nilp]),s 1 10 24,m 11 25],S [r 2 [m 26 11,k 27 .neq 26 O],K 27 3 [w 28 (.build [.nils,.nils,.nils,.nils] []),m 29 11,s 4 8 28,m 9 29]],r 4 [n 12 (.int .u64 0)],S [r 5 [m 30 2,e 31 30,n 32 O],.block 0 (.loop (S [r 6 [o 33 .lss 32 31],.cond (.t 33) .skip (.exit 0),.block 1 (S [r 7 [i 34 1 30 32,l 35 34,m 14 35],r 8 [l 36 10,m 37 14,c 38 82 [36,37],m 15 38],S [r 9 [m 39 15,k 40 .lss 39 O],K 40 10 [w 41 (.build [.nils,.nils,.nils,.nils] []),s 4 8 41,n 9 (.int .i64 6)]],r 11 [m 42 12,m 43 15,w 44 (.vop (.sh true) [(.c (.int .u64 1)),(.t 43)]),w 45 (.vop (.bits .or) [(.t 42),(.t 44)]),m 12 45]]),r 12 [k 46 .add 32 I,m 32 46]]))],S [r 13 [m 47 3,w 48 (.mkf (.func 100) [] [.t 10]),c 49 85 [47,48]],K 49 14 [w 50 (.build [.nils,.nils,.nils,.nils] []),s 4 8 50,n 9 (.int .i64 6)]],r 15 [l 51 10,c 52 101 [51],w 16 (.alloc [.nils,.nils,.nils,.nils]),s 4 16 52],S [r 16 [m 53 12,c 54 102 [53],m 55 3,e 56 55,o 57 .add 54 56,k 58 .eql 57 O],K 58 17 [L 59 4 16,s 4 8 59,n 9 O]],S [r 18 [l 60 10,m 61 1,c 62 91 [60,61],e 63 62,n 64 O],.block 2 (.loop (S [r 19 [o 65 .lss 64 63],.cond (.t 65) .skip (.exit 2),.block 3 (S [r 20 [i 66 7 62 64,L 67 7 66,w 18 (.alloc [O,O,O,O,O,O,.int .u8 0]),s 7 18 67],S [r 21 [m 68 12,l 69 10,f 70 2 18,l 71 70,c 72 82 [69,71],w 73 (.vop (.sh false) [(.t 68),(.t 72)]),w 74 (.vop (.bits .and) [(.t 73),(.c (.int .u64 1))]),k 75 .eql 74 (.int .u64 0),m 76 75,g 76 true (m 77 3),g 76 true (f 78 3 18),g 76 true (f 79 0 78),g 76 true (l 80 79),g 76 true (c 81 87 [77,80]),g 76 true (t 82 81),v 83 76 82],.cond (.t 83) (.exit 3) .skip],R 22 [l 84 10,a [0] (w 85 (.nilck (.t 84))),a [1] (f 86 0 85),a [2] (f 87 3 86),a [3] (l 88 87),L 89 7 18,a [4,5] (c 90 103 [88,89]),a [6,6,0,1,2,3,4,5,6] (m 19 90)],R 23 [f 91 3 16,a [0] (l 92 91),m 93 19,f 94 3 16,a [3] (l 95 94),m 96 19,m 97 1,a [1,2,0,1,2,6] (i 98 7 92 93),a [7,0,1,2,6] (f 99 5 98),a [8,6,0,1,2,6] (s 1 99 97),a [4,5,0,1,2,3,4,5,6,7,8,9] (i 100 7 95 96),a [10,0,1,2,3,4,5,6,7,8,9] (f 101 6 100),a [11,9,0,1,2,3,4,5,6,7,8,9] (z (.store 1 (.t 101) (.c (.int .u8 0))))]]),r 24 [k 102 .add 64 I,m 64 102]]))],r 25 [L 103 4 16,s 4 8 103,n 9 O],.ret]
def ZnP:List RRes:=[.c 8 true 4,.t 9]
def ZnQ:PCt prog 40 f40 ZnO ZnP:=pcT func40 rfl
def ZnR:RCode :=
 S [r 0 [b 2 0,n 4 O],r 1 [f 5 0 2,l 6 5,m 7 1,c 8 107 [6,7],m 4 8],.ret]
def ZnS:List RRes:=[.t 4]
def ZnT:PCt prog 106 f106 ZnR ZnS:=pcT func106 rfl
def ZnU:RCode :=
 S [r 0 [n 6 O,n 7 (.bool false)],r 1 [m 12 0,e 13 12,m 8 13],r 2 [m 14 8,n 9 O,m 10 14],.block 0 (.loop (S [S [r 3 [m 15 9,m 16 10,o 17 .lss 15 16],.cond (.t 17) .skip (.exit 0)],.block 1 (S [r 4 [m 18 9,m 19 10,o 20 .add 18 19,w 21 (.conv .u64 (.t 20)),w 22 (.vop (.sh false) [(.t 21),(.c (.int .u64 1))]),w 23 (.conv .i64 (.t 22)),m 11 23],r 5 [m 24 2,m 25 0,m 26 11,i 27 7 25 26,L 28 7 27,m 29 1,w 30 (.callv (.t 24) [.t 28,.t 29]),k 31 .lss 30 O],.cond (.t 31) (r 6 [m 32 11,k 33 .add 32 I,m 9 33]) (r 7 [m 34 11,m 10 34])])])),r 8 [m 35 9,m 36 9,m 37 8,o 38 .lss 36 37,m 39 38,g 39 true (m 40 2),g 39 true (m 41 0),g 39 true (m 42 9),g 39 true (i 43 7 41 42),g 39 true (L 44 7 43),g 39 true (m 45 1),g 39 true (w 46 (.callv (.t 40) [.t 44,.t 45])),g 39 true (k 47 .eql 46 O),v 48 39 47,m 6 35,m 7 48],.ret]
def ZnV:List RRes:=[.t 6,.t 7]
def ZnW:PCt prog 105 f105 ZnU ZnV:=pcT func105 rfl
def ZnX:RCode :=
 S [r 0 [b 2 0,b 3 1,w 4 (.alloc [.nils,.nils,.nils,.nils]),n 5 O],r 1 [L 12 4 2,c 13 76 [12],m 11 13,x 14 0 11,x 15 1 11,m 6 14,m 7 15],S [r 2 [m 16 7,k 17 .neq 16 O],K 17 3 [w 18 (.build [.nils,.nils,.nils,.nils] []),m 19 7,s 4 4 18,m 5 19]],S [r 4 [f 20 3 2,l 21 20,e 22 21,k 23 .eql 22 (.int .i64 30)],K 23 5 [w 24 (.build [.nils,.nils,.nils,.nils] []),s 4 4 24,n 5 (.int .i64 9)]],r 6 [m 25 6,c 26 101 [25],w 8 (.alloc [.nils,.nils,.nils,.nils]),s 4 8 26],r 7 [f 28 3 8,l 29 28,f 30 0 3,l 31 30,w 32 (.call 105 [.t 29,.t 31,.c (.func (.func 106) [] [])]),m 27 32,x 33 0 27,x 34 1 27,m 9 33,m 10 34],r 8 [f 35 3 8,l 36 35,m 37 9,L 38 7 3,w 39 (.bsl false 7 1 [O,O,O,O,O,O,.int .u8 0] [(0,.t 38)]),c 40 108 [36,37,39],f 41 3 8,s 1 41 40],S [r 9 [L 42 4 8,c 43 23 [42],k 44 .neq 43 O],K 44 10 [w 45 (.build [.nils,.nils,.nils,.nils] []),s 4 4 45,n 5 (.int .i64 70)]],r 11 [L 46 4 8,s 4 4 46,n 5 O],.ret]
def ZnY:List RRes:=[.c 4 true 4,.t 5]
def ZnZ:PCt prog 42 f42 ZnX ZnY:=pcT func42 rfl
end
def Zo0 {x y:Prt}:(decide (x.no=y.no)&&(decide (x.dy=y.dy)&&(decide (x.ho=y.ho)&&(decide (x.dw=y.dw)&&(decide (x.lt=y.lt)&&(decide (x.bk=y.bk)&&decide (x.lo=y.lo)))))))=decide (x=y):=by
 cases x;cases y
 rw[W2h];simp
section
variable {G:Jg}
def Zo1 (x:Prt) (l:Jp) (hl:Sml l):PC prog G 103 [.vsl (l.map ptA),.agg (ptA x)] (.int .i64 (fstOf (λy=>decide (x=y)) l)):=by
 unfold Sml at hl;have hpx:ptA x=[.int .i64 x.no,.int .i64 x.dy,.int .i64 x.ho,.int .i64 x.dw,.int .i64 x.lt,.int .i64 x.bk,.int .u8 x.lo]:=rfl;refine ZnB rfl λR hG hrd=>?_
 subst hG;refine Qga ?_;simp -implicitDefEqProofs[Znz,ZnA];refine Z8s (λi=>⟨[(8,.int .i64 i),(7,.int .i64 l.length),(0,.vsl (l.map ptA)),(3,.ptr 3 0)],[(3,.box (ptA x))]⟩) (λi=>∀ j (h:j<l.length),j<i->decide (x=l[j])=false) l.length ?_ (by simp) ?_ ?_
 . ((try simp only[hpx]);refine Ym.sub (by simp[lk,Ya,AV.keys,hpx]) ?_;simp only[hpx,Wkl,and_true];(try simp[lk,Yc,Ya,AV.keys,hpx]))
 . intro i hi he;have w1:i64.wrap ((i:Int)+1)=((i+1:Nat):Int):=Yf;obtain ⟨y,hy⟩:=Qex (l[i]);have hly:l[i]=y:=hy.symm;have hpy:ptA y=[.int .i64 y.no,.int .i64 y.dy,.int .i64 y.ho,.int .i64 y.dw,.int .i64 y.lt,.int .i64 y.bk,.int .u8 y.lo]:=rfl;have hpi:=Zo0 (x:=x) (y:=y);refine Qga ?_;simp -implicitDefEqProofs[hi,hly,hpx,hpy,eqL,eq1];refine ⟨rfl,?_⟩;rw[hpi];by_cases e:x=y
   . have hf:fstOf (λy=>decide (x=y)) l=i:=Z9g hi (by simp[hly,e]) he;rw[W0M e];simp -implicitDefEqProofs;refine Qgr ?_;simp -implicitDefEqProofs[hf]
   . rw[W0S e];simp -implicitDefEqProofs[w1];refine ⟨?_,λj q1 q2=>?_⟩
     . ((try simp only[hpx]);refine Ym.sub (by simp[lk,Ya,AV.keys,hpx]) ?_;simp only[hpx,Wkl,and_true];(try simp[lk,Yc,Ya,AV.keys,hpx]))
     . by_cases e2:j=i
       . subst e2;rw[hly];exact e
       . exact of_decide_eq_false (he j q1 (by omega))
 . intro he;refine Qga ?_;simp -implicitDefEqProofs;refine Qgr ?_;simp -implicitDefEqProofs[Z9h (p:=λy=>decide (x=y)) (l:=l) (λj hj=>he j hj hj)]
def cmN (a b:Int):Int:=if a<b then -1 else if b<a then 1 else 0
def Zo2 (z:Prt) (n:Int):PC prog G 106 [.agg (ptA z),.int .i64 n] (.int .i64 (cmN z.no n)):=by
 have c:=Z9W (G:=G) z.no n
 (refine ZnT rfl λR hG hrd=>Qga ?_;subst hG)
 simp -implicitDefEqProofs[ZnR,ZnS,ptA];unfold cmN;refine Qco (c) ?_;simp -implicitDefEqProofs
def Zo3 (r:Jr) (l:Jl) (hs:Jh) (ps:Jp) (d:Int) (hd:Sml (nums r)):PC prog G 100 [.int .i64 d,.vptr [ofA r l hs ps] 0] (.bool (!decide (d∈nums r))):=by
 have c:=ZeG (G:=G) (nums r) d hd;have eO:ofA r l hs ps = .vptr [.vsl (r.map isa),.vsl (l.map na),.vsl (hs.map hoa),.vsl (ps.map ptA),.vsl ((nums r).map ia)] 0:=rfl;rw[eO]
 (refine ZnH rfl λR hG hrd=>Qga ?_;subst hG)
 simp -implicitDefEqProofs[ZnF,ZnG];refine Qco (c) ?_;simp -implicitDefEqProofs
def Zo4 {l:Jp} (h:riP l) {i j:Nat} (hij:i<j) (hj:j<l.length):(l[i]'(by omega)).no<l[j].no:=W0Y.1 h i j (by omega) hj hij
def bsB (l:Jp) (x:Prt):Bool:=match l[plP l x]? with|some y=>decide (y.no=x.no)|none=>false
def Zo5 (a b:Int):decide (cmN a b<0)=decide (a<b):=by unfold cmN;split <;> (try split) <;> simp_all
def Zo6 (a b:Int):decide (cmN a b=0)=decide (a=b):=by unfold cmN;split <;> (try split) <;> simp_all <;> omega
def Zo7 (g:Nat) (x:Prt) (l:Jp) (hl:Sml l) (hr:riP l) (hg:∀ z∈l,PC prog G g [.agg (ptA z),.int .i64 x.no] (.int .i64 (cmN z.no x.no))) :
  PC prog G 105 [.vsl (l.map ptA),.int .i64 x.no,.func (.func g) [] []] (.tup [.int .i64 (plP l x),.bool (bsB l x)]):=by
 unfold Sml at hl;have hpl:=λz:Prt=>show ptA z=[.int .i64 z.no,.int .i64 z.dy,.int .i64 z.ho,.int .i64 z.dw,.int .i64 z.lt,.int .i64 z.bk,.int .u8 z.lo] from rfl
 (refine ZnW rfl λR hG hrd=>Qga ?_;subst hG)
 simp -implicitDefEqProofs[ZnU,ZnV]
 refine Z1Q (λp:Nat×Nat=>⟨[(10,.int .i64 p.2),(9,.int .i64 p.1),(8,.int .i64 l.length),(0,.vsl (l.map ptA)),(1,.int .i64 x.no),(2,.func (.func g) [] [])],[]⟩)
  (λp=>p.1<=p.2/\p.2<=l.length/\(∀ y∈l.take p.1,y.no<x.no)/\∀ y∈l.drop p.2,x.no<=y.no) (λp=>p.2-p.1) (0,l.length) ?_ ⟨W1f _,W0f _,by simp,by simp⟩ ?_
 . (first|exact Wka|exact Wkb)
 rintro ⟨a,b⟩ ⟨hab,hbl,h1,h2⟩;dsimp only at hab hbl h1 h2;refine Qga ?_;by_cases hlt:a<b
 . obtain ⟨m,hm⟩:=Qex ((a+b) / 2);have w1:i64.wrap ((a:Int)+b)=(a:Int)+b:=Yf;have w2:IntKind.u64.wrap ((a:Int)+b)=(a:Int)+b:=by rw[IntKind.wrap_u64];omega
   have w3:((a:Int)+b).fdiv (2 ^ min 1 IntKind.u64.bits)=(m:Int):=by
    rw[show (2:Int) ^ min 1 IntKind.u64.bits=2 from rfl,Int.fdiv_eq_ediv_of_nonneg _ (by omega)];omega
   have w4:i64.wrap (m:Int)=(m:Int):=Yf;have w5:i64.wrap ((m:Int)+1)=((m+1:Nat):Int):=Yf;have hml:m<l.length:=(by omega);obtain ⟨z,hz⟩:=Qex (l[m]);have hlz:l[m]=z:=hz.symm;have hgz:=hg z (by rw[hz];exact W0e hml);rw[hpl]at hgz;simp -implicitDefEqProofs[hlt,w1,w2,w3,w4,hml,hlz,hpl];refine Yd.of hgz (by simp[AV.pure]) ?_;by_cases c:z.no<x.no
   . simp -implicitDefEqProofs[Zo5,c,w5];refine ⟨(m+1,b),?_,⟨by dsimp only;omega,hbl,?_,h2⟩,by dsimp only;omega⟩
     . (first|exact Wka|exact Wkb)
     . intro y hy;obtain ⟨j,hj,rfl⟩:=W0k hy;rw[W1W];have hj2:j<m+1:=(by simp at hj;omega);by_cases e:j=m
       . subst e;rw[hlz];exact c
       . have:=Zo4 hr (i:=j) (j:=m) (by omega) hml;rw[hlz]at this;omega
   . simp -implicitDefEqProofs[Zo5,c];refine ⟨(a,m),?_,⟨by dsimp only;omega,by dsimp only;omega,h1,?_⟩,by dsimp only;omega⟩
     . (first|exact Wka|exact Wkb)
     . intro y hy;dsimp only at hy;obtain ⟨j,hj,rfl⟩:=W0k hy;rw[List.getElem_drop];have hj2:m+j<l.length:=(by simp at hj;omega);by_cases e:j=0
       . subst e;simp only[W1Y,hlz];omega
       . have:=Zo4 hr (i:=m) (j:=m+j) (by omega) hj2;rw[hlz]at this;omega
 . have eab:a=b:=(by omega);subst eab;have hp:plP l x=a:=Zg0 hr hbl h1 h2;by_cases c:a<l.length
   . obtain ⟨z,hz⟩:=Qex (l[a]);have hlz:l[a]=z:=hz.symm;have hgz:=hg z (by rw[hz];exact W0e c);rw[hpl]at hgz;have hb:bsB l x=decide (z.no=x.no):=(by unfold bsB;rw[hp,W07 c,hlz]);rw[hp,hb];simp -implicitDefEqProofs[hlt];refine Qgr ?_;simp -implicitDefEqProofs[c,hlz,hpl];refine Yd.of hgz (by simp[AV.pure]) ?_;simp -implicitDefEqProofs[Zo6]
   . have hb:bsB l x=false:=(by unfold bsB;rw[hp,W26 (by omega)]);rw[hp,hb];simp -implicitDefEqProofs[hlt];refine Qgr ?_;simp -implicitDefEqProofs[c]
def ocF (v:Nat):Int:=((List.range 8).filter λi=>v.testBit i).length
def Zo8:∀ v,v<256->(ocF v=0↔v=0):=by decide +kernel
def Zo9:∀ v,v<256->0<=ocF v/\ocF v<=8:=by decide +kernel
def Zoa:∀ v,v<256->PC prog G 102 [.int .u64 (v:Nat)] (.int .i64 (ocF v)):=by
 intro v hv
 (refine ZnE rfl λR hG hrd=>Qga ?_;subst hG)
 simp -implicitDefEqProofs[ZnC,ZnD];clear hrd
 revert v
 decide +kernel
end
section
open Qq Go.Proofs.Tryz
def Zob:RCode :=
 S [r 0 [b 3 0,b 4 1,w 6 (.alloc [.nils,.nils]),n 7 O],r 1 [L 15 2 3,c 16 119 [15],m 14 16,x 17 0 14,x 18 1 14,m 8 17,m 9 18],S [r 2 [m 19 9,k 20 .neq 19 O],K 20 3 [w 21 (.build [.nils,.nils] []),m 22 9,s 2 6 21,m 7 22]],S [R 4 [m 23 8,a [0] (w 24 (.nilck (.t 23))),a [1] (f 25 3 24),a [2] (l 26 25),l 27 4,a [3,4] (c 28 87 [26,27]),a [5] (t 29 28)],K 29 5 [w 30 (.build [.nils,.nils] []),s 2 6 30,n 7 (.int .i64 6)]],r 6 [f 31 1 3,l 32 31,c 33 120 [32],w 34 (.build [.nils,.nils] [(1,1,.t 33)]),w 10 (.alloc [.nils,.nils]),s 2 10 34],S [r 7 [f 35 0 3,f 36 0 35,l 37 36,e 38 37,n 39 O],.block 0 (.loop (S [r 8 [o 40 .lss 39 38],.cond (.t 40) .skip (.exit 0),.block 1 (S [r 9 [i 41 5 37 39,L 42 5 41,w 12 (.alloc [O,O,.int .u8 0,.nils,.nils]),s 5 12 42],R 10 [f 43 3 12,a [0] (l 44 43),a [1] (c 45 121 [44]),f 46 4 12,a [3] (l 47 46),a [4,2] (c 48 122 [47]),a [0,1,2,3,4] (f 49 3 12),a [6,2,5,0,1,2,3,4] (s 1 49 45),a [0,1,2,3,4,5,6,7] (f 50 4 12),a [8,5,7,0,1,2,3,4,5,6,7] (s 1 50 48)],r 11 [f 51 0 10,f 52 0 51,l 53 52,L 54 5 12,w 55 (.bsl false 5 1 [O,O,.int .u8 0,.nils,.nils] [(0,.t 54)]),w 56 (.app 5 72 (.t 53) (.t 55)),f 57 0 10,f 58 0 57,s 1 58 56]]),r 12 [k 59 .add 39 I,m 39 59]]))],r 13 [f 60 1 10,l 61 60,w 62 (.mkf (.func 124) [] [.t 4]),c 63 123 [61,62],m 13 63],r 14 [f 64 1 10,l 65 64,m 66 13,i 67 10 65 66,f 68 2 67,z (.store 1 (.t 68) (.c (.int .u8 0)))],S [r 15 [m 69 2],.cond (.t 69) (r 16 [f 70 1 10,l 71 70,m 72 13,i 73 10 71 72,f 74 2 73,z (.store 1 (.t 74) (.c (.int .u8 2)))]) .skip],r 17 [L 75 2 10,s 2 6 75,n 7 O],.ret]
def Zoc:List RRes:=[.c 6 true 2,.t 7]
def Zod:PCt prog 66 f66 Zob Zoc:=pcT func66 rfl
def Zoe:RCode :=
 S [r 0 [b 2 0,n 3 (.bool false)],r 1 [f 4 0 2,l 5 4,l 6 1,o 7 .eql 5 6,m 3 7],.ret]
def Zof:List RRes:=[.t 3]
def Zog:PCt prog 124 f124 Zoe Zof:=pcT func124 rfl
def Zoh:RCode :=
 S [r 0 [n 2 .nils],S [r 1 [m 3 0,w 4 (.vop (.eqn false) [(.t 3),(.c .nils)])],K 4 2 [n 2 .nils]],r 3 [w 5 (.bsl true 10 0 [] []),m 6 0,w 7 (.app 10 72 (.t 5) (.t 6)),m 2 7],.ret]
def Zoi:List RRes:=[.t 2]
def Zoj:PCt prog 120 f120 Zoh Zoi:=pcT func120 rfl
end
def stN (n g:Int) (x:Nte):Nte:=if x.nu=n then { x with sg:=g } else x
section
variable {n g:Int} {x:Nte}
def st_nu:(stN n g x).nu=x.nu:=by unfold stN;split <;> rfl
def st_dy:(stN n g x).dy=x.dy:=by unfold stN;split <;> rfl
def st_dr:(stN n g x).dr=x.dr:=by unfold stN;split <;> rfl
def st_lt:(stN n g x).lt=x.lt:=by unfold stN;split <;> rfl
def st_fr:(stN n g x).fr=x.fr:=by unfold stN;split <;> rfl
def st_tu:(stN n g x).tu=x.tu:=by unfold stN;split <;> rfl
def st_ca:(stN n g x).ca=x.ca:=by unfold stN;split <;> rfl
def st_up:(stN n g x).up=x.up:=by unfold stN;split <;> rfl
def st_wy:(stN n g x).wy=x.wy:=by unfold stN;split <;> rfl
def st_sg:(stN n g x).sg=if x.nu=n then g else x.sg:=by unfold stN;split <;> rfl
end
section
variable {r:Jr} {l:Jl} {n g:Int}
def Zok {i:Nat} (h:i<l.length):nAt (l.map (stN n g)) i=stN n g (nAt l i):=by
 rw[Zbn (by simpa using h),Zbn h,W1w]
def Zol (hg:g<=2) {i:Nat} (hi:i<l.length) (h:noteB r l i=true):noteB r (l.map (stN n g)) i=true:=by
 simp only[noteB,W01]at h ⊢;obtain ⟨⟨⟨⟨⟨⟨⟨h1,h2⟩,h3⟩,h4⟩,h5⟩,h6⟩,h7⟩,h8⟩:=h;rw[Zok hi];refine ⟨⟨⟨⟨⟨⟨⟨?_,?_⟩,?_⟩,?_⟩,?_⟩,?_⟩,?_⟩,?_⟩
 . simpa only [cN1,st_nu,st_dy] using h1
 . simp only[cN2,W01,W0b,st_wy,st_sg]at h2 ⊢;refine ⟨?_,h2.2⟩
   split
   . exact hg
   . exact h2.1
 . simpa only [cN3,st_fr,st_tu] using h3
 . simpa only [cN4,st_dr,st_lt,st_ca] using h4
 . simpa only [cN5,st_lt,st_up,st_wy] using h5
 . simp only[cN6,W0T,W0b,st_ca]at h6 ⊢;rcases h6 with h6|h6
   . exact .inl h6
   . refine .inr ?_;rw[<- List.map_take,List.any_map];simpa only [W0y,st_nu] using h6
 . simp only[cN7,W1C,st_nu]at h7 ⊢;rw[<- List.map_take,List.any_map];simpa only [W0y,st_nu] using h7
 . cases i with
   |zero=>rfl
   | succ i =>
     simp only[cN8]at h8 ⊢;rw[Zok (by omega)];simpa only [st_nu,st_dy] using h8
def Zom {k:Int}:k∈opU l↔∃ x∈l,x.sg=1/\x.nu=k:=by
 unfold opU opN;rw[W0v,W0i]
 constructor
 . rintro ⟨x,hx,e⟩;obtain ⟨h1,h2⟩:=W0G.1 hx;exact ⟨x,h1,by simpa using h2,e⟩
 . rintro ⟨x,h1,h2,e⟩;exact ⟨x,W0G.2 ⟨h1,by simpa using h2⟩,e⟩
def Zon (hg:g≠1):(opN (l.map (stN n g)) (l.map (stN n g)).length).length<=(opN l l.length).length:=by
 unfold opN;rw[W0v,W0v,List.filter_map,W0N]
 have e:l.filter ((λx:Nte=>decide (x.sg=1)) ∘ stN n g)=(l.filter λx=>decide (x.sg=1)).filter λx=>!decide (x.nu=n):=by
  rw[List.filter_filter];refine List.filter_congr λx _=>?_
  simp only[Function.comp,st_sg];by_cases c:x.nu=n
  . rw[if_pos c];simp[c,hg]
  . rw[if_neg c];simp[c]
 rw[e];exact (List.filter_sublist).length_le
def Zoo (hg:g<=2) (h1:g≠1) (h:Zbq r l=true):Zbq r (l.map (stN n g))=true:=by
 have ho:=Zon (l:=l) (n:=n) h1;simp only[Zbq,W01,W0b]at h ⊢;rw[W0N]at ho ⊢;exact ⟨⟨h.1.1,Z8K.2 λi hi=>Zol hg hi (Z8K.1 h.1.2 i hi)⟩,by omega⟩
def Zop (hg:g≠1) {k:Int}:k∈opU (l.map (stN n g))↔k∈opU l/\k≠n:=by
 rw[Zom,Zom]
 constructor
 . rintro ⟨x,hx,h1,rfl⟩;obtain ⟨y,hy,rfl⟩:=W0i.1 hx;rw[st_sg]at h1
   split at h1
   . exact absurd h1 hg
   . rename_i c;rw[st_nu];exact ⟨⟨y,hy,h1,rfl⟩,c⟩
 . rintro ⟨⟨x,hx,h1,rfl⟩,h2⟩;exact ⟨stN n g x,W0i.2 ⟨x,hx,rfl⟩,by rw[st_sg,if_neg h2];exact h1,st_nu⟩
end
def Zoq {U:List Int} {v w:Nat}:∀ i,(∀ j,j<i->v / 2 ^ j % 2=w / 2 ^ j % 2)->sbN U v i=sbN U w i
 |0,_=>rfl
 | i+1,h=>by
   rw[sbN,sbN,Zoq i λj hj=>h j (by omega),h i (by omega)]
def Zor {v i j:Nat} (h:j<i):(v+2 ^ i) / 2 ^ j % 2=v / 2 ^ j % 2:=by
 obtain ⟨k,rfl⟩ : ∃ k,i=j+(k+1):=⟨i-j-1,by omega⟩;have e:2 ^ (j+(k+1))=2 ^ j*(2*2 ^ k):=(by rw[Nat.pow_add,Nat.pow_succ,Nat.mul_comm (2 ^ k)]);rw[e,Nat.add_mul_div_left _ _ (Nat.pow_pos (by omega))];omega
def sb_ex {U:List Int} (P:Int->Bool):∀ i,i<=U.length->∃ v,v<2 ^ i/\∀ k,k∈sbN U v i↔k∈U.take i/\P k=true
 |0,_=>⟨0,by simp,λk=>by simp[sbN]⟩
 | i + 1,h=>by
   obtain ⟨v,h1,h2⟩:=sb_ex (U:=U) P i (by omega);have hi:i<U.length:=h;have e:U.getD i 0=U[i]:=(by simp[W0j,hi]);have hp:2 ^ (i+1)=2 ^ i+2 ^ i:=(by rw[Nat.pow_succ];omega);have h0:0<2 ^ i:=Nat.pow_pos (by omega)
   cases c:P U[i]
   . refine ⟨v,by omega,λk=>?_⟩;rw[sbN,Nat.div_eq_of_lt h1,if_neg (by omega),h2,W08 hi,W0h,W0B]
     constructor
     . rintro ⟨a,b⟩;exact ⟨.inl a,b⟩
     . rintro ⟨a|rfl,b⟩
       . exact ⟨a,b⟩
       . rw[c]at b;cases b
   . refine ⟨v+2 ^ i,by omega,λk=>?_⟩;have e1:(v+2 ^ i) / 2 ^ i=1:=(by rw[Nat.add_div_right _ h0,Nat.div_eq_of_lt h1]);rw[sbN,e1,if_pos rfl,e,Zoq i λj hj=>Zor hj,W0h,W0B,h2,W08 hi,W0h,W0B]
     constructor
     . rintro (⟨a,b⟩|rfl)
       . exact ⟨.inl a,b⟩
       . exact ⟨.inr rfl,c⟩
     . rintro ⟨a|rfl,b⟩
       . exact .inl ⟨a,b⟩
       . exact .inr rfl
def Zos (U:List Int) (P:Int->Bool):∃ v,v<2 ^ U.length/\∀ k,k∈sbT U v↔k∈U/\P k=true:=by
 obtain ⟨v,h1,h2⟩:=sb_ex (U:=U) P U.length (W0f _);exact ⟨v,h1,λk=>by rw[sbT,h2,W0v]⟩
def Zot (l:Jl):((l.map na).all λr=>r.all AV.pure)=true:=by simp[na,AV.pure]
def Zou (ok:Nat->Bool) (st:St) (l:Jl):frzO ok st (.row 10 (l.map na)) = .row 10 (l.map na):=by
 simp only[frzO,W10]
 congr 2
 funext p;simp[na,frzA,frz,AV.keys]
def Zov (ρ:Nat->Nat) (l:Jl):(AObj.row 10 (l.map na)).ren ρ = .row 10 (l.map na):=AObj.ren_pure (Zot l)
def Zow {r:Jr} {l:Jl} (h:Zbq r l=true) {i:Nat} (hi:i<l.length) (g:Int):(l.map na).set i (na { l[i] with sg:=g })=(l.map (stN l[i].nu g)).map na:=by
 have hnd:=Zfa h;refine W1J (by simp) λj h1 h2=>?_
 have hj:j<l.length:=(by simpa using h1);rw[List.getElem_set];simp only[W1w]
 split
 . rename_i e;subst e;unfold stN;rw[if_pos rfl]
 . rename_i e
   have:l[j].nu≠l[i].nu:=λe2=>e (by
    have h3:(l.map (·.nu))[i]'(by simpa using hi)=(l.map (·.nu))[j]'(by simpa using hj):=(by simp only[W1w];exact e2.symm);exact (List.getElem_inj hnd).1 h3)
   unfold stN;rw[if_neg this]
section
variable {G:Jg}
def Zox (l:Jl) (hne:l≠[]) (hl:Sml l):PB prog G 120 [] [.vsl (l.map na)] (.osl 5 l.length) [(5,.row 10 (l.map na))]:=by
 refine Z5i clK (by intro k hk;simp[clK]at hk;omega) Tryz.func120 rfl (by kernel_rfl) (rc:=Zoh) (by kernel_rfl) (rs:=Zoi) (by kernel_rfl) (W0C rfl) λR _ hG hrd=>Qga ?_
 subst hG;unfold Sml at hl;have b1:l.length*72<=70368744177664:=(by omega);have h0:¬l.length=0:=λe=>hne (W0l.1 e)
 have k1:(l.map na).all (λr=>r.length == 10)=true:=(by simp[na]);have k2:(l.map na).all (λr=>r.all AV.one)=true:=(by simp[na,AV.one]);simp -implicitDefEqProofs[Zoh,Zoi,h0,hne,b1,k1,k2];simp -implicitDefEqProofs[FinO,Yi,clK,Zou,frzA,frz,AV.keys]
def Zoy (l:List (Int×Int)) (hl:Sml l):PC prog G 121 [.vsl (l.map ita)] (.vsl (l.map ita)):=by
 by_cases hne:l=[]
 . subst hne;exact Zaz
 unfold Sml at hl;have b1:l.length*16<=70368744177664:=(by omega);have h0:¬l.length=0:=λe=>hne (W0l.1 e)
 have k1:(l.map ita).all (λr=>r.length == 2)=true:=(by simp[ita]);have k2:(l.map ita).all (λr=>r.all AV.one)=true:=(by simp[ita,AV.one]);have k5:(l.map ita).all (λr=>r.all AV.pure)=true:=by simp[ita,AV.pure]
 (refine Z7x rfl λR hG hrd=>Qga ?_;subst hG)
 simp -implicitDefEqProofs[Z7v,Z7w,h0,hne,b1,k1,k2,k5]
def Zoz (l:List Dm) (hl:Sml l):PC prog G 122 [.vsl (l.map dma)] (.vsl (l.map dma)):=by
 by_cases hne:l=[]
 . subst hne;exact ZaA
 unfold Sml at hl;have b1:l.length*24<=70368744177664:=(by omega);have h0:¬l.length=0:=λe=>hne (W0l.1 e)
 have k1:(l.map dma).all (λr=>r.length == 3)=true:=(by simp[dma]);have k2:(l.map dma).all (λr=>r.all AV.one)=true:=(by simp[dma,AV.one]);have k5:(l.map dma).all (λr=>r.all AV.pure)=true:=by simp[dma,AV.pure]
 (refine Z7A rfl λR hG hrd=>Qga ?_;subst hG)
 simp -implicitDefEqProofs[Z7y,Z7z,h0,hne,b1,k1,k2,k5]
def ZoA (y:Nte) (n:Int):PC prog G 124 [.agg (na y),.vptr [.int .i64 n] 0] (.bool (decide (y.nu=n))):=by
 (refine Zog rfl λR hG hrd=>Qga ?_;subst hG)
 simp -implicitDefEqProofs[Zoe,Zof,na]
def sgA (i:Nat):AV:=if i=0 then .nils else .osl 56 i
def rwI (r:Jr) (i:Nat):List (List AV):=(r.take i).map isa
def ZoB {r:Jr} {i:Nat} (h:i<r.length):rwI r (i+1)=rwI r i++[isa r[i]]:=by
 unfold rwI;rw[W08 h,W0r];rfl
def ZoC {r:Jr} {i:Nat} (h:i<=r.length):(rwI r i).length=i:=by simp[rwI];omega
def ZoD (o:List (Nat×AObj)) (r:Jr) (i:Nat):Yc o (.row 5 (rwI r i))=true:=by
 simp only[Yc,W03,rwI,W0i];rintro x ⟨y,-,rfl⟩ v hv;simp only[isa,W0g,W0Q,or_false]at hv;rcases hv with rfl|rfl|rfl|rfl|rfl <;> simp[Ya,AV.keys]
def sgO (r:Jr) (i:Nat):List (Nat×AObj):=if i=0 then [] else [(56,.row 5 (rwI r i))]
def sgT (r:Jr) (way:Bool) (i:Nat):List (Nat×AV):=[(39,.int .i64 i),(38,.int .i64 r.length),(37,.vsl (r.map isa)),(10,.ptr 10 0),(7,.int .i64 0),(6,.ptr 6 0),(4,.ptr 4 0),(2,.bool way)]
def sgS (r:Jr) (l:Jl) (n:Int) (way:Bool) (i:Nat):St:=⟨sgT r way i,sgO r i++[(10,.box [sgA i,.osl 905 l.length]),(905,.row 10 (l.map na)),(6,.box [.nils,.nils]),(4,.box [.int .i64 n])]⟩
def ZoE (hG:GC G) (hN:GN G) (r:Jr) (l:Jl) (n:Int) (way:Bool) (hw:WfN l) (hr:Wf r) (hne:r≠[]) (h80:r.length<=80) (h0:chN r l=0) (hn:n∈opU l) :
  PC prog G 66 [.agg [.vsl (r.map isa),.vsl (l.map na)],.int .i64 n,.bool way] (.tup [.agg [.vsl (r.map isa),.vsl ((l.map (stN n (if way=true then 2 else 0))).map na)],.int .i64 0]):=by
 have hB:=Zfl h0;have hO:=ZeA hG hN r l hw hr;have hl12:=Zfn hB;have hnU:opU l≠[]:=λe=>by rw[e]at hn;cases hn
 have hlne:l≠[]:=λe=>by rw[e]at hn;simp[opU,opN]at hn
 rw[opdA,h0,if_pos rfl,fileA,opA,if_neg hnU]at hO;have hC:=ZeG (G:=G) (sortI (opU l)) n (by unfold Sml;rw[ZbA];have:=(Zfb hB).2;unfold opU;simp;have:=Zbp l l.length;omega);rw[W0M (ZbB.2 hn)]at hC;have hNt:=Zox (G:=G) l hlne hw.1;obtain ⟨y,hy,hy1,hy2⟩:=Zom.1 hn;obtain ⟨i0,hi0,rfl⟩:=W0k hy;subst hy2
 have hmin:∀ j (h:j<l.length),j<i0->decide (l[j].nu=l[i0].nu)=false:=λj h hj=>W0S λe=>by
  have h3:(l.map (·.nu))[j]'(by simpa using h)=(l.map (·.nu))[i0]'(by simpa using hi0):=(by simp only[W1w];exact e);have:=(List.getElem_inj (Zfa hB)).1 h3;omega
 have hF:=Ze7 (G:=G) 124 [.vptr [.int .i64 l[i0].nu] 0] (λy=>decide (y.nu=l[i0].nu)) l (by simp[AV.pure]) hw.1 (λy _=>ZoA y _);rw[Z9g hi0 (by simp) hmin]at hF;have hfl:∀ g:Int,na { l[i0] with sg:=g }=[.int .i64 l[i0].nu,.int .i64 l[i0].dy,.int .u8 g,.int .i64 l[i0].dr,.int .i64 l[i0].lt,.int .i64 l[i0].fr,.int .i64 l[i0].tu,.int .i64 l[i0].ca,.bool l[i0].up,.int .u8 l[i0].wy]:=λ_=>rfl
 have hset:=λg=>Zow hB hi0 g
 have pn:=Zot l;have hX:∀ g:Int,∃ X,(l.map (stN l[i0].nu g)).map na=X:=λg=>⟨_,rfl⟩
 obtain ⟨X,hX⟩:=hX (if way=true then 2 else 0);rw[hX];have h3:=hset (if way=true then 2 else 0);rw[hX,hfl]at h3;have hI:=λx (hx:x∈r)=>hr.1.2 x hx
 (refine Zod rfl λR hG hrd=>Qga ?_;subst hG)
 simp -implicitDefEqProofs[Zob,Zoc];refine Qco (hO) ?_;simp -implicitDefEqProofs;refine Qco (hC) ?_;simp -implicitDefEqProofs;refine ⟨rfl,?_⟩;refine Yd.sem (Z1B.objs hNt (λk=>k+900) (by simp) (by simp[St.get,lk]) (by simp[AV.pure]) rfl rfl) ?_;simp -implicitDefEqProofs[Yl,Zov,AV.ren];refine Z8s (sgS r l l[i0].nu way) (λ_=>True) r.length ?_ trivial ?_ ?_
 . simp only[sgS,sgT,sgA,sgO,if_true,W18]
   (refine Wkc ?_;simp only[Zfp,Wkl,and_true];(try simp[lk,Yc,Ya,AV.keys]))
 . intro i hi _;have wi:i64.wrap ((i:Int)+1)=(i:Int)+1:=Yf;have sc:=ZoB hi;have hx2:=hI _ (W0e hi);obtain ⟨x,hx⟩:=Qex (r[i]);have hax:isa r[i]=[.int .i64 x.d,.int .i64 x.l,.int .u8 x.k,.vsl (x.its.map ita),.vsl (x.dms.map dma)]:=(by rw[<- hx];rfl);rw[<- hx]at hx2;rw[hax]at sc;have c1:=Zoy (G:=R.G) x.its hx2.1;have c2:=Zoz (G:=R.G) x.dms hx2.2;refine Qga ?_;unfold sgS;by_cases h0i:i=0
   . subst h0i;have e0:rwI r 0=[]:=rfl;have w1:i64.wrap 1=1:=rfl;rw[e0,W18]at sc;replace sc:rwI r 1=[[.int .i64 x.d,.int .i64 x.l,.int .u8 x.k,.vsl (x.its.map ita),.vsl (x.dms.map dma)]]:=sc;simp only[sgA,sgO,if_true,W18];simp -implicitDefEqProofs[sgT,hi,hax,w1];refine Qco (c1) ?_;simp -implicitDefEqProofs;refine Qco (c2) ?_;simp -implicitDefEqProofs[w1];refine ⟨rfl,?_⟩;rw[sc]
     (refine Wkc ?_;simp only[Zfp,Wkl,and_true];(try simp[lk,Yc,Ya,AV.keys]))
   . have b1:(i+1)*72<=70368744177664:=(by omega);have hln:=ZoC (r:=r) (i:=i) (by omega);simp only[sgA,sgO,h0i,if_false,W1e,W18];simp -implicitDefEqProofs[sgT,hi,hax];refine Qco (c1) ?_;simp -implicitDefEqProofs;refine Qco (c2) ?_;simp -implicitDefEqProofs[b1,wi,hln];refine ⟨rfl,?_⟩;rw[<- sc]
     (refine Wkc ?_;simp only[ZoD,Zfp,Wkl,and_true];(try simp[lk,Yc,Ya,AV.keys]))
 . intro _;have hfl0:na l[i0]=[.int .i64 l[i0].nu,.int .i64 l[i0].dy,.int .u8 l[i0].sg,.int .i64 l[i0].dr,.int .i64 l[i0].lt,.int .i64 l[i0].fr,.int .i64 l[i0].tu,.int .i64 l[i0].ca,.bool l[i0].up,.int .u8 l[i0].wy]:=rfl;have hr0:r.length≠0:=λe=>hne (W0l.1 e)
   have hrw:rwI r r.length=r.map isa:=by unfold rwI;rw[W0v]
   have hp:∀ x:Iss,∀ y∈isa x,y.pure=true:=λx y hy=>by
    simp only[isa,W0g,W0Q,or_false]at hy;rcases hy with rfl|rfl|rfl|rfl|rfl <;> simp[AV.pure]
   have pr:((r.map isa).all λr=>r.all AV.pure)=true:=(by simp[isa,AV.pure]);refine Qga ?_;unfold sgS;rw[show sgO r r.length=[(56,.row 5 (r.map isa))] by unfold sgO;rw[if_neg hr0,hrw],show sgA r.length = .osl 56 r.length by unfold sgA;rw[if_neg hr0]];simp -implicitDefEqProofs[sgT];refine Qgr ?_;simp -implicitDefEqProofs;refine Yd.flat hF (by simp[AV.flat]) (by simp[Yj,snap,Yh,okAll,St.get,lk,pn,AV.pure]) ?_;have pX:(X.all λr=>r.all AV.pure)=true:=(by rw[<- hX];exact Zot _);have hXl:X.length=l.length:=(by rw[<- hX];simp);have hss:∀ a b:List AV,((l.map na).set i0 a).set i0 b=(l.map na).set i0 b:=λa b=>by simp
   cases way
   . simp only[W05,if_false]at h3;simp -implicitDefEqProofs[hi0,hfl0,pr,h3,pX,hXl]
   . simp only[if_true]at h3;simp -implicitDefEqProofs[hi0,hfl0,pr,hss,h3,pX,hXl]
end
def coK:Nat->Bool:=λk=>decide (k<1000) && !(k == 621)
def coV (i:Nat):AV:=if i=0 then .nils else .osl 49 i
def coO (r:Jr) (i:Nat):List (Nat×AObj):=if i=0 then [] else [(49,.row 5 (rwI r i))]
def coS (O:AV) (B:List (List AV)) (ps:Jp) (r:Jr) (i:Nat):St :=
 ⟨[(31,.int .i64 i),(30,.int .i64 r.length),(29,.vsl (r.map isa)),(3,.ptr 3 0),(2,.ptr 2 0),(0,O)],coO r i++[(3,.box [coV i,.vsl B,.nils,.osl 621 ps.length]),(621,.row 7 (ps.map ptA)),(2,.box [.nils,.nils,.nils,.nils])]⟩
def coT (O:AV) (B:List (List AV)) (ps:Jp) (r:Jr) (hs H:Jh) (i:Nat):St :=
 ⟨[(60,.int .i64 i),(59,.int .i64 hs.length),(58,.vsl (hs.map hoa)),(3,.ptr 3 0),(2,.ptr 2 0),(0,O)],[(3,.box [.vsl (r.map isa),.vsl B,hlV 72 H,.osl 621 ps.length]),(621,.row 7 (ps.map ptA)),(2,.box [.nils,.nils,.nils,.nils])]++hlO 72 H⟩
section
variable {G:Jg}
def ZoF:PC prog G 120 [.vsl []] (.vsl []):=by
 refine Zas Tryz.func120 rfl (by kernel_rfl) (rc:=Zoh) (by kernel_rfl) (rs:=Zoi) (by kernel_rfl) (W0C rfl) λR _ hG hrd=>Qga ?_
 simp -implicitDefEqProofs[Zoh,Zoi,FinZ,nz]
def ZoG (l:Jl) (hl:Sml l):PC prog G 120 [.vsl (l.map na)] (.vsl (l.map na)):=by
 by_cases hne:l=[]
 . subst hne;exact ZoF
 unfold Sml at hl;have b1:l.length*72<=70368744177664:=(by omega);have h0:¬l.length=0:=λe=>hne (W0l.1 e)
 have k1:(l.map na).all (λr=>r.length == 10)=true:=(by simp[na]);have k2:(l.map na).all (λr=>r.all AV.one)=true:=(by simp[na,AV.one]);have k5:=Zot l
 (refine Zoj rfl λR hG hrd=>Qga ?_;subst hG)
 simp -implicitDefEqProofs[Zoh,Zoi,h0,hne,b1,k1,k2,k5]
def ZoH:PC prog G 156 [.vsl []] (.vsl []):=by
 refine Zas Tryz.func156 rfl (by kernel_rfl) (rc:=ZnI) (by kernel_rfl) (rs:=ZnJ) (by kernel_rfl) (W0C rfl) λR _ hG hrd=>Qga ?_
 simp -implicitDefEqProofs[ZnI,ZnJ,FinZ,nz]
def ZoI (l:List Int) (hl:Sml l):PC prog G 156 [.vsl (l.map ia)] (.vsl (l.map ia)):=by
 by_cases hne:l=[]
 . subst hne;exact ZoH
 unfold Sml at hl;have b1:l.length*8<=70368744177664:=(by omega);have h0:¬l.length=0:=λe=>hne (W0l.1 e)
 have k1:(l.map ia).all (λr=>r.length == 1)=true:=(by simp[ia]);have k2:(l.map ia).all (λr=>r.all AV.one)=true:=(by simp[ia,AV.one]);have k5:(l.map ia).all (λr=>r.all AV.pure)=true:=by simp[ia,AV.pure]
 (refine ZnK rfl λR hG hrd=>Qga ?_;subst hG)
 simp -implicitDefEqProofs[ZnI,ZnJ,h0,hne,b1,k1,k2,k5]
def ZoJ (r:Jr) (l:Jl) (hs:Jh) (ps:Jp) (hr:Wf r) (hl:Sml l) (hw:WfP hs ps) (hne:r≠[]) (h80:r.length<=80) (hp:ps≠[]) :
  PB prog G 101 [] [ofA r l hs ps] (.agg [.vsl (r.map isa),.vsl (l.map na),Yg (hs.map hoa),.osl 621 ps.length]) [(621,.row 7 (ps.map ptA))]:=by
 have hhl:=hw.hl;have hpl:=hw.pl;have hdl:=hw.dl;have cN:=ZoG (G:=G) l hl;have cP:=ZmG (G:=G) ps hp (by unfold Sml;omega);have hI:=λx (hx:x∈r)=>hr.1.2 x hx
 obtain ⟨B,hB⟩:=Qex (l.map na);obtain ⟨N,hN⟩:=Qex (AV.vsl B);have pN:N.pure=true:=(by rw[hN,hB];simp[AV.pure,na]);have kN:=AV.pure_keys _ pN;obtain ⟨cs,hO,hc0,hc1,hc2,hc3⟩ : ∃ cs,ofA r l hs ps = .vptr cs 0/\cs[0]? = some (.vsl (r.map isa))/\cs[1]? = some (.vsl B)/\cs[2]? = some (.vsl (hs.map hoa))/\cs[3]? = some (.vsl (ps.map ptA)):=⟨_,rfl,rfl,by rw[hB];rfl,rfl,rfl⟩;have pO:=ZiL r l hs ps;rw[hO]at pO ⊢;have kO:=AV.pure_keys _ pO;have rN:=λρ=>AV.ren_pure (ρ:=ρ) N pN
 rw[<- hB]at cN ⊢;rw[hN]at pN kN rN;refine Z5i coK (by intro k hk;simp[coK]at hk;omega) Tryz.func101 rfl (by kernel_rfl) (rc:=ZnL) (by kernel_rfl) (rs:=ZnM) (by kernel_rfl) (W0C rfl) λR _ hG' hrd=>Yb mixed 4 ?_
 subst hG';simp -implicitDefEqProofs[ZnL,ZnM];refine GO0 (Zkm mixed ?_)
 iterate 6 (rw[RE_op (by simp[wants]) (by simp[Z1y])];simp -implicitDefEqProofs[execE,hc0,hc1,hc2,hc3])
 rw[Zko (by simp[wants])];simp -implicitDefEqProofs;refine CallE.of cN (by simp[pN]) ?_
 iterate 6 (rw[RE_op (by simp[wants]) (by simp[Z1y])];simp -implicitDefEqProofs[execE,hc0,hc1,hc2,hc3])
 rw[Zko (by simp[wants])];simp -implicitDefEqProofs;refine CallE.new (NewS.of cP (λk=>k+616) (by simp) (by simp[St.get,lk]) (by simp[AV.pure,ptA]) rfl) ?_;simp -implicitDefEqProofs[Yl,Zmf,AV.ren]
 iterate 3 (rw[RE_op (by simp[wants]) (by simp[Z1y])];simp -implicitDefEqProofs[execE])
 refine ⟨rfl,?_⟩;refine Qgr ?_;simp -implicitDefEqProofs[hc0];refine Z8s (coS (.vptr cs 0) B ps r) (λ_=>True) r.length ?_ trivial ?_ ?_
 . simp only[coS,coV,coO,if_true,W18]
   ((try simp only[Zlr]);refine Ym.sub (by simp[lk,Ya,AV.keys,Zlr]) ?_;simp only[Zlr,Wkl,and_true];(try simp[lk,Yc,Ya,AV.keys,Zlr]))
 . intro i hi _;have wi:i64.wrap ((i:Int)+1)=(i:Int)+1:=Yf;have sc:=ZoB hi;have hx2:=hI _ (W0e hi);obtain ⟨x,hx⟩:=Qex (r[i]);have hax:isa r[i]=[.int .i64 x.d,.int .i64 x.l,.int .u8 x.k,.vsl (x.its.map ita),.vsl (x.dms.map dma)]:=(by rw[<- hx];rfl);rw[<- hx]at hx2;rw[hax]at sc;have c1:=Zoy (G:=R.G) x.its hx2.1;have c2:=Zoz (G:=R.G) x.dms hx2.2;refine Qga ?_;unfold coS;by_cases h0i:i=0
   . subst h0i;have e0:rwI r 0=[]:=rfl;have w1:i64.wrap 1=1:=rfl;rw[e0,W18]at sc;replace sc:rwI r 1=[[.int .i64 x.d,.int .i64 x.l,.int .u8 x.k,.vsl (x.its.map ita),.vsl (x.dms.map dma)]]:=sc;simp only[coV,coO,if_true,W18];simp -implicitDefEqProofs[hi,hax,w1];refine Qco (c1) ?_;simp -implicitDefEqProofs;refine Qco (c2) ?_;simp -implicitDefEqProofs[w1];refine ⟨rfl,?_⟩;rw[sc]
     (refine Wkc ?_;simp only[Zlr,Wkl,and_true];(try simp[lk,Yc,Ya,AV.keys]))
   . have b1:(i+1)*72<=70368744177664:=(by omega);have hln:=ZoC (r:=r) (i:=i) (by omega);simp only[coV,coO,h0i,if_false,W1e,W18];simp -implicitDefEqProofs[hi,hax];refine Qco (c1) ?_;simp -implicitDefEqProofs;refine Qco (c2) ?_;simp -implicitDefEqProofs[b1,wi,hln];refine ⟨rfl,?_⟩;rw[<- sc]
     (refine Wkc ?_;simp only[ZoD,Zlr,Wkl,and_true];(try simp[lk,Yc,Ya,AV.keys]))
 . intro _;have hr0:r.length≠0:=λe=>hne (W0l.1 e)
   have hrw:rwI r r.length=r.map isa:=(by unfold rwI;rw[W0v]);have pr:((r.map isa).all λr=>r.all AV.pure)=true:=(by simp[isa,AV.pure]);have pP:((ps.map ptA).all λr=>r.all AV.pure)=true:=by simp[ptA,AV.pure]
   have fP:∀ ok st,frzO ok st (.row 7 (ps.map ptA)) = .row 7 (ps.map ptA):=λok st=>by
    simp only[frzO,W10]
    congr 2
    funext p;simp[ptA,frzA,frz,AV.keys]
   refine Qga ?_;unfold coS;rw[show coO r r.length=[(49,.row 5 (r.map isa))] by unfold coO;rw[if_neg hr0,hrw],show coV r.length = .osl 49 r.length by unfold coV;rw[if_neg hr0]];simp -implicitDefEqProofs;refine Qgr ?_;simp -implicitDefEqProofs[hc2];refine Z8s (λi=>coT (.vptr cs 0) B ps r hs (hs.take i) i) (λ_=>True) hs.length ?_ trivial ?_ ?_
   . refine Ym.trans (Ym.frz (λk=>k == 49) _) ?_;simp only[coT,hlV,hlO,W1g,if_true,W1H]
     ((try simp only[Yi,frzA,fP,frzO,frz,Yh,Yj,St.get,AV.pure,pr]);refine Ym.sub (by simp[lk,Ya,AV.keys,Yi,frzA,fP,frzO,frz,Yh,Yj,St.get,AV.pure,pr]) ?_;simp only[Yi,frzA,fP,frzO,frz,Yh,Yj,St.get,AV.pure,pr,Wkl,Zlr,and_true];(try simp[lk,Yc,Ya,AV.keys,Yi,frzA,fP,frzO,frz,Yh,Yj,St.get,AV.pure,pr]))
     intro a _;simp[ptA,frzA,frz,AV.keys]
   . intro i hi _;have hdi:=hdl _ (W0e hi);obtain ⟨h,hhe⟩:=Qex (hs[i]);rw[<- hhe]at hdi;have hlx:hs[i]=h:=hhe.symm;have hho:hoa h=[.int .i64 h.id,.int .i64 h.fr,.int .i64 h.to,.vsl (h.ds.map ia)]:=rfl;have c3:=ZoI (G:=R.G) h.ds (by unfold Sml;omega);have wi:i64.wrap ((i:Int)+1)=(i:Int)+1:=Yf;have tk:hs.take (i+1)=hs.take i++[h]:=(by rw[W08 hi,hlx]);have tl:(hs.take i).length=i:=(by simp;omega);have bb:(i+1)*48<=70368744177664:=(by omega);obtain ⟨H,hH⟩:=Qex (hs.take i);rw[<- hH]at tk tl;have em:(H++[h]).map hoa=H.map hoa++[hoa h]:=(by simp);have hne:¬H++[h]=[]:=(by simp);have hV2:hlV 72 (H++[h]) = .osl 72 (i+1):=(by unfold hlV;rw[if_neg hne];simp[tl]);have hO2:hlO 72 (H++[h])=[(72,.row 4 (H.map hoa++[hoa h]))]:=(by unfold hlO;rw[if_neg hne,em]);refine Qga ?_;by_cases cH:H=[]
     case' pos =>
      have hV:hlV 72 H = .nils:=(by simp[hlV,cH]);have hQ:hlO 72 H=[]:=by simp[hlO,cH]
     case' neg =>
      have hV:hlV 72 H = .osl 72 i:=(by simp[hlV,cH,tl]);have hQ:hlO 72 H=[(72,.row 4 (H.map hoa))]:=by simp[hlO,cH]
     all_goals
      simp -implicitDefEqProofs[coT,<- hH,hV,hQ,hi,hlx,hho,wi,bb,tl];refine Qco (c3) ?_;simp -implicitDefEqProofs[coT,<- hH,hV,hQ,hi,hlx,hho,wi,bb,tl];simp only[tk,hV2,hO2,hho];rw[<- hho,<- em]
      ((try simp only[hho]);refine Ym.sub (by simp[lk,Ya,AV.keys,hho]) ?_;simp only[hho,Wkl,Zlr,Zlq,and_true];(try simp[lk,Yc,Ya,AV.keys,hho]))
      all_goals exact ⟨by rw[<- tl,cH];rfl,cH⟩
   . intro _;have tl:hs.take hs.length=hs:=W0v;refine Qga ?_;by_cases cH:hs=[]
     . have hV:hlV 72 hs = .nils:=(by simp[hlV,cH]);have hQ:hlO 72 hs=[]:=(by simp[hlO,cH]);simp -implicitDefEqProofs[coT,tl,hV,hQ];refine Qgr ?_;simp -implicitDefEqProofs;simp -implicitDefEqProofs[FinO,Yi,coK,fP,frzA,frz,AV.keys,pr,kN,Yg,cH]
     . have hV:hlV 72 hs = .osl 72 hs.length:=(by simp[hlV,cH]);have hQ:hlO 72 hs=[(72,.row 4 (hs.map hoa))]:=(by simp[hlO,cH]);simp -implicitDefEqProofs[coT,tl,hV,hQ];refine Qgr ?_;simp -implicitDefEqProofs;simp -implicitDefEqProofs[FinO,Yi,coK,fP,frzA,frz,AV.keys,pr,kN,Yg,cH,hoa,AV.pure]
     end
def cpS (O:AV) (B:List (List AV)) (r:Jr) (i:Nat):St :=
 ⟨[(31,.int .i64 i),(30,.int .i64 r.length),(29,.vsl (r.map isa)),(3,.ptr 3 0),(2,.ptr 2 0),(0,O)],coO r i++[(3,.box [coV i,.vsl B,.nils,.vsl []]),(2,.box [.nils,.nils,.nils,.nils])]⟩
def cpT (O:AV) (B:List (List AV)) (r:Jr) (hs H:Jh) (i:Nat):St :=
 ⟨[(60,.int .i64 i),(59,.int .i64 hs.length),(58,.vsl (hs.map hoa)),(3,.ptr 3 0),(2,.ptr 2 0),(0,O)],[(3,.box [.vsl (r.map isa),.vsl B,hlV 72 H,.vsl []]),(2,.box [.nils,.nils,.nils,.nils])]++hlO 72 H⟩
section
variable {G:Jg}
def ZoK:PC prog G 155 [.vsl []] (.vsl []):=by
 refine Zas Tryz.func155 rfl (by kernel_rfl) (rc:=Zgh) (by kernel_rfl) (rs:=Zgi) (by kernel_rfl) (W0C rfl) λR _ hG hrd=>Qga ?_
 simp -implicitDefEqProofs[Zgh,Zgi,FinZ,nz]
def ZoL (r:Jr) (l:Jl) (hs:Jh) (hr:Wf r) (hl:Sml l) (hw:WfP hs []) (hne:r≠[]) (h80:r.length<=80) :
  PC prog G 101 [ofA r l hs []] (.agg [.vsl (r.map isa),.vsl (l.map na),Yg (hs.map hoa),.vsl []]):=by
 have hhl:=hw.hl;have hdl:=hw.dl;have cN:=ZoG (G:=G) l hl;have cP:=ZoK (G:=G);have hI:=λx (hx:x∈r)=>hr.1.2 x hx
 obtain ⟨B,hB⟩:=Qex (l.map na);obtain ⟨N,hN⟩:=Qex (AV.vsl B);have pN:N.pure=true:=(by rw[hN,hB];simp[AV.pure,na]);have kN:=AV.pure_keys _ pN;obtain ⟨cs,hO,hc0,hc1,hc2,hc3⟩ : ∃ cs,ofA r l hs [] = .vptr cs 0/\cs[0]? = some (.vsl (r.map isa))/\cs[1]? = some (.vsl B)/\cs[2]? = some (.vsl (hs.map hoa))/\cs[3]? = some (.vsl []):=⟨_,rfl,rfl,by rw[hB];rfl,rfl,rfl⟩;have pO:=ZiL r l hs [];rw[hO]at pO ⊢;have kO:=AV.pure_keys _ pO;have rN:=λρ=>AV.ren_pure (ρ:=ρ) N pN
 rw[<- hB]at cN ⊢;rw[hN]at pN kN rN
 (refine ZnN rfl λR hG hrd=>Qga ?_;subst hG)
 simp -implicitDefEqProofs[ZnL,ZnM,hc0,hc1,hc2,hc3];refine Qco (cN) ?_;simp -implicitDefEqProofs[hc0,hc1,hc2,hc3];refine Qco (cP) ?_;simp -implicitDefEqProofs[hc0,hc1,hc2,hc3];refine ⟨rfl,?_⟩;refine Z8s (cpS (.vptr cs 0) B r) (λ_=>True) r.length ?_ trivial ?_ ?_
 . simp only[cpS,coV,coO,if_true,W18]
   (refine Wkc ?_;simp only[Wkl,and_true];(try simp[lk,Yc,Ya,AV.keys]))
 . intro i hi _;have wi:i64.wrap ((i:Int)+1)=(i:Int)+1:=Yf;have sc:=ZoB hi;have hx2:=hI _ (W0e hi);obtain ⟨x,hx⟩:=Qex (r[i]);have hax:isa r[i]=[.int .i64 x.d,.int .i64 x.l,.int .u8 x.k,.vsl (x.its.map ita),.vsl (x.dms.map dma)]:=(by rw[<- hx];rfl);rw[<- hx]at hx2;rw[hax]at sc;have c1:=Zoy (G:=R.G) x.its hx2.1;have c2:=Zoz (G:=R.G) x.dms hx2.2;refine Qga ?_;unfold cpS;by_cases h0i:i=0
   . subst h0i;have e0:rwI r 0=[]:=rfl;have w1:i64.wrap 1=1:=rfl;rw[e0,W18]at sc;replace sc:rwI r 1=[[.int .i64 x.d,.int .i64 x.l,.int .u8 x.k,.vsl (x.its.map ita),.vsl (x.dms.map dma)]]:=sc;simp only[coV,coO,if_true,W18];simp -implicitDefEqProofs[hi,hax,w1];refine Qco (c1) ?_;simp -implicitDefEqProofs;refine Qco (c2) ?_;simp -implicitDefEqProofs[w1];refine ⟨rfl,?_⟩;rw[sc]
     (refine Wkc ?_;simp only[Wkl,and_true];(try simp[lk,Yc,Ya,AV.keys]))
   . have b1:(i+1)*72<=70368744177664:=(by omega);have hln:=ZoC (r:=r) (i:=i) (by omega);simp only[coV,coO,h0i,if_false,W1e,W18];simp -implicitDefEqProofs[hi,hax];refine Qco (c1) ?_;simp -implicitDefEqProofs;refine Qco (c2) ?_;simp -implicitDefEqProofs[b1,wi,hln];refine ⟨rfl,?_⟩;rw[<- sc]
     (refine Wkc ?_;simp only[ZoD,and_true,Wkl,and_true];(try simp[lk,Yc,Ya,AV.keys]))
 . intro _;have hr0:r.length≠0:=λe=>hne (W0l.1 e)
   have hrw:rwI r r.length=r.map isa:=(by unfold rwI;rw[W0v]);have pr:((r.map isa).all λr=>r.all AV.pure)=true:=(by simp[isa,AV.pure]);refine Qga ?_;unfold cpS;rw[show coO r r.length=[(49,.row 5 (r.map isa))] by unfold coO;rw[if_neg hr0,hrw],show coV r.length = .osl 49 r.length by unfold coV;rw[if_neg hr0]];simp -implicitDefEqProofs;refine Qgr ?_;simp -implicitDefEqProofs[hc2];refine Z8s (λi=>cpT (.vptr cs 0) B r hs (hs.take i) i) (λ_=>True) hs.length ?_ trivial ?_ ?_
   . refine Ym.trans (Ym.frz (λk=>k == 49) _) ?_;simp only[cpT,hlV,hlO,W1g,if_true,W1H]
     ((try simp only[Yi,frzA,frzO,frz,Yh,Yj,St.get,AV.pure,pr]);refine Ym.sub (by simp[lk,Ya,AV.keys,Yi,frzA,frzO,frz,Yh,Yj,St.get,AV.pure,pr]) ?_;simp only[Yi,frzA,frzO,frz,Yh,Yj,St.get,AV.pure,pr,Wkl,and_true];(try simp[lk,Yc,Ya,AV.keys,Yi,frzA,frzO,frz,Yh,Yj,St.get,AV.pure,pr]))
   . intro i hi _;have hdi:=hdl _ (W0e hi);obtain ⟨h,hhe⟩:=Qex (hs[i]);rw[<- hhe]at hdi;have hlx:hs[i]=h:=hhe.symm;have hho:hoa h=[.int .i64 h.id,.int .i64 h.fr,.int .i64 h.to,.vsl (h.ds.map ia)]:=rfl;have c3:=ZoI (G:=R.G) h.ds (by unfold Sml;omega);have wi:i64.wrap ((i:Int)+1)=(i:Int)+1:=Yf;have tk:hs.take (i+1)=hs.take i++[h]:=(by rw[W08 hi,hlx]);have tl:(hs.take i).length=i:=(by simp;omega);have bb:(i+1)*48<=70368744177664:=(by omega);obtain ⟨H,hH⟩:=Qex (hs.take i);rw[<- hH]at tk tl;have em:(H++[h]).map hoa=H.map hoa++[hoa h]:=(by simp);have hne:¬H++[h]=[]:=(by simp);have hV2:hlV 72 (H++[h]) = .osl 72 (i+1):=(by unfold hlV;rw[if_neg hne];simp[tl]);have hO2:hlO 72 (H++[h])=[(72,.row 4 (H.map hoa++[hoa h]))]:=(by unfold hlO;rw[if_neg hne,em]);refine Qga ?_;by_cases cH:H=[]
     case' pos =>
      have hV:hlV 72 H = .nils:=(by simp[hlV,cH]);have hQ:hlO 72 H=[]:=by simp[hlO,cH]
     case' neg =>
      have hV:hlV 72 H = .osl 72 i:=(by simp[hlV,cH,tl]);have hQ:hlO 72 H=[(72,.row 4 (H.map hoa))]:=by simp[hlO,cH]
     all_goals
      simp -implicitDefEqProofs[cpT,<- hH,hV,hQ,hi,hlx,hho,wi,bb,tl];refine Qco (c3) ?_;simp -implicitDefEqProofs[cpT,<- hH,hV,hQ,hi,hlx,hho,wi,bb,tl];simp only[tk,hV2,hO2,hho];rw[<- hho,<- em]
      ((try simp only[hho]);refine Ym.sub (by simp[lk,Ya,AV.keys,hho]) ?_;simp only[hho,Wkl,Zlq,and_true];(try simp[lk,Yc,Ya,AV.keys,hho]))
      all_goals exact ⟨by rw[<- tl,cH];rfl,cH⟩
   . intro _;have tl:hs.take hs.length=hs:=W0v;refine Qga ?_;by_cases cH:hs=[]
     . have hV:hlV 72 hs = .nils:=(by simp[hlV,cH]);have hQ:hlO 72 hs=[]:=(by simp[hlO,cH]);simp -implicitDefEqProofs[cpT,tl,hV,hQ];refine Qgr ?_;simp -implicitDefEqProofs;simp -implicitDefEqProofs[Yg,cH,hoa,AV.pure,pr,Yh,Yj]
     . have hV:hlV 72 hs = .osl 72 hs.length:=(by simp[hlV,cH]);have hQ:hlO 72 hs=[(72,.row 4 (hs.map hoa))]:=(by simp[hlO,cH]);simp -implicitDefEqProofs[cpT,tl,hV,hQ];refine Qgr ?_;simp -implicitDefEqProofs;simp -implicitDefEqProofs[Yg,cH,hoa,AV.pure,pr,Yh,Yj]
     end
def toN (hs:Jh) (A:List Int):Nat:=A.foldl (λt id=>t ||| 2 ^ (hoI hs id).toNat) 0
def ZoM (hs:Jh) (A:List Int) (id:Int):toN hs (A++[id])=toN hs A ||| 2 ^ (hoI hs id).toNat:=by simp[toN]
def ZoN (hs:Jh) (k:Nat):∀ (A:List Int) (t:Nat),(A.foldl (λt id=>t ||| 2 ^ (hoI hs id).toNat) t).testBit k=(t.testBit k||A.any λid=>decide ((hoI hs id).toNat=k))
 |[],t=>by simp
 |id::A,t=>by rw[W2f,ZoN hs k A,Nat.testBit_or,Nat.testBit_two_pow,List.any_cons,Bool.or_assoc]
def ZoO (hs:Jh) (k:Nat) (A:List Int):(toN hs A).testBit k=A.any λid=>decide ((hoI hs id).toNat=k):=by
 unfold toN;rw[ZoN];simp
def ZoP (hs:Jh):∀ (A:List Int) (t:Nat),t<256->(∀ id∈A,(hoI hs id).toNat<8)->A.foldl (λt id=>t ||| 2 ^ (hoI hs id).toNat) t<256
 |[],_,h,_=>h
 | id::A,t,h,hA=>by
   refine ZoP hs A _ ?_ λx hx=>hA x (W0z _ hx)
   have h2:2 ^ (hoI hs id).toNat<2 ^ 8:=Nat.pow_lt_pow_right (by omega) (hA id (W0H ..));exact Nat.or_lt_two_pow (n:=8) h h2
def ZoQ (hs:Jh) (A:List Int) (h:∀ id∈A,(hoI hs id).toNat<8):toN hs A<256:=ZoP hs A 0 (by omega) h
def ZoR {hs:Jh} {id:Int} (h:0<=hoI hs id):∃ (k:Nat) (hk:k<hs.length),hoI hs id=k/\hs[k].id=id:=by
 obtain ⟨k,hk,e,f⟩:=Zly h;exact ⟨k,hk,e,(ZiJ f).2⟩
def ZoS {hs:Jh} {A:List Int} {y:Int} (hA:∀ id∈A,0<=hoI hs id) (hy:0<=hoI hs y):(toN hs A).testBit (hoI hs y).toNat=A.contains y:=by
 rw[ZoO,W2h,W14,W0w]
 constructor
 . rintro ⟨id,h1,h2⟩;have h2:=W0X h2;obtain ⟨k,hk,e,f⟩:=ZoR (hA id h1);obtain ⟨j,hj,e2,f2⟩:=ZoR hy;have:k=j:=(by omega);subst this;rw[<- f2,f];exact h1
 . intro h;exact ⟨y,h,by simp⟩
def ZoT {hs:Jh} {A:List Int} (hA:∀ id∈A,0<=hoI hs id):toN hs A=0↔A=[]:=by
 constructor
 . intro h
   cases A with
   |nil=>rfl
   | cons id t =>
     have h2:=ZoS (y:=id) hA (hA id (W0H ..));rw[h]at h2;simp at h2
 . rintro rfl;rfl
def ZoU:∀ T:Nat,T<256->∀ k:Nat,k<8->IntKind.u64.wrap ((T % 2 ^ IntKind.u64.bits ||| ((IntKind.u64.wrap ((2:Int) ^ min k IntKind.u64.bits)) % 2 ^ IntKind.u64.bits).toNat:Nat):Int)=((T ||| 2 ^ k:Nat):Int):=by decide +kernel
def ZoV:∀ T:Nat,T<256->∀ k:Nat,k<8->IntKind.u64.wrap (((((T:Int).fdiv (2 ^ min k IntKind.u64.bits)) % 2 ^ IntKind.u64.bits).toNat &&& 1 % 2 ^ IntKind.u64.bits:Nat):Int)=if T.testBit k=true then 1 else 0:=by decide +kernel
def rowC (ps S:Jp) (A B:List Int) (day:Int):List Prt:=ps.map λx=>if (decide (x∈S)&&rchB A B x)=true then { x with bk:=day,lo:=0 } else x
section
variable {ps S:Jp} {A B:List Int} {day:Int} {y:Prt}
def ZoW:rowC ps [] A B day=ps:=by simp[rowC]
def ZoX:(rowC ps S A B day).length=ps.length:=by simp[rowC]
def ZoY {j:Nat} (h:j<(rowC ps S A B day).length):(rowC ps S A B day)[j]=if (decide (ps[j]'(by rw[ZoX]at h;exact h)∈S)&&rchB A B (ps[j]'(by rw[ZoX]at h;exact h)))=true then { ps[j]'(by rw[ZoX]at h;exact h) with bk:=day,lo:=0 } else ps[j]'(by rw[ZoX]at h;exact h):=by simp[rowC]
def ZoZ (h:rchB A B y=false):rowC ps (S++[y]) A B day=rowC ps S A B day:=by
 unfold rowC;refine W0K λx _=>?_
 by_cases e:x=y
 . subst e;rw[h];simp
 . have:(x∈S++[y])↔x∈S:=(by simp[e]);rw[decide_eq_decide.2 this]
def Zp0 (hp:riP ps) (h:rchB A B y=true) (hy:y ∉ S) {k:Nat} (hk:k<ps.length) (e:ps[k]=y) :
  (rowC ps S A B day)[k]'(by rw[ZoX];exact hk)=y/\(rowC ps S A B day).set k { y with bk:=day,lo:=0 }=rowC ps (S++[y]) A B day:=by
 constructor
 . rw[ZoY,e,W0S hy];rfl
 . refine W1J (by simp[ZoX]) λj h1 h2=>?_
   have hj:j<ps.length:=(by simpa [ZoX] using h1);rw[List.getElem_set,ZoY,ZoY]
   split
   . rename_i q;subst q;rw[e,h,if_pos (by simp)]
   . rename_i q
     have:ps[j]≠y:=λq2=>by
      rcases W0R j k with c|c|c
      . have:=W0Y.1 hp j k hj hk c;rw[q2,e]at this;omega
      . exact q c.symm
      . have:=W0Y.1 hp k j hk hj c;rw[q2,e]at this;omega
     have:(ps[j]∈S++[y])↔ps[j]∈S:=(by simp[this]);rw[decide_eq_decide.2 this]
def Zp1 {l:Jl} {hs:Jh}:rowC ps (staL l hs ps day) A B day=ps.map (calP l hs day A B):=by
 unfold rowC calP;refine W0K λx hx=>?_
 have:(x∈staL l hs ps day)↔stB l hs day x=true:=(by unfold staL;rw[W0G];exact ⟨λh=>h.2,λh=>⟨hx,h⟩⟩);have hd:decide (x∈staL l hs ps day)=stB l hs day x:=(by rw[W2h,decide_eq_true_iff];exact this);rw[hd]
def Zp2 (h:riP ps):ps.Nodup:=h.imp λ{a b} q e=>by rw[e]at q;omega
end
def clE (r:Jr) (l:Jl) (hs:Jh) (ps:Jp) (day:Int) (A B:List Int):Int :=
 if as7 r l hs ps day 1=0 then (if (A.all λid=>decide (0<=hoI hs id))&&B.all λd=>decide (d∈nums r) then 0 else 6) else as7 r l hs ps day 1
def clA (r:Jr) (l:Jl) (hs:Jh) (ps:Jp) (day:Int) (A B:List Int):AV :=
 .tup [if clE r l hs ps day A B=0 then prA r l hs (ps.map (calP l hs day A B)) else .agg [.nils,.nils,.nils,.nils],.int .i64 (clE r l hs ps day A B)]
def cl1 (O:AV) (hs:Jh) (day:Int) (A B:List Int) (i:Nat):St :=
 ⟨[(32,.int .i64 i),(31,.int .i64 A.length),(30,.vsl (A.map ia)),(12,.int .u64 (toN hs (A.take i):Nat)),(10,.ptr 10 0),(8,.ptr 8 0),(3,.vsl (B.map ia)),(1,.int .i64 day)],[(10,.box [O]),(8,.box [.nils,.nils,.nils,.nils])]⟩
def cl2 (O:AV) (IR NL HL:List (List AV)) (T:Nat) (ps S:Jp) (A B:List Int) (day:Int) (i:Nat):St :=
 ⟨[(64,.int .i64 i),(63,.int .i64 S.length),(62,.vsl (S.map ptA)),(16,.ptr 16 0),(12,.int .u64 (T:Nat)),(10,.ptr 10 0),(8,.ptr 8 0),(3,.vsl (B.map ia)),(1,.int .i64 day)],[(16,.box [.vsl IR,.vsl NL,.vsl HL,.osl 921 ps.length]),(921,.row 7 ((rowC ps (S.take i) A B day).map ptA)),(10,.box [O]),(8,.box [.nils,.nils,.nils,.nils])]⟩
section
variable {G:Jg}
def Zp3 (hG:GC G) (hN:GN G) (hP:GP G) (r:Jr) (l:Jl) (hs:Jh) (ps:Jp) (day:Int) (A B:List Int) (hl:WfN l) (hr:Wf r) (hne:r≠[]) (h80:r.length<=80) (hd:Sml (nums r)) (hw:WfP hs ps) (hA:Sml A) (hB:Sml B) :
  PC prog G 40 [prA r l hs ps,.int .i64 day,.vsl (A.map ia),.vsl (B.map ia)] (clA r l hs ps day A B):=by
 have ha:=ZjF hG hN hP r l hs ps day 1 hl hr hd hw;have pO:=ZiL r l hs ps;have kO:=ZiM r l hs ps;unfold asP at ha;unfold clA clE;by_cases h0:as7 r l hs ps day 1=0
 case neg =>
  rw[if_neg h0]at ha;simp only[if_neg h0];unfold prA at *
  (refine ZnQ rfl λR hG hrd=>Qga ?_;subst hG)
  simp -implicitDefEqProofs[ZnO,ZnP];refine Qco (ha) ?_;simp -implicitDefEqProofs[h0]
 have k0:=(Zl2 h0).1;have cS:=Zmi hG hN r l hs ps day hl hr hd hw k0;have cS:=PC.out cS (Nsub.orNil _);have hhl:=hw.hl;have cH:=λid=>Zj6 (G:=G) r l hs ps id (by unfold Sml;omega)
 rw[if_pos h0,h0]at ha;simp only[if_pos h0];have d1:ck7 r l hs ps=0:=k0;have c1:=Zo3 (G:=G) r l hs ps;obtain ⟨cs,hO,hc3⟩ : ∃ cs,ofA r l hs ps = .vptr cs 0/\cs[3]? = some (.vsl (ps.map ptA)):=⟨_,rfl,rfl⟩;rw[hO]at ha pO kO cS;simp only[hO]at cH c1;unfold Sml at hA hB;obtain ⟨V,hV⟩:=Qex (AV.tup [if (if ((A.all λid=>decide (0<=hoI hs id))&&B.all λd=>decide (d∈nums r))=true then (0:Int) else 6)=0 then prA r l hs (ps.map (calP l hs day A B)) else .agg [.nils,.nils,.nils,.nils],.int .i64 (if ((A.all λid=>decide (0<=hoI hs id))&&B.all λd=>decide (d∈nums r))=true then 0 else 6)]);rw[<- hV];have eP:prA r l hs ps = .agg [.vsl (r.map isa),.vsl (l.map na),.vsl (hs.map hoa),.vsl (ps.map ptA)]:=rfl;rw[eP]at ha ⊢
 (refine ZnQ rfl λR hG hrd=>Qga ?_;subst hG)
 simp -implicitDefEqProofs[ZnO,ZnP];refine Qco (ha) ?_;simp -implicitDefEqProofs;refine Z8s (cl1 (.vptr cs 0) hs day A B) (λi=>∀ id∈A.take i,0<=hoI hs id) A.length ?_ (by simp) ?_ ?_
 . unfold cl1
   ((try simp only[kO,toN]);refine Ym.sub (by simp[lk,Ya,AV.keys,kO,toN]) ?_;simp only[kO,toN,Wkl,and_true];(try simp[lk,Yc,Ya,AV.keys,kO,toN]))
 . intro i hi he;obtain ⟨id,hid⟩:=Qex (A[i]);have hlx:A[i]=id:=hid.symm;have cI:=cH id;have tk:A.take (i+1)=A.take i++[id]:=(by rw[W08 hi,hlx]);have wi:i64.wrap ((i:Int)+1)=(i:Int)+1:=Yf;refine Qga ?_;by_cases hc:0<=hoI hs id
   . obtain ⟨k,hk,e,f⟩:=ZoR hc;rw[e]at cI
     have hT:toN hs (A.take i)<256:=ZoQ hs _ λx hx=>by
      obtain ⟨k,hk,e,f⟩:=ZoR (he x hx);omega
     have sh:=ZoU _ hT k (by omega);have tn:toN hs (A.take (i+1))=toN hs (A.take i) ||| 2 ^ k:=by rw[tk,ZoM,e];rfl
     obtain ⟨T,hTe⟩:=Qex (toN hs (A.take i));rw[<- hTe]at sh tn hT;have hw1:cl1 (.vptr cs 0) hs day A B i=⟨[(32,.int .i64 i),(31,.int .i64 A.length),(30,.vsl (A.map ia)),(12,.int .u64 (T:Nat)),(10,.ptr 10 0),(8,.ptr 8 0),(3,.vsl (B.map ia)),(1,.int .i64 day)],[(10,.box [.vptr cs 0]),(8,.box [.nils,.nils,.nils,.nils])]⟩:=(by unfold cl1;rw[hTe]);have hw2:cl1 (.vptr cs 0) hs day A B (i+1)=⟨[(32,.int .i64 (i+1:Nat)),(31,.int .i64 A.length),(30,.vsl (A.map ia)),(12,.int .u64 ((T ||| 2 ^ k:Nat):Int)),(10,.ptr 10 0),(8,.ptr 8 0),(3,.vsl (B.map ia)),(1,.int .i64 day)],[(10,.box [.vptr cs 0]),(8,.box [.nils,.nils,.nils,.nils])]⟩:=(by unfold cl1;rw[tn]);rw[hw1];simp -implicitDefEqProofs[hi,hlx,ia];refine Yd.of cI (by simp[pO,AV.pure]) ?_;have hk0:¬((k:Int)<0):=(by omega);simp -implicitDefEqProofs[wi,sh,hk0];refine ⟨?_,λx hx=>?_⟩
     . rw[hw2]
       ((try simp only[kO]);refine Ym.sub (by simp[lk,Ya,AV.keys,kO]) ?_;simp only[kO,Wkl,and_true];(try simp[lk,Yc,Ya,AV.keys,kO]))
     . rw[tk]at hx;rcases W0h.1 hx with q|q
       . exact he x q
       . rw[W0B.1 q];exact hc
   . have hV2:V = .tup [.agg [.nils,.nils,.nils,.nils],.int .i64 6]:=by
      have:(A.all λid=>decide (0<=hoI hs id))=false:=by
       rw[List.all_eq_false];exact ⟨id,by rw[hid];exact W0e hi,by simpa using hc⟩
      rw[hV,this];rfl
     have hc2:hoI hs id<0:=(by omega);unfold cl1;simp -implicitDefEqProofs[hi,hlx,ia];refine Yd.of cI (by simp[pO,AV.pure]) ?_;simp -implicitDefEqProofs[hc2];refine Qgr ?_;simp -implicitDefEqProofs[hV2]
 . intro he;rw[W0v]at he
   have hT:toN hs A<256:=ZoQ hs _ λx hx=>by
    obtain ⟨k,hk,e,f⟩:=ZoR (he x hx);omega
   refine Qga ?_;unfold cl1;rw[W0v];have tz:=ZoT he;have th:=λy hy=>ZoS (y:=y) he hy
   generalize toN hs A=T at *;simp -implicitDefEqProofs;refine Qgr ?_;simp -implicitDefEqProofs;have cB:=Z9k (G:=R.G) 100 [.vptr [.vptr cs 0] 0] (λd=>!decide (d∈nums r)) B (by simp[AV.pure]) hB (λd _=>c1 d hd)
   (first|refine Yd.flat (cB) (by simp[AV.flat]) (by simp) ?_|refine Ye.flat (cB) (by simp[AV.flat]) (by simp) ?_)
   have hA':(A.all λid=>decide (0<=hoI hs id))=true:=W03.2 λx hx=>by simpa using he x hx
   rw[hA',W1k]at hV
   cases hBB:B.any λd=>!decide (d∈nums r) with
   | true =>
     have hB':(B.all λd=>decide (d∈nums r))=false:=by
      rw[W14]at hBB;obtain ⟨d,h1,h2⟩:=hBB;rw[List.all_eq_false];exact ⟨d,h1,by simpa using h2⟩
     rw[hB']at hV;simp -implicitDefEqProofs[hV]
   |false =>
   have hB':(B.all λd=>decide (d∈nums r))=true:=by
    rw[W27]at hBB;exact W03.2 λd h1=>by simpa using hBB d h1
   rw[hB']at hV;simp only[if_true]at hV;have co:=Zoa (G:=R.G) T hT;have oz:=Zo8 T hT;have oB:=Zo9 T hT;have ws:i64.wrap (ocF T+(B.length:Int))=ocF T+(B.length:Int):=Yf;obtain ⟨IR,hIR⟩:=Qex (r.map isa);obtain ⟨NL,hNL⟩:=Qex (l.map na);obtain ⟨HL,hHL⟩:=Qex (hs.map hoa);have pIR:(IR.all λr=>r.all AV.pure)=true:=(by rw[hIR];simp[isa,AV.pure]);have pNL:(NL.all λr=>r.all AV.pure)=true:=(by rw[hNL];simp[na,AV.pure]);have pHL:(HL.all λr=>r.all AV.pure)=true:=(by rw[hHL];simp[hoa,ia,AV.pure]);by_cases hps:ps=[]
   . subst hps;have cc:=ZoL (G:=R.G) r l hs hr hl.1 hw hne h80;have cc:=PC.out (w:=.agg [.vsl (r.map isa),.vsl (l.map na),.vsl (hs.map hoa),.vsl []]) cc (Nsub.agg ⟨.rfl',.rfl',.orNil _,.rfl',trivial⟩);rw[hO,<- hIR,<- hNL,<- hHL]at cc;have hV:V = .tup [.agg [.vsl IR,.vsl NL,.vsl HL,.vsl []],.int .i64 0]:=(by rw[hV,hIR,hNL,hHL];rfl);have cS:PC prog R.G 91 [.vptr cs 0,.int .i64 day] (.vsl []):=cS;simp -implicitDefEqProofs;refine Yd.of cc (by simp[pO,AV.pure]) ?_;simp -implicitDefEqProofs;refine Yd.of co (by simp[AV.pure]) ?_;simp -implicitDefEqProofs[ws];by_cases z:ocF T+(B.length:Int)=0
     . rw[W0M z];simp -implicitDefEqProofs[hV,pIR,pNL,pHL]
     . rw[W0S z];simp -implicitDefEqProofs;refine Yd.of cS (by simp[pO,AV.pure]) ?_;simp -implicitDefEqProofs;refine Z8s (λi=>⟨[(64,.int .i64 i),(63,.int .i64 0),(16,.ptr 16 0),(8,.ptr 8 0)],[(16,.box [.vsl IR,.vsl NL,.vsl HL,.vsl []]),(8,.box [.nils,.nils,.nils,.nils])]⟩) (λ_=>True) 0 ?_ trivial (λi hi=>absurd hi (by omega)) ?_
       . (refine Wkc ?_;simp only[Wkl,and_true];(try simp[lk,Yc,Ya,AV.keys]))
       . intro _;refine Qga ?_;simp -implicitDefEqProofs;refine Qgr ?_;simp -implicitDefEqProofs[hV,pIR,pNL,pHL]
   . have hhs:hs≠[]:=λe=>by
      cases ps with
      |nil=>exact hps rfl
      | cons x t =>
        have:=(ZlN k0 (W0H ..)).1;rw[e]at this;exact absurd this (by simp[hoI,fstOf])
     have cc:=ZoJ (G:=R.G) r l hs ps hr hl.1 hw hne h80 hps;have eh:Yg (hs.map hoa) = .vsl (hs.map hoa):=(by unfold Yg;rw[if_neg (by simpa using hhs)]);rw[eh,hO,<- hIR,<- hNL,<- hHL]at cc;have hV:V = .tup [.agg [.vsl IR,.vsl NL,.vsl HL,.vsl ((ps.map (calP l hs day A B)).map ptA)],.int .i64 0]:=(by rw[hV,hIR,hNL,hHL];rfl);have rIR:=λρ=>AV.ren_pure (ρ:=ρ) (.vsl IR) (by simpa [AV.pure] using pIR)
     have rNL:=λρ=>AV.ren_pure (ρ:=ρ) (.vsl NL) (by simpa [AV.pure] using pNL)
     have rHL:=λρ=>AV.ren_pure (ρ:=ρ) (.vsl HL) (by simpa [AV.pure] using pHL)
     have kIR:=AV.pure_keys (.vsl IR) (by simpa [AV.pure] using pIR);have kNL:=AV.pure_keys (.vsl NL) (by simpa [AV.pure] using pNL);have kHL:=AV.pure_keys (.vsl HL) (by simpa [AV.pure] using pHL);simp -implicitDefEqProofs;refine Yd.sem (Z1B.objs cc (λk=>k+300) (by simp) (by simp[St.get,lk]) (by simp[AV.pure,pO]) rfl rfl) ?_;simp -implicitDefEqProofs[Yl,Zmf,AV.ren,rIR,rNL,rHL];refine Yd.of co (by simp[AV.pure]) ?_;simp -implicitDefEqProofs[ws];by_cases z:ocF T+(B.length:Int)=0
     . have hA0:A=[]:=tz.1 (oz.1 (by omega));have hB0:B=[]:=W0l.1 (by omega)
       have hm:ps.map (calP l hs day A B)=ps:=by
        refine (W0K λx _=>?_).trans (W24 _);unfold calP rchB;rw[hA0,hB0];simp
       rw[W0M z];rw[hm]at hV;have pP:((ps.map ptA).all λr=>r.all AV.pure)=true:=(by simp[ptA,AV.pure]);simp -implicitDefEqProofs[hV,pIR,pNL,pHL,pP]
     . rw [W0S z];simp -implicitDefEqProofs;refine Yd.of cS (by simp[pO,AV.pure]) ?_;simp -implicitDefEqProofs;refine Z8s (cl2 (.vptr cs 0) IR NL HL T ps (staL l hs ps day) A B day) (λ_=>True) (staL l hs ps day).length ?_ trivial ?_ ?_
       . unfold cl2;rw[W1g,ZoW]
         ((try simp only[kO,kIR,kNL,kHL]);refine Ym.sub (by simp[lk,Ya,AV.keys,kO,kIR,kNL,kHL]) ?_;simp only[kO,kIR,kNL,kHL,Wkl,Zlr,and_true];(try simp[lk,Yc,Ya,AV.keys,kO,kIR,kNL,kHL]))
       . intro i hi _;have hsub:∀ y∈staL l hs ps day,y∈ps:=λy hy=>(W0G.1 hy).1
         have hrp:riP ps:=(ZiI.1 (ZjB.1 k0).2).2.2.1;have hSn:(staL l hs ps day).Nodup:=(Zp2 hrp).filter _;have hSl:(staL l hs ps day).length<=ps.length:=W0D ..;generalize staL l hs ps day=S at *;obtain ⟨y,hy⟩:=Qex (S[i]);have hly:S[i]=y:=hy.symm;have hyp:y∈ps:=hsub y (by rw[hy];exact W0e hi);have tk:S.take (i+1)=S.take i++[y]:=by rw[W08 hi,hly]
         have hyn:y ∉ S.take i:=λh=>by
          obtain ⟨j,hj,e⟩:=W0k h;rw[W1W]at e;have hji:j<i:=(by simp at hj;omega);have:=(List.getElem_inj hSn).1 (e.trans hy);omega
         have wi:i64.wrap ((i:Int)+1)=((i+1:Nat):Int):=Yf (by omega) (by have:=hw.pl;omega);have hpy:ptA y=[.int .i64 y.no,.int .i64 y.dy,.int .i64 y.ho,.int .i64 y.dw,.int .i64 y.lt,.int .i64 y.bk,.int .u8 y.lo]:=rfl;have cI:=cH y.ho;obtain ⟨k,hk,e,f⟩:=ZoR (ZlN k0 hyp).1;have thy:=th y.ho (ZlN k0 hyp).1;rw[e]at cI thy;have thy:T.testBit k=A.contains y.ho:=thy;have sr:=ZoV T hT k (by omega);rw[thy]at sr;have cD:=ZeG (G:=R.G) B y.dw hB;have hw1:∀ X,(rowC ps (S.take i) A B day).map ptA=X->cl2 (.vptr cs 0) IR NL HL T ps S A B day i=⟨[(64,.int .i64 i),(63,.int .i64 S.length),(62,.vsl (S.map ptA)),(16,.ptr 16 0),(12,.int .u64 (T:Nat)),(10,.ptr 10 0),(8,.ptr 8 0),(3,.vsl (B.map ia)),(1,.int .i64 day)],[(16,.box [.vsl IR,.vsl NL,.vsl HL,.osl 921 ps.length]),(921,.row 7 X),(10,.box [.vptr cs 0]),(8,.box [.nils,.nils,.nils,.nils])]⟩:=λX hX=>by unfold cl2;rw[hX]
         have hw2:∀ X,(rowC ps (S.take (i+1)) A B day).map ptA=X->cl2 (.vptr cs 0) IR NL HL T ps S A B day (i+1)=⟨[(64,.int .i64 (i+1:Nat)),(63,.int .i64 S.length),(62,.vsl (S.map ptA)),(16,.ptr 16 0),(12,.int .u64 (T:Nat)),(10,.ptr 10 0),(8,.ptr 8 0),(3,.vsl (B.map ia)),(1,.int .i64 day)],[(16,.box [.vsl IR,.vsl NL,.vsl HL,.osl 921 ps.length]),(921,.row 7 X),(10,.box [.vptr cs 0]),(8,.box [.nils,.nils,.nils,.nils])]⟩:=λX hX=>by unfold cl2;rw[hX]
         obtain ⟨j,hj,ej⟩:=W0k hyp;have cX:=Zo1 (G:=R.G) y ps (by have:=hw.pl;unfold Sml;omega)
         rw[Z9g hj (by simp[ej]) (λm hm hmj=>W0S λq=>by
          have:=Zo4 hrp hmj hj;rw[ej,<- q]at this;omega),hpy]at cX
         have hset:=λh=>Zp0 (S:=S.take i) (A:=A) (B:=B) (day:=day) hrp (y:=y) h hyn hj ej
         have hXl:((rowC ps (S.take i) A B day).map ptA).length=ps.length:=(by rw[W0N,ZoX]);have hXj:∀ h:rchB A B y=true,((rowC ps (S.take i) A B day).map ptA)[j]'(by rw[hXl];exact hj)=[.int .i64 y.no,.int .i64 y.dy,.int .i64 y.ho,.int .i64 y.dw,.int .i64 y.lt,.int .i64 y.bk,.int .u8 y.lo]:=λh=>by rw[W1w,(hset h).1,hpy]
         have hXs:∀ h:rchB A B y=true,((rowC ps (S.take i) A B day).map ptA).set j [.int .i64 y.no,.int .i64 y.dy,.int .i64 y.ho,.int .i64 y.dw,.int .i64 y.lt,.int .i64 day,.int .u8 0]=(rowC ps (S.take (i+1)) A B day).map ptA:=λh=>by
          rw[tk,<- (hset h).2,W2r];rfl
         obtain ⟨X,hX⟩:=Qex ((rowC ps (S.take i) A B day).map ptA);simp only[<- hX]at hXl hXj hXs;refine Qga ?_;by_cases c1:A.contains y.ho=true
         . have hR:rchB A B y=true:=(by unfold rchB;rw[c1];rfl);rw[hw1 X hX.symm];rw[c1]at sr;simp -implicitDefEqProofs[hi,hly,hpy];refine Yd.of cI (by simp[pO,AV.pure]) ?_;rw[if_pos rfl]at sr;have hXj:=hXj hR;have hXs:=hXs hR;simp -implicitDefEqProofs[sr,hc3];refine Qco (cX) ?_;simp -implicitDefEqProofs[hXl,hj,hXj,wi];refine ⟨rfl,rfl,?_⟩;rw[hXs,hw2 _ rfl]
           ((try simp only[kO,kIR,kNL,kHL]);refine Ym.sub (by simp[lk,Ya,AV.keys,kO,kIR,kNL,kHL]) ?_;simp only[kO,kIR,kNL,kHL,Wkl,Zlr,and_true];(try simp[lk,Yc,Ya,AV.keys,kO,kIR,kNL,kHL]))
         . have c1:A.contains y.ho=false:=(by simpa using c1);rw[hw1 X hX.symm];rw[c1]at sr;simp -implicitDefEqProofs[hi,hly,hpy];refine Yd.of cI (by simp[pO,AV.pure]) ?_;rw[if_neg (by simp)]at sr;simp -implicitDefEqProofs[sr];refine Yd.of cD (by simp[AV.pure,ia]) ?_;by_cases c2:y.dw∈B
           . have hR:rchB A B y=true:=(by unfold rchB;rw[c1,W1P,W0w];exact c2);have hXj:=hXj hR;have hXs:=hXs hR;simp -implicitDefEqProofs[c2,hc3];refine Qco (cX) ?_;simp -implicitDefEqProofs[hXl,hj,hXj,wi];refine ⟨rfl,rfl,?_⟩;rw[hXs,hw2 _ rfl]
             ((try simp only[kO,kIR,kNL,kHL]);refine Ym.sub (by simp[lk,Ya,AV.keys,kO,kIR,kNL,kHL]) ?_;simp only[kO,kIR,kNL,kHL,Wkl,Zlr,and_true];(try simp[lk,Yc,Ya,AV.keys,kO,kIR,kNL,kHL]))
           . have hR:rchB A B y=false:=(by unfold rchB;rw[c1,W1P,Bool.eq_false_iff,ne_eq,W0w];exact c2);simp -implicitDefEqProofs[c2,wi];rw[hw2 _ rfl,tk,ZoZ hR,hX]
             ((try simp only[kO,kIR,kNL,kHL]);refine Ym.sub (by simp[lk,Ya,AV.keys,kO,kIR,kNL,kHL]) ?_;simp only[kO,kIR,kNL,kHL,Wkl,Zlr,and_true];(try simp[lk,Yc,Ya,AV.keys,kO,kIR,kNL,kHL]))
       . intro _;refine Qga ?_;unfold cl2;rw[W0v,Zp1];have hQl:(ps.map (calP l hs day A B)).length=ps.length:=(by simp);generalize ps.map (calP l hs day A B)=Q at *;simp -implicitDefEqProofs;refine Qgr ?_;have pP:((Q.map ptA).all λr=>r.all AV.pure)=true:=(by simp[ptA,AV.pure]);simp -implicitDefEqProofs[hV,pIR,pNL,pHL,pP,hQl]
end
def snE (r:Jr) (l:Jl) (hs:Jh) (ps:Jp) (x:Prt):Int :=
 if ck7 r l hs ps=0 then (if ps.length=30 then 9 else if ck7 r l hs (putP ps x (plP ps x))=0 then 0 else 70) else ck7 r l hs ps
def snA (r:Jr) (l:Jl) (hs:Jh) (ps:Jp) (x:Prt):AV :=
 .tup [if snE r l hs ps x=0 then prA r l hs (putP ps x (plP ps x)) else .agg [.nils,.nils,.nils,.nils],.int .i64 (snE r l hs ps x)]
section
variable {G:Jg}
def Zp4 (l:Jp) (x:Prt):putP l x l.length=l++[x]:=by unfold putP;simp
def Zp5 (l:Jp) (x:Prt) (hne:l≠[]) (hl:l.length<=41) :
  PB prog G 108 [(1000,.row 7 (l.map ptA))] [.osl 1000 l.length,.int .i64 l.length,.vsl [ptA x]] (.osl 1000 (l.length+1)) [(1000,.row 7 ((putP l x l.length).map ptA))]:=by
 rw[Zp4];have b1:(l.length+1)*56<=70368744177664:=(by omega);have hpx:ptA x=[.int .i64 x.no,.int .i64 x.dy,.int .i64 x.ho,.int .i64 x.dw,.int .i64 x.lt,.int .i64 x.bk,.int .u8 x.lo]:=rfl
 (refine Znm (W0C rfl) λR hG hrd=>Qga ?_;subst hG)
 simp -implicitDefEqProofs[Znk,Znl,hpx,b1];have e:l.map ptA++[[.int .i64 x.no,.int .i64 x.dy,.int .i64 x.ho,.int .i64 x.dw,.int .i64 x.lt,.int .i64 x.bk,.int .u8 x.lo]]=(l++[x]).map ptA:=(by rw[W0r];rfl);rw[e]
 have fP:∀ ok st,((l++[x]).map ptA).map (λr=>r.map (frzA ok st))=(l++[x]).map ptA:=λok st=>by
  rw[W10];refine W0K λp _=>?_
  simp[ptA,frzA,frz,AV.keys]
 generalize (l++[x]).map ptA=X at *;simp -implicitDefEqProofs[FinB,Yi,newK,frzA,frzO,frz,AV.keys,fP]
def Zp6 (l:Jp) (x:Prt) (i:Nat) (hi:i<=l.length) (hne:l≠[]) (hl:l.length<=41) :
  PB prog G 108 [(1000,.row 7 (l.map ptA))] [.osl 1000 l.length,.int .i64 i,.vsl [ptA x]] (.osl 1000 (l.length+1)) [(1000,.row 7 ((putP l x i).map ptA))]:=by
 by_cases h:i<l.length
 . exact Zny l x i h hl
 . obtain rfl:i=l.length:=(by omega);exact Zp5 l x hne hl
def Zp7 (hG:GC G) (hN:GN G) (hP:GP G) (r:Jr) (l:Jl) (hs:Jh) (ps:Jp) (x:Prt) (hl:WfN l) (hr:Wf r) (hne:r≠[]) (h80:r.length<=80) (hd:Sml (nums r)) (hw:WfP hs ps) (hx:POk x) (hps:ps≠[]) :
  PC prog G 42 [prA r l hs ps,.agg (ptA x)] (snA r l hs ps x):=by
 have ho:=ZjD hG hN hP r l hs ps hl hr hd hw;have pO:=ZiL r l hs ps;have kO:=ZiM r l hs ps;have hpx:ptA x=[.int .i64 x.no,.int .i64 x.dy,.int .i64 x.ho,.int .i64 x.dw,.int .i64 x.lt,.int .i64 x.bk,.int .u8 x.lo]:=rfl;have eP:prA r l hs ps = .agg [.vsl (r.map isa),.vsl (l.map na),.vsl (hs.map hoa),.vsl (ps.map ptA)]:=rfl;unfold opP at ho;unfold snA snE;by_cases h0:ck7 r l hs ps=0
 case neg =>
  rw[if_neg h0]at ho;simp only[if_neg h0];rw[eP]at ho ⊢
  (refine ZnZ rfl λR hG hrd=>Qga ?_;subst hG)
  simp -implicitDefEqProofs[ZnX,ZnY,hpx];refine Qco (ho) ?_;simp -implicitDefEqProofs[h0]
 rw[if_pos h0,h0]at ho;simp only[if_pos h0];by_cases h30:ps.length=30
 . simp only[if_pos h30];rw[eP]at ho ⊢
   (refine ZnZ rfl λR hG hrd=>Qga ?_;subst hG)
   simp -implicitDefEqProofs[ZnX,ZnY,hpx];refine Qco (ho) ?_;simp -implicitDefEqProofs[h30]
 simp only[if_neg h30];have hB:=ZiI.1 (ZjB.1 h0).2;have h30':ps.length<=30:=hB.2.1;have hrp:riP ps:=hB.2.2.1;have hpl:plP ps x<=ps.length:=List.countP_le_length;have hQl:(putP ps x (plP ps x)).length=ps.length+1:=ZfZ
 have hw':WfP hs (putP ps x (plP ps x)):=⟨hw.hl,by omega,hw.dl,λy hy=>by
  rcases ZfY.1 hy with rfl|hy
  . exact hx
  . exact hw.po y hy⟩
 have cK:=ZjE hG hN hP r l hs (putP ps x (plP ps x)) hl hr hd hw'
 have hhs:hs≠[]:=λe=>by
  cases ps with
  |nil=>exact hps rfl
  | cons y t =>
    have:=(ZlN h0 (W0H ..)).1;rw[e]at this;exact absurd this (by simp[hoI,fstOf])
 have eh:Yg (hs.map hoa) = .vsl (hs.map hoa):=(by unfold Yg;rw[if_neg (by simpa using hhs)]);have cc:=ZoJ (G:=G) r l hs ps hr hl.1 hw hne h80 hps;have cb:=Zo7 (G:=G) 106 x ps (by unfold Sml;omega) hrp (λz _=>Zo2 z x.no);have ci:=Zp6 (G:=G) ps x (plP ps x) hpl hps (by omega);obtain ⟨cs,hO⟩ : ∃ cs,ofA r l hs ps = .vptr cs 0:=⟨_,rfl⟩;have eQ:prA r l hs (putP ps x (plP ps x)) = .agg [.vsl (r.map isa),.vsl (l.map na),.vsl (hs.map hoa),.vsl ((putP ps x (plP ps x)).map ptA)]:=rfl;rw[eP]at ho ⊢;rw[eQ]at cK ⊢;rw[eh]at cc;rw[hO]at ho pO kO cc;obtain ⟨IR,hIR⟩:=Qex (r.map isa);obtain ⟨NL,hNL⟩:=Qex (l.map na);obtain ⟨HL,hHL⟩:=Qex (hs.map hoa);have pIR:(IR.all λr=>r.all AV.pure)=true:=(by rw[hIR];simp[isa,AV.pure]);have pNL:(NL.all λr=>r.all AV.pure)=true:=(by rw[hNL];simp[na,AV.pure]);have pHL:(HL.all λr=>r.all AV.pure)=true:=(by rw[hHL];simp[hoa,ia,AV.pure]);rw[<- hIR,<- hNL,<- hHL]at ho cK cc ⊢;have pP:((ps.map ptA).all λr=>r.all AV.pure)=true:=(by simp[ptA,AV.pure]);have pQ:(((putP ps x (plP ps x)).map ptA).all λr=>r.all AV.pure)=true:=(by simp[ptA,AV.pure]);have rIR:=λρ=>AV.ren_pure (ρ:=ρ) (.vsl IR) (by simpa [AV.pure] using pIR)
 have rNL:=λρ=>AV.ren_pure (ρ:=ρ) (.vsl NL) (by simpa [AV.pure] using pNL)
 have rHL:=λρ=>AV.ren_pure (ρ:=ρ) (.vsl HL) (by simpa [AV.pure] using pHL)
 have kIR:=AV.pure_keys (.vsl IR) (by simpa [AV.pure] using pIR);have kNL:=AV.pure_keys (.vsl NL) (by simpa [AV.pure] using pNL);have kHL:=AV.pure_keys (.vsl HL) (by simpa [AV.pure] using pHL);have rPs:=λρ=>AObj.ren_pure (ρ:=ρ) (sz:=7) pP
 have rQs:=λρ=>AObj.ren_pure (ρ:=ρ) (sz:=7) pQ
 have kPs:=λo=>Zlr o ps
 generalize hX:ps.map ptA=X at *;generalize hY:(putP ps x (plP ps x)).map ptA=Y at *
 (refine ZnZ rfl λR hG hrd=>Qga ?_;subst hG)
 simp -implicitDefEqProofs[ZnX,ZnY,hpx];refine Qco (ho) ?_;have hXl:X.length=ps.length:=(by rw[<- hX];simp);have hYl:Y.length=ps.length+1:=(by rw[<- hY];simp[hQl]);have h30i:¬((ps.length:Int)=30):=(by omega);simp -implicitDefEqProofs[h30i,hXl];refine Yd.sem (Z1B.objs cc (λk=>k+300) (by simp) (by simp[St.get,lk]) (by simp[AV.pure,pO]) rfl rfl) ?_;simp -implicitDefEqProofs[Yl,rPs,AV.ren,rIR,rNL,rHL];refine Yd.flat cb (by simp[AV.flat]) (by simp[Yj,snap,Yh,okAll,St.get,lk,hXl,pP,AV.pure]) ?_;simp -implicitDefEqProofs;refine Yd.sem (Z1B.byref ci (λ_=>921) (by simp) (by simp) (by simp[St.get,lk,rPs]) (by simp only[W0g,W0Q,or_false,forall_eq];exact kPs _) (by simp[Ya,AV.keys,lk,ptA]) rfl (by simp[AV.ren,ptA]) rfl rfl) ?_;simp -implicitDefEqProofs[Yl,rQs,AV.ren];refine Yd.flat cK (by simp[AV.flat]) (by simp[Yj,snap,Yh,okAll,St.get,lk,hYl,pQ,pIR,pNL,pHL,AV.pure]) ?_;by_cases hk:ck7 r l hs (putP ps x (plP ps x))=0
 . simp -implicitDefEqProofs[hk,hYl,pQ,pIR,pNL,pHL]
 . simp -implicitDefEqProofs[hk]
end
def NsubR:List (List AV)->List (List AV)->Prop
 |[],[]=>True
 |x::xs,y::ys=>NsubL x y/\NsubR xs ys
 |_,_=>False
def NsubR.len:∀ {xs ys:List (List AV)},NsubR xs ys->xs.length=ys.length
 |[],[],_=>rfl
 |_::_,_::_,h=>by simp only[W1p,NsubR.len h.2]
 |[],_::_,h=>h.elim
 |_::_,[],h=>h.elim
def NsubR.at:∀ {xs ys:List (List AV)},NsubR xs ys->∀ (i:Nat) (y:List AV),ys[i]? = some y->∃ x,xs[i]? = some x/\NsubL x y
 |[],[],_,i,y,h=>by simp at h
 | x::xs,y::ys,h,0,z,e=>by
   simp only[W2i,W00]at e;subst e;exact ⟨x,rfl,h.1⟩
 | x::xs,y::ys,h,i+1,z,e=>by
   simp only[List.getElem?_cons_succ]at e;obtain ⟨w,h1,h2⟩:=NsubR.at h.2 i z e;exact ⟨w,by simpa using h1,h2⟩
 |[],_::_,h,_,_,_=>h.elim
 |_::_,[],h,_,_,_=>h.elim
def Nsub.vsl {xs ys:List (List AV)} (h:NsubR xs ys):Nsub (.vsl xs) (.vsl ys):=λM W u hu=>by
 have hl:=h.len
 cases hu with
 | vsl _ a cap sz b o f hcap hmax ha hn hs hc hr =>
   rw[hl];refine .vsl ys a cap sz b o f (by omega) hmax (λe=>ha λe2=>e ?_) (λe=>⟨?_,(hn e).2⟩) (λr hr=>?_) (λi j hi hj=>hc i j (by omega) hj) λi j ρ x hρ hx=>?_
   . rw[e2]at hl;exact List.eq_nil_of_length_eq_zero hl.symm
   . have:=(hn e).1;rw[this]at hl;exact List.eq_nil_of_length_eq_zero hl.symm
   . obtain ⟨i,hi,rfl⟩:=W0k hr;obtain ⟨x,hx,h2⟩:=h.at i _ (W07 hi);rw[<- h2.len];exact hs x (W0d hx)
   . obtain ⟨y,hy,h2⟩:=h.at i ρ hρ;obtain ⟨z,hz,h3⟩:=h2.at j x hx;exact h3 _ _ _ (hr i j y z hy hz)
def exG:List Iss:=[
 ⟨10,1,1,[(20,2),(30,1)],[]⟩,⟨10,2,1,[(20,1),(30,2),(40,2)],[]⟩,⟨20,1,1,[(30,3),(50,1)],[]⟩,
 ⟨30,1,2,[],[⟨150,100,200⟩]⟩,⟨30,2,2,[],[⟨150,120,200⟩]⟩,⟨40,1,2,[],[]⟩,⟨50,1,3,[],[]⟩]
def exP2:List Prt:=[⟨1,10,1,30,1,300,0⟩,⟨2,120,1,30,2,-1,0⟩,⟨3,10,2,30,1,-1,0⟩,⟨4,10,3,30,1,-1,1⟩,⟨5,10,3,10,1,-1,0⟩,⟨6,210,1,10,2,-1,0⟩,⟨7,10,1,10,1,205,0⟩]
def exX:Prt:=⟨8,300,1,10,1,-1,0⟩
def exP3:List Prt:=exP1++[exX]
def ex_wr:Wf exG:=by
 refine ⟨⟨by unfold Sml;decide,?_⟩,by decide⟩;unfold Sml;decide
def ex_wl:WfN exN:=⟨by unfold Sml;decide,by decide⟩
def ex_nu:nums exG=[10,20,30,40,50]:=by decide +kernel
def ex_sn:Sml (nums exG):=by rw[ex_nu];unfold Sml;decide
def ex_w1:WfP exH exP1:=⟨by decide,by decide,by decide,by unfold POk;decide⟩
def ex_w2:WfP exH exP2:=⟨by decide,by decide,by decide,by unfold POk;decide⟩
def ex_w3:WfP exH exP3:=⟨by decide,by decide,by decide,by unfold POk;decide⟩
def ex_c1:ck7 exG exN exH exP1=0:=by decide +kernel
def ex_c3:ck7 exG exN exH exP3=0:=by decide +kernel
def ex_a1:as7 exG exN exH exP1 300 1=0:=by decide +kernel
def ex_a2:as7 exG exN exH exP2 300 1=0:=by decide +kernel
def ex_he:heE exG exN exH exP1 300 3=([5],[4],0):=by decide +kernel
def ex_ne:neE exG exN exH exP1 1 10=[1,2]:=by
 have h:ab7 exG exN exH exP1 0 1 1 [10]=0:=(by decide +kernel);have e:hoF exH 1=some ⟨1,6,9,[10,30]⟩:=rfl;rw[neE,if_pos h,ndI,e];exact ex_nd
def ex_ms:msE exG exN exH exP1 300 1=[(10,1)]:=by
 have h:ab7 exG exN exH exP1 300 1 1 []=0:=(by decide +kernel);have e:hoF exH 1=some ⟨1,6,9,[10,30]⟩:=rfl;rw[msE,if_pos h,misI,e];show misL _ _ _ _=_;unfold misL;simp only[Zg3,Zg1]
 decide +kernel
def Zp8:msE exG exN exH exP3 300 1=[]:=by
 have h:ab7 exG exN exH exP3 300 1 1 []=0:=(by decide +kernel);have e:hoF exH 1=some ⟨1,6,9,[10,30]⟩:=rfl;rw[msE,if_pos h,misI,e];show misL _ _ _ _=_;unfold misL;simp only[Zg3,Zg1]
 decide +kernel
def Zp9:sta7E exG exN exH exP1 300=[1,3,4]:=by rw[sta7E,if_pos ex_a1,Zg5];rfl
def Zpa:exP1.map (calP exN exH 300 [1] [])=exP2:=by
 have e:calP exN exH 300 [1] []=λx=>if ((outB x 300&&match hoF exH x.ho with
   |some h=>h.ds.contains x.dw && !(ndsU [102] exN h x.dw).contains x.lt
   |none=>false)&&rchB [1] [] x)=true then { x with bk:=300,lo:=0 } else x:=by
  funext x
  unfold calP stB;simp only[Zg3,Zg1]
  cases hoF exH x.ho <;> rfl
 rw[e];decide +kernel
def Zpb:sta7E exG exN exH exP2 300=[3,4]:=by
 rw[sta7E,if_pos ex_a2,Zg4,Zg1];decide +kernel
def Zpc:exH.map (·.id)=[1,2,3]:=rfl
def Zpd:ca7E exG exN exH exP1 300=([],[30]):=by rw[ca7E,if_pos ex_a1,Zpc,ex_nu];exact ex_ca
def Zpe:pr7E exG exN exH exP1 300=[1]:=by
 have e:=ex_ca;rw[exDl]at e;rw[pr7E,if_pos ex_a1,Zpc,ex_nu,e,Zg5];rfl
def ex_pl:plP exP1 exX=7:=by decide +kernel
def Zpf:putP exP1 exX 7=exP3:=rfl
def Zpg:snE exG exN exH exP1 exX=0:=by
 have h:¬exP1.length=30:=(by decide);rw[snE,if_pos ex_c1,if_neg h,ex_pl,Zpf,if_pos ex_c3]
def Zph:wgE exG exN exH exP1 300 2 30 418=2:=by
 have h:ab7 exG exN exH exP1 300 418 2 [30]=0:=(by decide +kernel);rw[wgE,if_pos h,ex_po];decide +kernel
def Zpi:wgE exG exN exH exP1 300 1 10 9=1:=by
 have h:ab7 exG exN exH exP1 300 9 1 [10]=0:=(by decide +kernel);rw[wgE,if_pos h,Zg6];decide +kernel
def Zpj:wgE exG exN exH exP1 300 1 30 6=0:=by
 have h:ab7 exG exN exH exP1 300 6 1 [30]=0:=(by decide +kernel);rw[wgE,if_pos h,Zg7];decide +kernel
section
variable {G:Jg}
def Zpk (d l:Int):PC prog G 47 [.int .i64 d,.int .i64 l] (.agg [.int .i64 d,.int .i64 l]):=by
 (refine Z5H rfl λR hG hrd=>Qga ?_;subst hG)
 simp -implicitDefEqProofs[Z5F,Z5G]
def Zpl (n d h a b:Int):PC prog G 48 [.int .i64 n,.int .i64 d,.int .i64 h,.agg [.int .i64 a,.int .i64 b]] (.agg [.int .i64 n,.int .i64 d,.int .i64 h,.int .i64 a,.int .i64 b,.int .i64 (-1),.int .u8 0]):=by
 (refine Z5K rfl λR hG hrd=>Qga ?_;subst hG)
 simp -implicitDefEqProofs[Z5I,Z5J]
def Zpm:PC prog G 110 [] (.agg [.vsl (exG.map isa),.vsl (exN.map na)]):=by
 refine PC.out (v:=.agg [.vsl [[.int .i64 10,.int .i64 1,.int .u8 1,.vsl [[.int .i64 20,.int .i64 2],[.int .i64 30,.int .i64 1]],.nils],
  [.int .i64 10,.int .i64 2,.int .u8 1,.vsl [[.int .i64 20,.int .i64 1],[.int .i64 30,.int .i64 2],[.int .i64 40,.int .i64 2]],.nils],
  [.int .i64 20,.int .i64 1,.int .u8 1,.vsl [[.int .i64 30,.int .i64 3],[.int .i64 50,.int .i64 1]],.nils],
  [.int .i64 30,.int .i64 1,.int .u8 2,.nils,.vsl [[.int .i64 150,.int .i64 100,.int .i64 200]]],
  [.int .i64 30,.int .i64 2,.int .u8 2,.nils,.vsl [[.int .i64 150,.int .i64 120,.int .i64 200]]],
  [.int .i64 40,.int .i64 1,.int .u8 2,.nils,.nils],[.int .i64 50,.int .i64 1,.int .u8 3,.nils,.nils]],.vsl (exN.map na)]) ?_ ?_
 . have r2:List.range 2=[0,1]:=rfl;have r3:List.range 3=[0,1,2]:=rfl;have r4:List.range 4=[0,1,2,3]:=rfl;have r7:List.range 7=[0,1,2,3,4,5,6]:=rfl
   (refine Z5N rfl λR hG hrd=>Qga ?_;subst hG)
   simp -implicitDefEqProofs[Z5L,Z5M,r2,r3,r4,r7]
   try rfl
 . refine .agg ⟨.vsl ?_,.rfl',trivial⟩;have n:=@Nsub.rfl';exact ⟨⟨n,n,n,n,.nils,trivial⟩,⟨n,n,n,n,.nils,trivial⟩,⟨n,n,n,n,.nils,trivial⟩,⟨n,n,n,.nils,n,trivial⟩,⟨n,n,n,.nils,n,trivial⟩,⟨n,n,n,.nils,.nils,trivial⟩,⟨n,n,n,.nils,.nils,trivial⟩,trivial⟩
set_option maxRecDepth 100000 in
def Zpn:PC prog G 45 [] (prA exG exN exH exP1):=by
 have hN:=Zpm (G:=G);have r2:List.range 2=[0,1]:=rfl;have r3:List.range 3=[0,1,2]:=rfl;have r7:List.range 7=[0,1,2,3,4,5,6]:=rfl;unfold prA
 (refine Z5Q rfl λR hG hrd=>Qga ?_;subst hG)
 simp -implicitDefEqProofs[Z5O,Z5P,r2,r3,r7]
 repeat
  first
   |refine Qco (Zpk _ _) ?_
   |refine Qco (Zpl _ _ _ _ _) ?_
   |refine Qco (hN) ?_
  simp -implicitDefEqProofs[r2,r3,r7]
 exact ⟨rfl,rfl,rfl⟩
def Zpo (a w:List Int) (e:Int) (ha:Sml a):PC prog G 46 [.vsl (a.map ia),.int .i64 e,.vsl (w.map ia)] (.bool (decide (e=0)&&decide (a=w))):=by
 have c:=Z8z (G:=G) a w ha;by_cases h:e=0
 . subst h
   (refine Z5T rfl λR hG hrd=>Qga ?_;subst hG)
   simp -implicitDefEqProofs[Z5R,Z5S];refine Qco (c) ?_;simp -implicitDefEqProofs
 . (refine Z5T rfl λR hG hrd=>Qga ?_;subst hG)
   simp -implicitDefEqProofs[Z5R,Z5S,h]
def Zpp (hG:GC G) (hN:GN G) (hP:GP G) (h d m w:Int) (hv:wgA exG exN exH exP1 300 h d m = .tup [.int .u8 w,.int .i64 0]) :
  PC prog G 109 [.int .i64 h,.int .i64 d,.int .i64 m,.int .u8 w] (.bool true):=by
 have hp:=Zpn (G:=G);have c:=ZlU hG hN hP exG exN exH exP1 300 h d m ex_wl ex_wr ex_sn ex_w1;rw[hv]at c;unfold prA at hp c
 (refine Z5W rfl λR hG hrd=>Qga ?_;subst hG)
 simp -implicitDefEqProofs[Z5U,Z5V];refine Qco (hp) ?_;simp -implicitDefEqProofs;refine Qco (c) ?_;simp -implicitDefEqProofs
set_option maxRecDepth 100000 in
def Zpq (hG:GC G) (hN:GN G) (hP:GP G):PC prog G 44 [] (.bool true):=by
 have hp:=Zpn (G:=G);have hb:ck7 exG exN exH exP1=0->(∀ x∈exP1,0<=x.lt/\x.lt<=8)/\∀ x∈exP1,0<=x.lo/\x.lo<=2:=λ_=>⟨by decide,by decide⟩
 have h6:7<=80:=(by decide);have cHe:=Zl9 hG hN hP exG exN exH exP1 300 3 ex_wl ex_wr ex_sn ex_w1 (λh=>(hb h).2);have cWk:=Zl8 hG hN hP exG exN exH exP1 300 3 30 ex_wl ex_wr ex_sn ex_w1 hb;have cNe:=ZlM hG hN hP exG exN exH exP1 1 10 ex_wl ex_wr ex_sn ex_w1;have cMs:=Znj hG hN hP exG exN exH exP1 300 1 ex_wl ex_wr ex_sn ex_w1;have cM3:=Znj hG hN hP exG exN exH exP3 300 1 ex_wl ex_wr ex_sn ex_w3;have cSt:=Zmn hG hN hP exG exN exH exP1 300 ex_wl ex_wr ex_sn ex_w1;have cS2:=Zmn hG hN hP exG exN exH exP2 300 ex_wl ex_wr ex_sn ex_w2;have cCa:=Znd hG hN hP exG exN exH exP1 300 ex_wl ex_wr ex_sn ex_w1;have cPr:=Zne hG hN hP exG exN exH exP1 300 ex_wl ex_wr ex_sn ex_w1;have cCl:=Zp3 hG hN hP exG exN exH exP1 300 [1] [] ex_wl ex_wr (by decide) (by decide) ex_sn ex_w1 (by unfold Sml;decide) (by unfold Sml;decide);have cSd:=Zp7 hG hN hP exG exN exH exP1 exX ex_wl ex_wr (by decide) (by decide) ex_sn ex_w1 (by unfold POk;decide) (by decide);have a0:ab7 exG exN exH exP1 300 1 3 [30]=0:=(by decide +kernel);have a1:ab7 exG exN exH exP1 0 1 1 [10]=0:=(by decide +kernel);have a2:ab7 exG exN exH exP1 300 1 1 []=0:=(by decide +kernel);have a3:ab7 exG exN exH exP3 300 1 1 []=0:=by decide +kernel
 have e1:clE exG exN exH exP1 300 [1] []=0:=by
  have h:((([1]:List Int).all λid=>decide (0<=hoI exH id))&&([]:List Int).all λd=>decide (d∈nums exG))=true:=(by decide +kernel);rw[clE,if_pos ex_a1,if_pos h]
 rw[heA,ex_he]at cHe;rw[if_pos a0,ex_wk]at cWk;rw[neA,ex_ne,a1]at cNe;rw[msA,ex_ms,a2]at cMs;rw[msA,Zp8,a3]at cM3;rw[stA7,Zp9,ex_a1]at cSt;rw[stA7,Zpb,ex_a2]at cS2;rw[ca7A,Zpd,ex_a1]at cCa;rw[pr7A,Zpe,ex_a1]at cPr;rw[clA,e1,if_pos rfl,Zpa]at cCl;rw[snA,Zpg,if_pos rfl,ex_pl,Zpf]at cSd;have cHe:=PC.out (w:=.tup [.vsl (([5]:List Int).map ia),.vsl (([4]:List Int).map ia),.int .i64 0]) cHe (Nsub.tup ⟨.orNil _,.orNil _,.rfl',trivial⟩);have cNe:=PC.out (w:=.tup [.vsl (([1,2]:List Int).map ia),.int .i64 0]) cNe (Nsub.tup ⟨.orNil _,.rfl',trivial⟩);have cMs:=PC.out (w:=.tup [.vsl (([(10,1)]:List Rf).map ita),.int .i64 0]) cMs (Nsub.tup ⟨.orNil _,.rfl',trivial⟩);have cM3:=PC.out (w:=.tup [.vsl (([]:List Rf).map ita),.int .i64 0]) cM3 (Nsub.tup ⟨.orNil _,.rfl',trivial⟩);have cSt:=PC.out (w:=.tup [.vsl (([1,3,4]:List Int).map ia),.int .i64 0]) cSt (Nsub.tup ⟨.orNil _,.rfl',trivial⟩);have cS2:=PC.out (w:=.tup [.vsl (([3,4]:List Int).map ia),.int .i64 0]) cS2 (Nsub.tup ⟨.orNil _,.rfl',trivial⟩);have cCa:=PC.out (w:=.tup [.vsl (([]:List Int).map ia),.vsl (([30]:List Int).map ia),.int .i64 0]) cCa (Nsub.tup ⟨.orNil _,.orNil _,.rfl',trivial⟩);have cPr:=PC.out (w:=.tup [.vsl (([1]:List Int).map ia),.int .i64 0]) cPr (Nsub.tup ⟨.orNil _,.rfl',trivial⟩);have cCl:=PC.sub cCl (xs:=[prA exG exN exH exP1,.int .i64 300,.vsl (([1]:List Int).map ia),.nils]) ⟨.rfl',.rfl',.rfl',.nils,trivial⟩;have s1:=Zpo (G:=G) [5] [5] 0 (by unfold Sml;decide);have s2:=Zpo (G:=G) [4] [4] 0 (by unfold Sml;decide);have s3:=Zpo (G:=G) [0,1] [0,1] 0 (by unfold Sml;decide);have s4:=Zpo (G:=G) [1,2] [1,2] 0 (by unfold Sml;decide);have s5:=Zpo (G:=G) [1,3,4] [1,3,4] 0 (by unfold Sml;decide);have s6:=PC.sub (Zpo (G:=G) [] [] 0 (by unfold Sml;decide)) (xs:=[.vsl [],.int .i64 0,.nils]) ⟨.rfl',.rfl',.nils,trivial⟩;have s7:=Zpo (G:=G) [30] [30] 0 (by unfold Sml;decide);have s8:=Zpo (G:=G) [1] [1] 0 (by unfold Sml;decide);have s9:=Zpo (G:=G) [3,4] [3,4] 0 (by unfold Sml;decide);have sr:=ZeO (G:=G) [(10,1)] [(10,1)] (by unfold Sml;decide);have b0:ab7 exG exN exH exP1 300 418 2 [30]=0:=(by decide +kernel);have b1:ab7 exG exN exH exP1 300 9 1 [10]=0:=(by decide +kernel);have b2:ab7 exG exN exH exP1 300 6 1 [30]=0:=(by decide +kernel);have w1:=Zpp hG hN hP 2 30 418 2 (by rw[wgA,Zph,b0]);have w2:=Zpp hG hN hP 1 10 9 1 (by rw[wgA,Zpi,b1]);have w3:=Zpp hG hN hP 1 30 6 0 (by rw[wgA,Zpj,b2]);simp only[W1i,Bool.and_self,W0F,W1d,ia,ita]at cHe cWk cNe cMs cM3 cSt cS2 cCa cPr cCl s1 s2 s3 s4 s5 s6 s7 s8 s9 sr;have hX:ptA exX=[.int .i64 8,.int .i64 300,.int .i64 1,.int .i64 10,.int .i64 1,.int .i64 (-1),.int .u8 0]:=rfl;rw[hX]at cSd;unfold prA at hp cHe cWk cNe cMs cM3 cSt cS2 cCa cPr cCl cSd
 (refine Z5Z rfl λR hG hrd=>Qga ?_;subst hG)
 simp -implicitDefEqProofs[Z5X,Z5Y]
 repeat
  first
   |refine Qco (Zpk _ _) ?_
   |refine Qco (Zpl _ _ _ _ _) ?_
   |refine Qco (hp) ?_
   |refine Qco (cHe) ?_
   |refine Qco (cWk) ?_
   |refine Qco (cNe) ?_
   |refine Qco (cMs) ?_
   |refine Qco (cSt) ?_
   |refine Qco (cCa) ?_
   |refine Qco (cPr) ?_
   |refine Qco (cCl) ?_
   |refine Qco (cS2) ?_
   |refine Qco (cSd) ?_
   |refine Qco (cM3) ?_
   |refine Qco (s1) ?_
   |refine Qco (s2) ?_
   |refine Qco (s3) ?_
   |refine Qco (s4) ?_
   |refine Qco (s5) ?_
   |refine Qco (s6) ?_
   |refine Qco (s7) ?_
   |refine Qco (s8) ?_
   |refine Qco (s9) ?_
   |refine Qco (sr) ?_
   |refine Qco (w1) ?_
   |refine Qco (w2) ?_
   |refine Qco (w3) ?_
  simp -implicitDefEqProofs
end
def dy7 (n:Int):Int:=n.tmod 14611
def Zpr {n:Int} (h:0<=n):0<=dy7 n/\dy7 n<=14610:=by
 have h1:=Int.tmod_nonneg 14611 h;have h2:=Int.tmod_lt_of_pos n (b:=14611) (by omega);unfold dy7;omega
section
variable {G:Jg}
def Zps (n:Int) (h0:0<=n) (h1:n<=65535):PC prog G 50 [.int .u16 n] (.int .i64 (dy7 n)):=by
 have w1:i64.wrap n=n:=Yf
 (refine Z5B rfl λR hG hrd=>Qga ?_;subst hG)
 simp -implicitDefEqProofs[Z5z,Z5A,w1,dy7]
def Zpt (r:Jr) (l:Jl) (hs:Jh) (ps:Jp) (hl:∀ x∈l,NOk7 x) (hr:∀ x∈r,KOk x) (hp:∀ x∈ps,POk x) :
  PC prog G 49 [prA r l hs ps] (.bool (!gr7 r l hs ps&&decide (ck7 r l hs ps=0))):=by
 have cg:=Zlt (G:=G) r l hs ps
 cases hg:gr7 r l hs ps with
 | true =>
   rw[hg]at cg;unfold prA at *
   (refine Z5y rfl λR hG hrd=>Qga ?_;subst hG)
   simp -implicitDefEqProofs[Z5w,Z5x];refine Qco (cg) ?_;simp -implicitDefEqProofs
 | false =>
   obtain ⟨wl,wr,wd,wp⟩:=Zlx hg hr hl hp;have cc:=Zl1 (G:=G) r l hs ps wl wr wd wp;rw[hg]at cg;unfold prA at *
   (refine Z5y rfl λR hG hrd=>Qga ?_;subst hG)
   simp -implicitDefEqProofs[Z5w,Z5x];refine Qco (cg) ?_;simp -implicitDefEqProofs;refine Qco (cc) ?_;simp -implicitDefEqProofs
def Zpu (l:List Int) (n:Int) (hl:Sml l):PC prog G 52 [.vsl (l.map ia),.int .i64 n] (.bool (decide (n∈l))):=by
 unfold Sml at hl
 (refine Z5E rfl λR hG hrd=>Qga ?_;subst hG)
 simp -implicitDefEqProofs[Z5C,Z5D];refine Z8s (λi=>⟨[(9,.int .i64 i),(8,.int .i64 l.length),(7,.vsl (l.map ia)),(1,.int .i64 n)],[]⟩) (λi=>∀ j (h:j<l.length),j<i->l[j]≠n) l.length (by (first|exact Wka|exact Wkb)) (by simp) ?_ ?_
 . intro i hi he;have w1:i64.wrap ((i:Int)+1)=((i+1:Nat):Int):=Yf;refine Qga ?_;by_cases h:l[i]=n
   . have hm:n∈l:=h ▸ W0e hi;simp -implicitDefEqProofs[hi,ia,h];refine Qgr ?_;simp -implicitDefEqProofs[hm]
   . simp -implicitDefEqProofs[hi,ia,h,w1];refine ⟨(by (first|exact Wka|exact Wkb)),λj q1 q2=>?_⟩;by_cases e:j=i
     . subst e;exact h
     . exact he j q1 (by omega)
 . intro he
   have hm:n ∉ l:=λh=>by
    obtain ⟨j,hj,e⟩:=W0k h;exact he j hj hj e
   refine Qga ?_;simp -implicitDefEqProofs;refine Qgr ?_;simp -implicitDefEqProofs[hm]
end
def Zpv {α:Type} {p p':α->Bool} {h:α->α->Bool}:∀ {l:List α},(∀ x∈l,p x=p' x)->gcL p h l=gcL p' h l
 |[],_=>rfl
 | x::l,hp=>by
   have ih:=Zpv (h:=h) (l:=l) λy hy=>hp y (W0z _ hy)
   simp only[gcL,ih,hp x (W0H ..)]
def Zpw {α β:Type} {f:α->β} {p:β->Bool} {h:β->β->Bool}:∀ l:List α,gcL p h (l.map f)=gcL (λx=>p (f x)) (λx y=>h (f x) (f y)) l
 |[]=>rfl
 | x::l=>by
   have ih:=Zpw (f:=f) (p:=p) (h:=h) l;simp only[W0F,gcL,ih]
   congr 3
   rw[List.zip_map_left,List.any_map];rfl
section
variable {r:Jr} {l:Jl} {n g:Int}
def Zpx {s s':List Int} {m:Int} (hb:∀ x∈l,bsF s' [] m (stN n g x)=bsF s [] m x) (d:Int):∀ i,i<=l.length->(byV s' m (l.map (stN n g)) d i).lt=(byV s m l d i).lt
 |0,_=>rfl
 | i+1,hi=>by
   have hB:fB s' [] m (l.map (stN n g)) i=fB s [] m l i:=by
    unfold fB gcB;rw[Zpw];simp only[st_ca,st_nu];rw[Zpv hb]
   have ih:=Zpx hb d i (by omega);rw[byV,byV,hB,Zok (by omega),st_dr]
   split
   . exact st_lt
   . exact ih
def Zpy (hB:Zbq r l=true) (hn:n∈opU l) (hg:g=0∨g=2) {v':Nat}:∃ v,v<2 ^ (opQ l).length/\∀ d m,ltV (l.map (stN n g)) d m v'=ltV l d m v:=by
 have hg1:g≠1:=(by omega);obtain ⟨v,hv,he⟩:=Zos (opQ l) λk=>decide (k∈sbT (opQ (l.map (stN n g))) v')||(decide (k=n)&&decide (g=2))
 refine ⟨v,hv,λd m=>?_⟩;have hmem:∀ k,k∈sbT (opQ (l.map (stN n g))) v'->k∈opU l/\k≠n:=λk hk=>(Zop hg1).1 (ZbB.1 ((ZfI _ v').subset hk))
 unfold ltV;rw[W0N];refine Zpx (λx hx=>?_) d l.length (W0f _);have hQ:x.nu∈opQ l↔x.nu∈opU l:=ZbB
 have key:((stN n g x).sg=2∨x.nu∈sbT (opQ (l.map (stN n g))) v')↔(x.sg=2∨x.nu∈sbT (opQ l) v):=by
  rw[he,hQ,W0T,W0b,W01,W0b,W0b,st_sg];by_cases c:x.nu=n
  . rw [if_pos c]
    have hx1:x.sg=1:=by
     obtain ⟨y,hy,h2,h3⟩:=Zom.1 hn;have hnd:=Zfa hB;obtain ⟨i,hi,ei⟩:=W0k hx;obtain ⟨j,hj,ej⟩:=W0k hy
     have:i=j:=by
      have h1:(l.map (·.nu))[i]'(by simpa using hi)=(l.map (·.nu))[j]'(by simpa using hj):=by
       simp only[W1w,ei,ej];omega
      exact (List.getElem_inj hnd).1 h1
     subst this;rw[<- ei,ej];exact h2
    constructor
    . rintro (h|h)
      . exact .inr ⟨by rw[c];exact hn,.inr ⟨c,h⟩⟩
      . exact absurd c (hmem _ h).2
    . rintro (h | ⟨-,h|h⟩)
      . omega
      . exact absurd c (hmem _ h).2
      . exact .inl h.2
  . rw[if_neg c]
    constructor
    . rintro (h|h)
      . exact .inl h
      . exact .inr ⟨(hmem _ h).1,.inl h⟩
    . rintro (h | ⟨-,h|h⟩)
      . exact .inl h
      . exact .inr h
      . exact absurd h.1 c
 have k2:(decide ((stN n g x).sg=2)||decide (x.nu∈sbT (opQ (l.map (stN n g))) v'))=(decide (x.sg=2)||decide (x.nu∈sbT (opQ l) v)):=by
  rw[W2h];simpa using key
 unfold bsF;rw[st_nu,k2,st_fr,st_tu]
def Zpz (hB:Zbq r l=true) (hn:n∈opU l) (hg:g=0∨g=2) {d m x:Int} (h:x∈posL (l.map (stN n g)) d m):x∈posL l d m:=by
 obtain ⟨h1,v',-,h2⟩:=ZfP.1 h;obtain ⟨v,hv,e⟩:=Zpy hB hn hg (v':=v');exact ZfP.2 ⟨h1,v,hv,(e d m).symm.trans h2⟩
def ZpA {h:Hld}:mks (l.map (stN n g)) h=mks l h:=by
 unfold mks;rw[List.flatMap_map];have e:(λa=>mk1 h (stN n g a))=mk1 h:=funext λa=>by simp only[mk1,st_fr,st_tu]
 rw[e]
def ZpB (hB:Zbq r l=true) (hn:n∈opU l) (hg:g=0∨g=2) {h:Hld} {d x:Int} (hx:x∈ndsL (l.map (stN n g)) h d):x∈ndsL l h d:=by
 obtain ⟨h1,m,h2,h3⟩:=ZfQ.1 hx;rw[ZpA]at h2;exact ZfQ.2 ⟨h1,m,h2,Zpz hB hn hg h3⟩
end
def ZpC {r:Jr} {l:Jl} {n g day:Int} {hs:Jh} (hB:Zbq r l=true) (hn:n∈opU l) (hg:g=0∨g=2) {x:Prt} (h:stB l hs day x=true):stB (l.map (stN n g)) hs day x=true:=by
 unfold stB at h ⊢;rw[W01]at h ⊢;refine ⟨h.1,?_⟩
 cases q:hoF hs x.ho with
 |none=>rw[q]at h;cases h.2
 | some y =>
   rw[q]at h;have h2:=h.2;simp only[W01,W1C,List.contains_eq_mem,W0b,W1b]at h2 ⊢;exact ⟨h2.1,λc=>h2.2 (ZpB hB hn hg c)⟩
def seS (N N2:List Int) (B X:List AV) (i:Nat):St :=
 ⟨[(99,.int .i64 i),(98,.int .i64 N.length),(97,.vsl (N.map ia)),(17,.vsl (N2.map ia)),(14,.ptr 14 0),(9,.bool true),(4,.ptr 4 0)],[(14,.box X),(4,.box B)]⟩
def seH (hs:Jh) (B X:List AV) (i:Nat):St :=
 ⟨[(111,.int .i64 i),(110,.int .i64 hs.length),(109,.vsl (hs.map hoa)),(14,.ptr 14 0),(9,.bool true),(4,.ptr 4 0)],[(14,.box X),(4,.box B)]⟩
def seD (hs:Jh) (B X:List AV) (i:Nat) (D:List Int) (H:List AV) (k:Nat):St :=
 ⟨[(118,.int .i64 k),(117,.int .i64 D.length),(116,.vsl (D.map ia)),(22,.ptr 22 0),(111,.int .i64 i),(110,.int .i64 hs.length),(109,.vsl (hs.map hoa)),(14,.ptr 14 0),(9,.bool true),(4,.ptr 4 0)],[(22,.box H),(14,.box X),(4,.box B)]⟩
def seM (hs:Jh) (B X:List AV) (i:Nat) (D:List Int) (H:List AV) (k:Nat) (L M:List Int) (j:Nat):St :=
 ⟨[(151,.int .i64 j),(150,.int .i64 M.length),(149,.vsl (M.map ia)),(25,.vsl (L.map ia)),(118,.int .i64 k),(117,.int .i64 D.length),(116,.vsl (D.map ia)),(22,.ptr 22 0),(111,.int .i64 i),(110,.int .i64 hs.length),(109,.vsl (hs.map hoa)),(14,.ptr 14 0),(9,.bool true),(4,.ptr 4 0)],[(22,.box H),(14,.box X),(4,.box B)]⟩
section
variable {r:Jr} {l:Jl} {hs:Jh} {ps:Jp} {n g:Int}
def ZpD (hg:g=0∨g=2) (h:ck7 r l hs ps=0):ck7 r (l.map (stN n g)) hs ps=0:=by
 obtain ⟨h1,h2⟩:=ZjB.1 h;refine ZjB.2 ⟨?_,h2⟩;unfold chN;rw[if_pos (ZjC h1),if_pos (Zoo (by omega) (by omega) (Zfl h1))]
def ZpE:gr7 r (l.map (stN n g)) hs ps=gr7 r l hs ps:=by unfold gr7;rw[W0N]
def ZpF (hg:g=0∨g=2) (h:∀ x∈l,NOk7 x):∀ x∈l.map (stN n g),NOk7 x:=λx hx=>by
 obtain ⟨y,hy,rfl⟩:=W0i.1 hx;have:=h y hy;unfold NOk7 at *;rw[st_sg,st_wy];refine ⟨?_,?_,this.2.2⟩ <;> split <;> omega
def ZpG (hl:(hs.map (·.id)).Pairwise (· < ·)) {h:Hld} (hh:h∈hs) (d:Int):ndI l hs h.id d=ndsL l h d:=by
 unfold ndI;rw[ZiK hl hh]
def ZpH (l:Jl) (h:Hld) (d:Int):(ndsL l h d).length<=8:=by
 unfold ndsL
 split
 . exact W0D ..
 . simp
end
section
variable {G:Jg}
def ZpI (hG:GC G) (hN:GN G) (hP:GP G) (r:Jr) (l:Jl) (hs:Jh) (ps:Jp) (dd wh:Int) (way:Bool) (hr:∀ x∈r,KOk x) (hl:∀ x∈l,NOk7 x) (hp:∀ x∈ps,POk x) (hdd:0<=dd/\dd<=65535) (hwh:0<=wh/\wh<=255) :
  PC prog G 16 [prA r l hs ps,.int .u16 dd,.int .u8 wh,.bool way] (.bool true):=by
 have hA:=Zpq hG hN hP;have hR:=Zpt (G:=G) r l hs ps hl hr hp;have hD:=Zps (G:=G) dd hdd.1 hdd.2
 cases hb:!gr7 r l hs ps&&decide (ck7 r l hs ps=0) with
 | false =>
   rw[hb]at hR;unfold prA at *
   (refine Z5v rfl λR hG hrd=>Qga ?_;subst hG)
   simp -implicitDefEqProofs[Z5t,Z5u];refine Qco (hA) ?_;simp -implicitDefEqProofs;refine Qco (hR) ?_;simp -implicitDefEqProofs
 |true =>
 rw[hb]at hR;rw[W01,W1C,W0b]at hb;obtain ⟨hg,h0⟩:=hb;obtain ⟨wl,wr,wd,wp⟩:=Zlx hg hr hl hp;have hc0:=(ZjB.1 h0).1;have hB0:=Zfl hc0;have hl12:=Zfn hB0;have cO:=Zfk (G:=G) r l hl12;have hdy:=Zpr hdd.1;obtain ⟨day,hday⟩:=Qex (dy7 dd);rw[<- hday]at hD hdy;have hol:=Zct l l.length;by_cases hop:opI l l.length=[]
 . have e0:Yg ((opI l l.length).map ja) = .nils:=(by rw[hop];rfl);rw[e0]at cO;unfold prA at *
   (refine Z5v rfl λR hG hrd=>Qga ?_;subst hG)
   simp -implicitDefEqProofs[Z5t,Z5u];refine Qco (hA) ?_;simp -implicitDefEqProofs;refine Qco (hR) ?_;simp -implicitDefEqProofs;refine Qco (cO) ?_;simp -implicitDefEqProofs
 have e0:Yg ((opI l l.length).map ja) = .vsl ((opI l l.length).map ja):=(by rw[Yg,if_neg (by simpa using hop)]);rw[e0]at cO;have hlp:0<(opI l l.length).length:=List.length_pos_iff.2 hop;obtain ⟨O,hO⟩:=Qex (opI l l.length);have hOlt:=Zcv l l.length;have hOn:=@Zcx l;rw[<- hO]at cO hlp hOlt hOn hol hop;have q1:=Int.tmod_nonneg O.length hwh.1;have q2:=Int.tmod_lt_of_pos wh (b:=O.length) (by omega);have hi:(wh.tmod O.length).toNat<O.length:=(by omega);have k0:¬(O.length:Int)=0:=(by omega);have k0':¬O.length=0:=(by omega);have w1:i64.wrap wh=wh:=Yf;obtain ⟨j0,hj0⟩:=Qex (O[(wh.tmod O.length).toNat]);have hjx:O[(wh.tmod O.length).toNat]=j0:=hj0.symm;have hjm:j0∈O:=(by rw[hj0];exact W0e hi);have hjl:=(hOlt j0 hjm).1;obtain ⟨y0,hy0⟩:=Qex (l[j0]);have hyx:l[j0]=y0:=hy0.symm;have hnU:y0.nu∈opU l:=hOn.1 (W0i.2 ⟨j0,hjm,by rw[Zbn hjl,hyx]⟩);obtain ⟨g,hgg⟩:=Qex (if way=true then (2:Int) else 0);have hg02:g=0∨g=2:=(by rw[hgg];cases way <;> simp);have cS:=ZoE hG hN r l y0.nu way wl wr (ZkU (ZjC hc0)) (by have:=(Znb h0).n60;omega) hc0 hnU;rw[<- hgg]at cS;obtain ⟨l2,hl2⟩:=Qex (l.map (stN y0.nu g));have h02:ck7 r l2 hs ps=0:=(by rw[hl2];exact ZpD hg02 h0);have hg2:gr7 r l2 hs ps=false:=(by rw[hl2,ZpE];exact hg);have hlk2:∀ x∈l2,NOk7 x:=(by rw[hl2];exact ZpF hg02 hl);obtain ⟨wl2,-,-,-⟩:=Zlx hg2 hr hlk2 hp;have hB2:=Zfl (ZjB.1 h02).1;have hR2:=Zpt (G:=G) r l2 hs ps hlk2 hr hp;rw[hg2,h02]at hR2;have hst:∀ x,stB l hs day x=true->stB l2 hs day x=true:=λx h=>by rw[hl2];exact ZpC hB0 hnU hg02 h
 have hnd:∀ h d x,x∈ndsL l2 h d->x∈ndsL l h d:=λh d x hx=>by rw[hl2]at hx;exact ZpB hB0 hnU hg02 hx
 rw[<- hl2]at cS;have cT:=Zlu (G:=G) r l hs ps wr.1 wl.1 wp;have hrng:inR day 0 14610=true:=(by simp[inR];omega);have a1:as7 r l hs ps day 1=0:=(by rw[as7,if_pos h0,if_pos ⟨hrng,rfl⟩]);have a2:as7 r l2 hs ps day 1=0:=(by rw[as7,if_pos h02,if_pos ⟨hrng,rfl⟩]);have c1:=Zmn hG hN hP r l hs ps day wl wr wd wp;have c2:=Zmn hG hN hP r l2 hs ps day wl2 wr wd wp;rw[stA7,sta7E,if_pos a1,a1]at c1;rw[stA7,sta7E,if_pos a2,a2]at c2;obtain ⟨N,hNN⟩:=Qex ((staL l hs ps day).map (·.no));obtain ⟨N2,hNN2⟩:=Qex ((staL l2 hs ps day).map (·.no));rw[<- hNN]at c1;rw[<- hNN2]at c2;have c1:=PC.out (w:=.tup [.vsl (N.map ia),.int .i64 0]) c1 (Nsub.tup ⟨.orNil _,.rfl',trivial⟩);have c2:=PC.out (w:=.tup [.vsl (N2.map ia),.int .i64 0]) c2 (Nsub.tup ⟨.orNil _,.rfl',trivial⟩);have hpl:=wp.pl;have hNs:Sml N:=(by rw[hNN];have:=Zmm (l:=l) (hs:=hs) (ps:=ps) (day:=day);unfold Sml;rw[W0N];omega);have hNs2:Sml N2:=(by rw[hNN2];have:=Zmm (l:=l2) (hs:=hs) (ps:=ps) (day:=day);unfold Sml;rw[W0N];omega);have hNl:N.length<=41:=by rw[hNN];have:=Zmm (l:=l) (hs:=hs) (ps:=ps) (day:=day);rw[W0N];omega
 have hNN3:∀ x∈N,x∈N2:=λx hx=>by
  rw[hNN]at hx;obtain ⟨y,hy,rfl⟩:=W0i.1 hx;rw[hNN2];obtain ⟨y1,y2⟩:=W0G.1 hy;exact W0i.2 ⟨y,W0G.2 ⟨y1,hst y y2⟩,rfl⟩
 have hOH:=ZiH (ZiI.1 (ZjB.1 h0).2).1.1 (ZiI.1 (ZjB.1 h0).2).1.2;have hna:na y0=[.int .i64 y0.nu,.int .i64 y0.dy,.int .u8 y0.sg,.int .i64 y0.dr,.int .i64 y0.lt,.int .i64 y0.fr,.int .i64 y0.tu,.int .i64 y0.ca,.bool y0.up,.int .u8 y0.wy]:=rfl;obtain ⟨B,hB⟩ : ∃ B:List AV,B=[.vsl (r.map isa),.vsl (l.map na),.vsl (hs.map hoa),.vsl (ps.map ptA)]:=⟨_,rfl⟩;obtain ⟨X,hX⟩ : ∃ X:List AV,X=[.vsl (r.map isa),.vsl (l2.map na),.vsl (hs.map hoa),.vsl (ps.map ptA)]:=⟨_,rfl⟩;have kB:∀ o,Yc o (.box B)=true:=λo=>by rw[hB];simp[Yc,Ya,AV.keys,isa,na,hoa,ptA]
 have kX:∀ o,Yc o (.box X)=true:=λo=>by rw[hX];simp[Yc,Ya,AV.keys,isa,na,hoa,ptA]
 have lB:B.length=4:=(by rw[hB];rfl);have tB:B.take 4=B:=(by rw[hB];rfl);have pB:∀ x∈B,x.pure=true:=(by rw[hB];simp[AV.pure,isa,na,hoa,ptA,ia]);have lX:X.length=4:=(by rw[hX];rfl);have tX:X.take 4=X:=(by rw[hX];rfl);have pX:∀ x∈X,x.pure=true:=(by rw[hX];simp[AV.pure,isa,na,hoa,ptA,ia]);have B2:B[2]? = some (.vsl (hs.map hoa)):=(by rw[hB];rfl);have NB:=λid d=>ZlM hG hN hP r l hs ps id d wl wr wd wp
 have NX:=λid d=>ZlM hG hN hP r l2 hs ps id d wl2 wr wd wp
 unfold prA at *;rw[<- hB]at NB;rw[<- hX]at NX
 (refine Z5v rfl λR hG hrd=>Qga ?_;subst hG)
 simp -implicitDefEqProofs[Z5t,Z5u];refine Qco (hA) ?_;simp -implicitDefEqProofs;refine Qco (hR) ?_;simp -implicitDefEqProofs;refine Qco (cO) ?_;simp -implicitDefEqProofs[k0,k0'];refine Qco (hD) ?_;simp -implicitDefEqProofs[k0,k0',w1,q1,hi,hjx,ja,hjl,hyx,hna];refine Qco (cS) ?_;simp -implicitDefEqProofs;refine ⟨rfl,?_⟩;refine Qco (cT) ?_;simp -implicitDefEqProofs;refine Qco (hR2) ?_;simp -implicitDefEqProofs;refine Qco (c1) ?_;simp -implicitDefEqProofs;refine Qco (c2) ?_;simp -implicitDefEqProofs;rw[<- hB,<- hX];refine Z8s (seS N N2 B X) (λ_=>True) N.length ?_ trivial ?_ ?_
 . unfold seS
   (refine Wkc ?_;simp only[kB,kX,Wkl,and_true];(try simp[lk,Yc,Ya,AV.keys]))
 . intro i hi _;have wi:i64.wrap ((i:Int)+1)=(i:Int)+1:=Yf;obtain ⟨y,hy⟩:=Qex (N[i]);have hly:N[i]=y:=hy.symm;have ch:=Zpu (G:=R.G) N2 y hNs2;rw[W0M (hNN3 y (by rw[hy];exact W0e hi))]at ch;refine Qga ?_;unfold seS;simp -implicitDefEqProofs[hi,hly,ia];refine Qco (ch) ?_;simp -implicitDefEqProofs[wi]
   (refine Wkc ?_;simp only[kB,kX,Wkl,and_true];(try simp[lk,Yc,Ya,AV.keys]))
 . intro _;refine Qga ?_;unfold seS;simp -implicitDefEqProofs;refine Qgr ?_;simp -implicitDefEqProofs[B2];refine Z8s (seH hs B X) (λ_=>True) hs.length ?_ trivial ?_ ?_
   . unfold seH
     (refine Wkc ?_;simp only[kB,kX,Wkl,and_true];(try simp[lk,Yc,Ya,AV.keys]))
   . intro i hi _;have wi:i64.wrap ((i:Int)+1)=(i:Int)+1:=Yf (by omega) (by have:=wp.hl;omega);obtain ⟨h,hh⟩:=Qex (hs[i]);have hlx:hs[i]=h:=hh.symm;have hhm:h∈hs:=(by rw[hh];exact W0e hi);have hho:hoa h=[.int .i64 h.id,.int .i64 h.fr,.int .i64 h.to,.vsl (h.ds.map ia)]:=rfl;obtain ⟨d8,dmem,-⟩:=hOH.ds h hhm;have hoi:0<=hoI hs h.id:=W0X (by rw[hoF_I];unfold hoF;rw[List.find?_isSome];exact ⟨h,hhm,by simp⟩);obtain ⟨H,hH⟩ : ∃ H:List AV,H=[.int .i64 h.id,.int .i64 h.fr,.int .i64 h.to,.vsl (h.ds.map ia)]:=⟨_,rfl⟩;have kH:∀ o,Yc o (.box H)=true:=λo=>by rw[hH];simp[Yc,Ya,AV.keys,ia]
     have H0:H[0]? = some (.int .i64 h.id):=(by rw[hH];rfl);refine Qga ?_;unfold seH;simp -implicitDefEqProofs[hi,hlx,hho];rw[<- hH];refine Z8s (seD hs B X i h.ds H) (λ_=>True) h.ds.length ?_ trivial ?_ ?_
     . unfold seD
       (refine Wkc ?_;simp only[kB,kX,kH,Wkl,and_true];(try simp[lk,Yc,Ya,AV.keys]))
     . intro k hk _;have wk:i64.wrap ((k:Int)+1)=(k:Int)+1:=Yf;obtain ⟨d,hd⟩:=Qex (h.ds[k]);have hdx:h.ds[k]=d:=hd.symm;have hdm:d∈h.ds:=(by rw[hd];exact W0e hk);have hdn:=dmem d hdm;have e1:as7 r l hs ps 0 1=0:=(by rw[as7,if_pos h0,if_pos ⟨rfl,rfl⟩]);have e2:as7 r l2 hs ps 0 1=0:=(by rw[as7,if_pos h02,if_pos ⟨rfl,rfl⟩]);have b1:ab7 r l hs ps 0 1 h.id [d]=0:=(by rw[ab7,if_pos e1,if_pos ⟨hoi,by simp[hdn]⟩]);have b2:ab7 r l2 hs ps 0 1 h.id [d]=0:=(by rw[ab7,if_pos e2,if_pos ⟨hoi,by simp[hdn]⟩]);have cB:=NB h.id d;have cX:=NX h.id d;rw[neA,neE,if_pos b1,b1,ZpG hOH.lt hhm]at cB;rw[neA,neE,if_pos b2,b2,ZpG hOH.lt hhm]at cX;have hne:=ZiC (ZjC hc0) hB2 hdn hdm;have hsub:=hnd h d;have l1:=ZpH l h d;have l2':=ZpH l2 h d;obtain ⟨L,hL⟩:=Qex (ndsL l h d);obtain ⟨M,hM⟩:=Qex (ndsL l2 h d);rw[<- hL]at cB l1;rw[<- hM]at cX l2' hne;rw[<- hL,<- hM]at hsub;have cB:=PC.out (w:=.tup [.vsl (L.map ia),.int .i64 0]) cB (Nsub.tup ⟨.orNil _,.rfl',trivial⟩);have cX:=PC.out (w:=.tup [.vsl (M.map ia),.int .i64 0]) cX (Nsub.tup ⟨.orNil _,.rfl',trivial⟩);have hM0:¬M.length=0:=λe=>hne (W0l.1 e)
       have hM0':¬(M.length:Int)=0:=(by omega);refine Qga ?_;unfold seD;simp -implicitDefEqProofs[hk,hdx,ia,lB,tB,H0];refine Yd.of cB (by simpa [AV.pure] using pB) ?_;simp -implicitDefEqProofs[lX,tX,H0];refine Yd.of cX (by simpa [AV.pure] using pX) ?_;simp -implicitDefEqProofs[hM0,hM0'];refine Z8s (seM hs B X i h.ds H k L M) (λ_=>True) M.length ?_ trivial ?_ ?_
       . unfold seM
         (refine Wkc ?_;simp only[kB,kX,kH,Wkl,and_true];(try simp[lk,Yc,Ya,AV.keys]))
       . intro j hj _;have wj:i64.wrap ((j:Int)+1)=(j:Int)+1:=Yf;obtain ⟨y,hy⟩:=Qex (M[j]);have hly:M[j]=y:=hy.symm;have ch:=Zpu (G:=R.G) L y (by unfold Sml;omega);rw[W0M (hsub y (by rw[hy];exact W0e hj))]at ch;refine Qga ?_;unfold seM;simp -implicitDefEqProofs[hj,hly,ia];refine Qco (ch) ?_;simp -implicitDefEqProofs[wj]
         (refine Wkc ?_;simp only[kB,kX,kH,Wkl,and_true];(try simp[lk,Yc,Ya,AV.keys]))
       . intro _;refine Qga ?_;unfold seM;simp -implicitDefEqProofs;refine Qgr ?_;simp -implicitDefEqProofs[wk]
         (refine Wkc ?_;simp only[kB,kX,kH,Wkl,and_true];(try simp[lk,Yc,Ya,AV.keys]))
     . intro _;refine Qga ?_;unfold seD;simp -implicitDefEqProofs;refine Qgr ?_;simp -implicitDefEqProofs[wi]
       (refine Wkc ?_;simp only[kB,kX,kH,Wkl,and_true];(try simp[lk,Yc,Ya,AV.keys]))
   . intro _;refine Qga ?_;unfold seH;simp -implicitDefEqProofs;refine Qgr ?_;simp -implicitDefEqProofs
end
def ZpJ {xs:List AV} (h:TVs [.int .i64] xs):∃ n:Int,xs=ia n:=by
 obtain ⟨x0,_,rfl,h0,h⟩:=h.cons_inv;obtain rfl:=h.nil_inv;obtain ⟨n,rfl,-⟩:=h0.int_inv;exact ⟨n,rfl⟩
end Go.Proofs.YtcdlimgkliklhaaGreatDoor
