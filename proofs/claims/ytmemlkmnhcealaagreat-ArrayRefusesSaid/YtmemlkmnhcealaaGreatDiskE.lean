
/- A disk: what waits is settled. -/
import Derived.Test.YtmemlkmnhcealaaGreatMrg2
set_option linter.unusedVariables false
set_option maxRecDepth 100000
set_option maxHeartbeats 8000000
namespace Go.Proofs.YtmemlkmnhcealaaGreat
open Value renaming int→O,slice→Zt
open IntKind renaming i64→Z
open Go.Proofs.Tryz renaming prog→Zw
open Go.RowKit
open Lib(hid)
variable {d:Dsk} {f:Int->Option Int} {l:List Sec} {a gl gm i p:Nat} {keep:Nat->Bool} {x:Nat×Sec} {s:Sec} {cv:Value} {W W' w:World}
def settleTo(last:List Sec)(c:List (Nat×Sec))(keep:Nat->Bool):Nat->List Sec
 |0=>last
 |i+1=>match c[i]? with
  |some x=>if keep i then (settleTo last c keep i).set x.1 x.2 else settleTo last c keep i
  |none=>settleTo last c keep i
theorem Zak(last:List Sec)(c:List (Nat×Sec))(keep:Nat->Bool):∀i,(settleTo last c keep i).length=last.length
 |0=>rfl
 |i+1=>by
  unfold settleTo;split
  ·split
   ·rw[List.length_set];exact Zak last c keep i
   ·exact Zak last c keep i
  ·exact Zak last c keep i
theorem Zav{last:List Sec}{c:List (Nat×Sec)}(h1:∀s∈last,s.length=128)(h2:∀x∈c,x.2.length=128)(keep:Nat->Bool):∀i,∀s∈settleTo last c keep i,s.length=128
 |0=>h1
 |i+1=>by
  intro s hs;unfold settleTo at hs;split at hs
  ·rename_i x hx
   split at hs
   ·rcases List.mem_or_eq_of_mem_set hs with hs|hs
    ·exact Zav h1 h2 keep i s hs
    ·rw[hs];exact h2 x (List.mem_of_getElem? hx)
   ·exact Zav h1 h2 keep i s hs
  ·exact Zav h1 h2 keep i s hs
theorem Zlb(h:∀s∈l,s.length=128)(ha:a<l.length)(hs:s.length=128)(j:Nat):
  (secCells (l.set a s))[j]?=if a*128≤j/\j<a*128+128 then (ucells s)[j-a*128]? else (secCells l)[j]?:=by
 have h':∀x∈l.set a s,x.length=128:=fun x hx=>by
  rcases List.mem_or_eq_of_mem_set hx with hx|hx
  ·exact h x hx
  ·rw[hx];exact hs
 by_cases hj:j<l.length*128
 ·have hq:j/128<l.length:=by omega
  have e:j=(j/128)*128+j%128:=by omega
  have hm:j%128<128:=Nat.mod_lt _ (by omega);have e1:=Zcp h' (j/128) (j%128) (by rw[List.length_set];exact hq) hm;have e2:=Zcp h (j/128) (j%128) hq hm;rw[<-e]at e1 e2;rw[e1,e2,List.getElem_set];by_cases hq2:a=j/128
  ·rw[Zf hq2,Zf (by omega),show j-a*128=j%128 by omega]
  ·rw[Ze hq2,Ze (by omega)]
 ·rw[Ze (by omega),List.getElem?_eq_none (by rw[Zau h',List.length_set];omega),List.getElem?_eq_none (by rw[Zau h];omega)]
theorem Zd6{g:Nat}{t:TypeId}(h:At w g (secCells l).toArray t)(hl:∀s∈l,s.length=128)(ha:a<l.length)(hs:s.length=128):
  At (w.setCells g (a*128) (ucells s)) g (secCells (l.set a s)).toArray t/\Chg (fun k=>k=g) w (w.setCells g (a*128) (ucells s)):=by
 have key:∀(vs:List Value) (o:Nat) (W:World) (cs:Array Value),At W g cs t->o+vs.length≤cs.size->∃cs',At (W.setCells g o vs) g cs' t/\cs'.size=cs.size/\(∀j,cs'[j]?=if o≤j/\j<o+vs.length then vs[j-o]? else cs[j]?)/\Chg (fun k=>k=g) W (W.setCells g o vs):=by
  intro vs;induction vs with
  |nil=>intro o W cs hW _;exact⟨cs,hW,rfl,fun j=>by rw[Ze (by simp only [List.length_nil];omega)],Zl _ _⟩
  |cons v vs ih=>
   intro o W cs hW ho;simp only [List.length_cons]at ho;obtain⟨cs',k1,k2,k3,k4⟩:=ih (o+1) (W.setCell ⟨g,o,none⟩ v) _ (hW.set o v) (by simp only [Array.size_setIfInBounds];omega);refine⟨cs',k1,by rw[k2];simp,fun j=> ?_,(Zk (S:=fun k=>k=g) (Zl _ _) ⟨g,o,none⟩ (.inl rfl) v).trans k4⟩;rw[k3 j,Array.getElem?_setIfInBounds,List.length_cons];by_cases h1:o+1≤j/\j<o+1+vs.length
   ·rw[Zf h1,Zf (by omega),show j-o=(j-(o+1))+1 by omega,List.getElem?_cons_succ]
   ·rw[Ze h1]
    by_cases h2:o=j
    ·subst h2;rw[Zf rfl,Zf (by omega),Zf (by omega),Nat.sub_self,List.getElem?_cons_zero]
    ·rw[Ze h2,Ze (by omega)]
 have hul:(ucells s).length=128:=by rw[Zag,hs]
 obtain⟨cs',k1,_,k3,k4⟩:=key (ucells s) (a*128) w _ h (by rw[hul,List.size_toArray,Zau hl];omega);refine⟨?_,k4⟩;have e:cs'=(secCells (l.set a s)).toArray:=by
  apply Array.ext_getElem?;intro j;rw[k3 j,List.getElem?_toArray,List.getElem?_toArray,Zlb hl ha hs j,hul]
 rw[<-e];exact k1
structure Settled (w W:World) (p gl gm:Nat) (cv:Value) (f:Int->Option Int) (d:Dsk) (keep:Nat->Bool) (i:Nat):Prop where
 h1:At W p #[Zt (some ⟨gl,0,none⟩) d.last.length d.last.length,cv,.map (some gm),.bool d.failed] 132
 h2:At W gl (secCells (settleTo d.last d.cache keep i)).toArray 186
 h3:W.ownsRow 0 188 129 cv d.cache.length (wcells d.cache)
 h4:W.imap Zw 3 3 gm d.cache.length f
 ch:Chg (fun k=>k=gl) w W
theorem Zb0:(Tryz.prog.info? 188).map (·.size)=some 129:=by kernel_rfl
def wzero:Array Value:=(O Z 0::List.replicate 128 (.int .u8 0)).toArray
theorem Zec:wzero.size=129:=by simp[wzero]
theorem Zej:((Tryz.prog.info? 188).bind (·.zero)).map (·.cells)=some wzero:=by kernel_rfl
theorem Zc6(h:x.2.length=128):(wcell x).length=129:=by unfold wcell;rw[List.length_cons,Zag,h]
theorem Zfn(x:Nat×Sec):∀u∈wcell x,u.oneCell'=true:=by
 intro u hu;unfold wcell at hu;rcases List.mem_cons.1 hu with rfl|hu
 ·rfl
 ·exact Za8 x.2 u hu
theorem Settled.next_same(h:Settled w W p gl gm cv f d keep i)(hc:Chg (fun _=>False) W W')(he:settleTo d.last d.cache keep (i+1)=settleTo d.last d.cache keep i):Settled w W' p gl gm cv f d keep (i+1):=
 ⟨h.h1.mod hc (fun h=>h),by rw[he];exact h.h2.mod hc (fun h=>h),Zad h.h3 hc (fun _ _ h=>h),h.h4.mod hc (fun h=>h),h.ch.trans (hc.mono fun k hk=>hk.elim)⟩
theorem Settled.next_set(h:Settled w W p gl gm cv f d keep i)(hc:Chg (fun _=>False) W W')(he:settleTo d.last d.cache keep (i+1)=(settleTo d.last d.cache keep i).set x.1 x.2)
  (h1:∀s∈d.last,s.length=128) (h2:∀y∈d.cache,y.2.length=128) (hx:x.1<d.last.length) (hs:x.2.length=128):Settled w (W'.setCells gl (x.1*128) (ucells x.2)) p gl gm cv f d keep (i+1):=by
 have k2:=h.h2.mod hc (fun h=>h);obtain⟨e1,e2⟩:=Zd6 k2 (Zav h1 h2 keep i) (a:=x.1) (by rw[Zak];exact hx) hs;have hp:p≠gl:=fun e=>by
  have a:=h.h1;have b:=h.h2;subst e;unfold At at a b;rw[a]at b;simp only [Zg,Obj.cells.injEq]at b;exact absurd b.2.1 (by decide)
 have hr:cv.ownBlock≠some gl:=Za2 h.h2 h.h3 (by decide);have hm:gm≠gl:=fun e=>h.h4.noCells (e ▸ h.h2)
 exact⟨(h.h1.mod hc (fun h=>h)).mod e2 hp,by rw[he];exact e1,Zad (Zad h.h3 hc (fun _ _ h=>h)) e2 (fun g hg e=>hr (e ▸ hg)),(h.h4.mod hc (fun h=>h)).mod e2 hm,(h.ch.trans (hc.mono fun k hk=>hk.elim)).trans e2⟩
theorem Zfy(T:Nat->Nat)(t p:Nat)(d:Dsk)(keep:Nat->Bool)(w:World)(h:DiskAt w T t p d)(hm:d.cache.length≤1000000)
  (hk:∀(i:Nat) (W:World),i<d.cache.length->Chg (fun k=>T k=t) w W->Calls Zw 135 (#[O Z (i:Int)]++ #[]) W fun e W'=>e=.returned (.bool (keep i))/\Below W.heap.size W W'):
  Calls Zw 134 #[.pointer (some ⟨p,0,none⟩),.func (.func 135) #[] #[]] w fun e w'=>e=.returned (.tuple #[])/\DiskAt w' T t p ⟨settleTo d.last d.cache keep d.cache.length,[],d.failed⟩/\Chg (fun k=>T k=t) w w':=by
 obtain⟨gl,gm,cv,f,h1,h2,h3,h4,h5,h6,h7,h8⟩:=h.at';obtain⟨ca,cc,rfl⟩:=Zab h3;have HS:Hid (Settled w w p gl gm (Zt ca d.cache.length cc) f d keep 0):=⟨h1,h2,h3,h4,Zl _ _⟩;have HK:=hid hk;have HD:=hid h;have c1:w.cell? ⟨p,1,none⟩=some (Zt ca d.cache.length cc):=h1.cell 1;clear h h1 h2 h3 h4 h5 hk;go_enter Tryz.func134,Tryz.ntmps134;go_wp2;go_loopw [11] (fun q wr=>∃i:Nat,i≤d.cache.length/\q=O Z i/\Settled w wr p gl gm (Zt ca d.cache.length cc) f d keep i) (fun q _=>d.cache.length-(intOf q).toNat);case atStart=>exact⟨0,by omega,rfl,HS.out⟩
 case round=>
  clear HS c1;obtain⟨i,hi,rfl,hs⟩:=hrel;by_cases hin:i<d.cache.length
  ·obtain⟨gc,cc',hve,_,hgcl⟩:=Zas hs.h3 (by omega)
   simp only [Zn]at hve;obtain⟨rfl,_,rfl⟩:=hve;have hcl:=HD.out.clen _ (Zj hin);have hcin:=HD.out.cin _ (Zj hin);have hgct:T gc=t:=h8 gc rfl;obtain⟨x,hx⟩:∃x,x=d.cache[i]:=⟨_,rfl⟩;rw[<-hx]at hcl hcin;have hrw:wr.rangeAt gc (i*129) (wcell x):=fun j u hj=>by
    have hj2:j<129:=by have:=(List.getElem?_eq_some_iff.1 hj).1;rwa [Zc6 hcl]at this
    rw[hs.h3.cellAt (i*129+j) (by omega),Zhl HD.out.clen i j hin hj2,<-hx,hj]
   have HRW:=hid hrw;have hwl:=Zc6 hcl;have HSS:=hid hs;have K1:Hid (i+1≤d.cache.length):=hin;have HNX:Hid (settleTo d.last d.cache keep (i+1)=if keep i then (settleTo d.last d.cache keep i).set x.1 x.2 else settleTo d.last d.cache keep i):=by
    show(match d.cache[i]? with|some x=>if keep i then (settleTo d.last d.cache keep i).set x.1 x.2 else settleTo d.last d.cache keep i|none=>settleTo d.last d.cache keep i)=_
    rw[Zh hin,<-hx]
   have HX:=hid hx;have hchT:Chg (fun k=>T k=t) w (wr.alloc (.cells (wcell x).toArray 188)):=(hs.ch.mono (fun k hk=>by subst hk;exact h6)).alloc _;have HC:=hid (HK.out i (wr.alloc (.cells (wcell x).toArray 188)) hin hchT);clear hs hrw hx hchT HK;cases hkp:keep i
   ·rw[hkp]at HC HNX
    go_wp2_with (first
     |(refine wpList_load_mid rfl 188 _ rfl gc (i*129) rfl (wcell x) _ HRW.out Tryz.underlying188 rfl (by rw[hwl];exact Zb0) ?_)
     |(refine Zbg rfl 188 rfl wzero Zej ?_)
     |(refine Za3 rfl 188 _ _ rfl wzero (wcell x).toArray rfl rfl (by rw[List.size_toArray,hwl];exact Zb0) (Zec.trans (by rw[List.size_toArray,hwl])) (all_oneCell_toArray (Zfn x)) ?_)
     |(go_at_call 135;refine HC.out.mono ?_;rintro e w2 ⟨rfl,hb2⟩))
    exact⟨⟨i+1,K1.out,by go_num,HSS.out.next_same (((Zl _ _).alloc _).trans (Zm hb2 _)) HNX.out⟩,by simp[intOf];omega⟩
   ·rw[hkp]at HC HNX
    go_wp2_with (first
     |(refine wpList_load_mid rfl 188 _ rfl gc (i*129) rfl (wcell x) _ HRW.out Tryz.underlying188 rfl (by rw[hwl];exact Zb0) ?_)
     |(refine Zbg rfl 188 rfl wzero Zej ?_)
     |(refine Za3 rfl 188 _ _ rfl wzero (wcell x).toArray rfl rfl (by rw[List.size_toArray,hwl];exact Zb0) (Zec.trans (by rw[List.size_toArray,hwl])) (all_oneCell_toArray (Zfn x)) ?_)
     |(go_at_call 135;refine HC.out.mono ?_;rintro e w2 ⟨rfl,hb2⟩))
    have hal:Chg (fun _=>False) wr w2:=((Zl _ _).alloc _).trans (Zm hb2 _);have p0:w2.cell? ⟨p,0,none⟩=some (Zt (some ⟨gl,0,none⟩) d.last.length d.last.length):=(HSS.out.h1.mod hal (fun h=>h)).cell 0;have b0:At w2 wr.heap.size (wcell x).toArray 188:=(At.new wr (wcell x).toArray 188).below hb2 (by rw[Zaa];omega);have HNS:=hid (fun (W':World) (hc:Chg (fun _=>False) wr W')=>HSS.out.next_set hc HNX.out HD.out.len HD.out.clen hcin hcl);have hgl2:At w2 gl (secCells (settleTo d.last d.cache keep i)).toArray 186:=HSS.out.h2.mod hal (fun h=>h);have hgsz:(secCells (settleTo d.last d.cache keep i)).length=d.last.length*128:=by rw[Zau (Zav HD.out.len HD.out.clen keep i),Zak]
    have hglp:gl≠p:=fun e=>by
     have a:=HSS.out.h1;have b:=HSS.out.h2;subst e;unfold At at a b;rw[a]at b;simp only [Zg,Obj.cells.injEq]at b;exact absurd b.2.1 (by decide)
    have hglw:gl≠wr.heap.size:=fun e=>by have:=HSS.out.h2.lt;omega
    obtain⟨a,s⟩:=x;have hcin':a<d.last.length:=hcin;have hcl':s.length=128:=hcl;have b1:w2.cell? ⟨wr.heap.size,0,none⟩=some (O Z (a:Int)):=b0.cell 0;have b2:w2.rangeAt wr.heap.size 1 (ucells s):=fun j u hj=>by
     rw[b0.cell,List.getElem?_toArray,Nat.add_comm 1 j];exact hj
    have b3:w2.there gl (a*128) 128:=fun j hj=>⟨by rw[hgl2.cell,List.getElem?_toArray,Zh (by omega)];rfl,hgl2.free _⟩
    have hul:(ucells s).length=128:=by rw[Zag,hcl']
    have hu:Tryz.prog.underlying 186=some (.array 128 5):=Tryz.underlying186;have hsz:(Tryz.prog.info? 186).map (·.size)=some (ucells s).length:=by rw[hul];exact Zbi
    have hone:∀v∈ucells s,v.oneCell'=true:=Za8 s;have i0:(0:Int)≤(a:Int):=Int.natCast_nonneg _;have i1:(a:Int)<(d.last.length:Int):=by omega
    have hfew:=HD.out.few;have HS0:w2.drew.cell? ⟨p,0,none⟩=some (Zt (some ⟨gl,0,none⟩) d.last.length d.last.length)/\w2.drew.cell? ⟨wr.heap.size,0,none⟩=some (O Z (a:Int))/\w2.drew.rangeAt wr.heap.size 1 (ucells s)/\w2.drew.there gl (a*128) 128:=⟨p0,b1,b2,b3⟩;have hset:=(Zd6 (w:=w2.drew) hgl2 (Zav HD.out.len HD.out.clen keep i) (a:=a) (s:=s) (by rw[Zak];exact hcin') hcl');have HS1:(w2.drew.setCells gl (a*128) (ucells s)).cell? ⟨p,0,none⟩=some (Zt (some ⟨gl,0,none⟩) d.last.length d.last.length)/\(w2.drew.setCells gl (a*128) (ucells s)).cell? ⟨wr.heap.size,0,none⟩=some (O Z (a:Int))/\(w2.drew.setCells gl (a*128) (ucells s)).rangeAt wr.heap.size 1 (ucells s)/\(w2.drew.setCells gl (a*128) (ucells s)).there gl (a*128) 128:=
     ⟨(hset.2.cell (p:=⟨p,0,none⟩) (block_lt_of_cell p0) (Ne.symm hglp)).trans p0,(hset.2.cell (p:=⟨wr.heap.size,0,none⟩) b0.lt (Ne.symm hglw)).trans b1,fun j u hj=>(hset.2.cell (p:=⟨wr.heap.size,1+j,none⟩) b0.lt (Ne.symm hglw)).trans (b2 j u hj),
      fun j hj=>⟨by rw[hset.1.cell,List.getElem?_toArray,Zh (by rw[Zau (fun y hy=>by rcases List.mem_or_eq_of_mem_set hy with hy|hy;exact Zav HD.out.len HD.out.clen keep i y hy;rw[hy];exact hcl'),List.length_set,Zak];omega)];rfl,hset.1.free _⟩⟩
    have HSA:=hid HS0;have HSB:=hid HS1;clear HS0 HS1 hset b0 hgl2 HSS;go_region_held3 (fun w'=>w'.cell? ⟨p,0,none⟩=some (Zt (some ⟨gl,0,none⟩) d.last.length d.last.length)/\w'.cell? ⟨wr.heap.size,0,none⟩=some (O Z (a:Int))/\w'.rangeAt wr.heap.size 1 (ucells s)/\w'.there gl (a*128) 128)
     (first|exact HSA.out|exact HSB.out)
     (first|fail)
    go_wp2;exact⟨⟨i+1,K1.out,by go_num,HNS.out w2.drew hal.drew⟩,by simp[intOf];omega⟩
  ·obtain rfl:i=d.cache.length:=by omega
   have e0:wr.cell? ⟨p,1,none⟩=some (Zt ca d.cache.length cc):=hs.h1.cell 1;have e0f:=hs.h1.free 1;have HSS:=hid hs;have hp1:=(hs.h1.set 1 (Zt none 0 0));have e2:(wr.setCell ⟨p,1,none⟩ (Zt none 0 0)).cell? ⟨p,2,none⟩=some (.map (some gm)):=hp1.cell 2;have hset:Chg (fun k=>k=p) wr (wr.setCell ⟨p,1,none⟩ (Zt none 0 0)):=Zk (S:=fun k=>k=p) (Zl _ _) ⟨p,1,none⟩ (.inl rfl) _;have hpm:p≠gm:=fun e=>hs.h4.noCells (e ▸ hs.h1)
   have hglm:gl≠gm:=fun e=>hs.h4.noCells (e ▸ hs.h2)
   have hglp:gl≠p:=fun e=>by
    have a:=hs.h1;have b:=hs.h2;subst e;unfold At at a b;rw[a]at b;simp only [Zg,Obj.cells.injEq]at b;exact absurd b.2.1 (by decide)
   have HM:Hid ((wr.setCell ⟨p,1,none⟩ (.slice none 0 0)).imap Zw 3 3 gm d.cache.length f):=hs.h4.mod hset (Ne.symm hpm);have HP:=hid hp1;clear hs hp1 HK;go_wp2_with (refine Zdl rfl _ 129 rfl Tryz.underlying129 rfl HM.out ?_;intro w5 hm5 hc5);go_end0;have s1:=HSS.out;refine⟨rfl,⟨⟨gl,gm,.slice none 0 0,_,?_,?_,World.ownsRow_nil _ _ _ _,hm5,Seen.nil,h6,h7,fun g hg=>by simp[Value.ownBlock]at hg⟩,HD.out.tag,Zav HD.out.len HD.out.clen keep _,fun x hx=>by simp at hx,fun x hx=>by simp at hx,by rw[Zak];exact HD.out.few,by rw[Zak];exact HD.out.some'⟩,?_⟩
   ·have:=HP.out.mod hc5 hpm
    simpa [Zak]using this
   ·exact(s1.h2.mod hset hglp).mod hc5 hglm
   ·exact((s1.ch.mono (fun k hk=>by subst hk;exact h6)).trans (hset.mono (fun k hk=>by subst hk;exact HD.out.tag))).trans (hc5.mono (fun k hk=>by subst hk;exact h7))
theorem Zgv(T:Nat->Nat)(t p:Nat)(d:Dsk)(keep:Nat->Bool)(w:World)(h:DiskAt w T t p d)(hm:d.cache.length≤1000000)
  (hk:∀(i:Nat) (W:World),i<d.cache.length->Chg (fun k=>T k=t) w W->Calls Zw 136 (#[O Z (i:Int)]++ #[]) W fun e W'=>e=.returned (.bool (keep i))/\Below W.heap.size W W'):
  Calls Zw 134 #[.pointer (some ⟨p,0,none⟩),.func (.func 136) #[] #[]] w fun e w'=>e=.returned (.tuple #[])/\DiskAt w' T t p ⟨settleTo d.last d.cache keep d.cache.length,[],d.failed⟩/\Chg (fun k=>T k=t) w w':=by
 obtain⟨gl,gm,cv,f,h1,h2,h3,h4,h5,h6,h7,h8⟩:=h.at';obtain⟨ca,cc,rfl⟩:=Zab h3;have HS:Hid (Settled w w p gl gm (Zt ca d.cache.length cc) f d keep 0):=⟨h1,h2,h3,h4,Zl _ _⟩;have HK:=hid hk;have HD:=hid h;have c1:w.cell? ⟨p,1,none⟩=some (Zt ca d.cache.length cc):=h1.cell 1;clear h h1 h2 h3 h4 h5 hk;go_enter Tryz.func134,Tryz.ntmps134;go_wp2;go_loopw [11] (fun q wr=>∃i:Nat,i≤d.cache.length/\q=O Z i/\Settled w wr p gl gm (Zt ca d.cache.length cc) f d keep i) (fun q _=>d.cache.length-(intOf q).toNat);case atStart=>exact⟨0,by omega,rfl,HS.out⟩
 case round=>
  clear HS c1;obtain⟨i,hi,rfl,hs⟩:=hrel;by_cases hin:i<d.cache.length
  ·obtain⟨gc,cc',hve,_,hgcl⟩:=Zas hs.h3 (by omega)
   simp only [Zn]at hve;obtain⟨rfl,_,rfl⟩:=hve;have hcl:=HD.out.clen _ (Zj hin);have hcin:=HD.out.cin _ (Zj hin);have hgct:T gc=t:=h8 gc rfl;obtain⟨x,hx⟩:∃x,x=d.cache[i]:=⟨_,rfl⟩;rw[<-hx]at hcl hcin;have hrw:wr.rangeAt gc (i*129) (wcell x):=fun j u hj=>by
    have hj2:j<129:=by have:=(List.getElem?_eq_some_iff.1 hj).1;rwa [Zc6 hcl]at this
    rw[hs.h3.cellAt (i*129+j) (by omega),Zhl HD.out.clen i j hin hj2,<-hx,hj]
   have HRW:=hid hrw;have hwl:=Zc6 hcl;have HSS:=hid hs;have K1:Hid (i+1≤d.cache.length):=hin;have HNX:Hid (settleTo d.last d.cache keep (i+1)=if keep i then (settleTo d.last d.cache keep i).set x.1 x.2 else settleTo d.last d.cache keep i):=by
    show(match d.cache[i]? with|some x=>if keep i then (settleTo d.last d.cache keep i).set x.1 x.2 else settleTo d.last d.cache keep i|none=>settleTo d.last d.cache keep i)=_
    rw[Zh hin,<-hx]
   have HX:=hid hx;have hchT:Chg (fun k=>T k=t) w (wr.alloc (.cells (wcell x).toArray 188)):=(hs.ch.mono (fun k hk=>by subst hk;exact h6)).alloc _;have HC:=hid (HK.out i (wr.alloc (.cells (wcell x).toArray 188)) hin hchT);clear hs hrw hx hchT HK;cases hkp:keep i
   ·rw[hkp]at HC HNX
    go_wp2_with (first
     |(refine wpList_load_mid rfl 188 _ rfl gc (i*129) rfl (wcell x) _ HRW.out Tryz.underlying188 rfl (by rw[hwl];exact Zb0) ?_)
     |(refine Zbg rfl 188 rfl wzero Zej ?_)
     |(refine Za3 rfl 188 _ _ rfl wzero (wcell x).toArray rfl rfl (by rw[List.size_toArray,hwl];exact Zb0) (Zec.trans (by rw[List.size_toArray,hwl])) (all_oneCell_toArray (Zfn x)) ?_)
     |(go_at_call 136;refine HC.out.mono ?_;rintro e w2 ⟨rfl,hb2⟩))
    exact⟨⟨i+1,K1.out,by go_num,HSS.out.next_same (((Zl _ _).alloc _).trans (Zm hb2 _)) HNX.out⟩,by simp[intOf];omega⟩
   ·rw[hkp]at HC HNX
    go_wp2_with (first
     |(refine wpList_load_mid rfl 188 _ rfl gc (i*129) rfl (wcell x) _ HRW.out Tryz.underlying188 rfl (by rw[hwl];exact Zb0) ?_)
     |(refine Zbg rfl 188 rfl wzero Zej ?_)
     |(refine Za3 rfl 188 _ _ rfl wzero (wcell x).toArray rfl rfl (by rw[List.size_toArray,hwl];exact Zb0) (Zec.trans (by rw[List.size_toArray,hwl])) (all_oneCell_toArray (Zfn x)) ?_)
     |(go_at_call 136;refine HC.out.mono ?_;rintro e w2 ⟨rfl,hb2⟩))
    have hal:Chg (fun _=>False) wr w2:=((Zl _ _).alloc _).trans (Zm hb2 _);have p0:w2.cell? ⟨p,0,none⟩=some (Zt (some ⟨gl,0,none⟩) d.last.length d.last.length):=(HSS.out.h1.mod hal (fun h=>h)).cell 0;have b0:At w2 wr.heap.size (wcell x).toArray 188:=(At.new wr (wcell x).toArray 188).below hb2 (by rw[Zaa];omega);have HNS:=hid (fun (W':World) (hc:Chg (fun _=>False) wr W')=>HSS.out.next_set hc HNX.out HD.out.len HD.out.clen hcin hcl);have hgl2:At w2 gl (secCells (settleTo d.last d.cache keep i)).toArray 186:=HSS.out.h2.mod hal (fun h=>h);have hgsz:(secCells (settleTo d.last d.cache keep i)).length=d.last.length*128:=by rw[Zau (Zav HD.out.len HD.out.clen keep i),Zak]
    have hglp:gl≠p:=fun e=>by
     have a:=HSS.out.h1;have b:=HSS.out.h2;subst e;unfold At at a b;rw[a]at b;simp only [Zg,Obj.cells.injEq]at b;exact absurd b.2.1 (by decide)
    have hglw:gl≠wr.heap.size:=fun e=>by have:=HSS.out.h2.lt;omega
    obtain⟨a,s⟩:=x;have hcin':a<d.last.length:=hcin;have hcl':s.length=128:=hcl;have b1:w2.cell? ⟨wr.heap.size,0,none⟩=some (O Z (a:Int)):=b0.cell 0;have b2:w2.rangeAt wr.heap.size 1 (ucells s):=fun j u hj=>by
     rw[b0.cell,List.getElem?_toArray,Nat.add_comm 1 j];exact hj
    have b3:w2.there gl (a*128) 128:=fun j hj=>⟨by rw[hgl2.cell,List.getElem?_toArray,Zh (by omega)];rfl,hgl2.free _⟩
    have hul:(ucells s).length=128:=by rw[Zag,hcl']
    have hu:Tryz.prog.underlying 186=some (.array 128 5):=Tryz.underlying186;have hsz:(Tryz.prog.info? 186).map (·.size)=some (ucells s).length:=by rw[hul];exact Zbi
    have hone:∀v∈ucells s,v.oneCell'=true:=Za8 s;have i0:(0:Int)≤(a:Int):=Int.natCast_nonneg _;have i1:(a:Int)<(d.last.length:Int):=by omega
    have hfew:=HD.out.few;have HS0:w2.drew.cell? ⟨p,0,none⟩=some (Zt (some ⟨gl,0,none⟩) d.last.length d.last.length)/\w2.drew.cell? ⟨wr.heap.size,0,none⟩=some (O Z (a:Int))/\w2.drew.rangeAt wr.heap.size 1 (ucells s)/\w2.drew.there gl (a*128) 128:=⟨p0,b1,b2,b3⟩;have hset:=(Zd6 (w:=w2.drew) hgl2 (Zav HD.out.len HD.out.clen keep i) (a:=a) (s:=s) (by rw[Zak];exact hcin') hcl');have HS1:(w2.drew.setCells gl (a*128) (ucells s)).cell? ⟨p,0,none⟩=some (Zt (some ⟨gl,0,none⟩) d.last.length d.last.length)/\(w2.drew.setCells gl (a*128) (ucells s)).cell? ⟨wr.heap.size,0,none⟩=some (O Z (a:Int))/\(w2.drew.setCells gl (a*128) (ucells s)).rangeAt wr.heap.size 1 (ucells s)/\(w2.drew.setCells gl (a*128) (ucells s)).there gl (a*128) 128:=
     ⟨(hset.2.cell (p:=⟨p,0,none⟩) (block_lt_of_cell p0) (Ne.symm hglp)).trans p0,(hset.2.cell (p:=⟨wr.heap.size,0,none⟩) b0.lt (Ne.symm hglw)).trans b1,fun j u hj=>(hset.2.cell (p:=⟨wr.heap.size,1+j,none⟩) b0.lt (Ne.symm hglw)).trans (b2 j u hj),
      fun j hj=>⟨by rw[hset.1.cell,List.getElem?_toArray,Zh (by rw[Zau (fun y hy=>by rcases List.mem_or_eq_of_mem_set hy with hy|hy;exact Zav HD.out.len HD.out.clen keep i y hy;rw[hy];exact hcl'),List.length_set,Zak];omega)];rfl,hset.1.free _⟩⟩
    have HSA:=hid HS0;have HSB:=hid HS1;clear HS0 HS1 hset b0 hgl2 HSS;go_region_held3 (fun w'=>w'.cell? ⟨p,0,none⟩=some (Zt (some ⟨gl,0,none⟩) d.last.length d.last.length)/\w'.cell? ⟨wr.heap.size,0,none⟩=some (O Z (a:Int))/\w'.rangeAt wr.heap.size 1 (ucells s)/\w'.there gl (a*128) 128)
     (first|exact HSA.out|exact HSB.out)
     (first|fail)
    go_wp2;exact⟨⟨i+1,K1.out,by go_num,HNS.out w2.drew hal.drew⟩,by simp[intOf];omega⟩
  ·obtain rfl:i=d.cache.length:=by omega
   have e0:wr.cell? ⟨p,1,none⟩=some (Zt ca d.cache.length cc):=hs.h1.cell 1;have e0f:=hs.h1.free 1;have HSS:=hid hs;have hp1:=(hs.h1.set 1 (Zt none 0 0));have e2:(wr.setCell ⟨p,1,none⟩ (Zt none 0 0)).cell? ⟨p,2,none⟩=some (.map (some gm)):=hp1.cell 2;have hset:Chg (fun k=>k=p) wr (wr.setCell ⟨p,1,none⟩ (Zt none 0 0)):=Zk (S:=fun k=>k=p) (Zl _ _) ⟨p,1,none⟩ (.inl rfl) _;have hpm:p≠gm:=fun e=>hs.h4.noCells (e ▸ hs.h1)
   have hglm:gl≠gm:=fun e=>hs.h4.noCells (e ▸ hs.h2)
   have hglp:gl≠p:=fun e=>by
    have a:=hs.h1;have b:=hs.h2;subst e;unfold At at a b;rw[a]at b;simp only [Zg,Obj.cells.injEq]at b;exact absurd b.2.1 (by decide)
   have HM:Hid ((wr.setCell ⟨p,1,none⟩ (.slice none 0 0)).imap Zw 3 3 gm d.cache.length f):=hs.h4.mod hset (Ne.symm hpm);have HP:=hid hp1;clear hs hp1 HK;go_wp2_with (refine Zdl rfl _ 129 rfl Tryz.underlying129 rfl HM.out ?_;intro w5 hm5 hc5);go_end0;have s1:=HSS.out;refine⟨rfl,⟨⟨gl,gm,.slice none 0 0,_,?_,?_,World.ownsRow_nil _ _ _ _,hm5,Seen.nil,h6,h7,fun g hg=>by simp[Value.ownBlock]at hg⟩,HD.out.tag,Zav HD.out.len HD.out.clen keep _,fun x hx=>by simp at hx,fun x hx=>by simp at hx,by rw[Zak];exact HD.out.few,by rw[Zak];exact HD.out.some'⟩,?_⟩
   ·have:=HP.out.mod hc5 hpm
    simpa [Zak]using this
   ·exact(s1.h2.mod hset hglp).mod hc5 hglm
   ·exact((s1.ch.mono (fun k hk=>by subst hk;exact h6)).trans (hset.mono (fun k hk=>by subst hk;exact HD.out.tag))).trans (hc5.mono (fun k hk=>by subst hk;exact h7))
end Go.Proofs.YtmemlkmnhcealaaGreat
