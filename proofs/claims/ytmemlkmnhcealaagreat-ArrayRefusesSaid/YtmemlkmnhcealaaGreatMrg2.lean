
/- Several texts in one: DiskC, DiskD. -/
import Derived.Test.YtmemlkmnhcealaaGreatMrg1
import Derived.StillTailTactics
import Derived.Deep.AppendLies
import Derived.Laws.Cover3
import Derived.Carry
set_option linter.unusedVariables false
set_option maxRecDepth 100000
set_option maxHeartbeats 4000000
namespace Go
open Value renaming slice→Zt
open Lib(hid)
theorem Zke:∀(l:List Value) (k off:Nat) (base:Array Value) (j:Nat),((l.zipIdx k).foldl (fun cs x=>cs.setIfInBounds (off+x.2) x.1) base)[j]?=if off+k≤j/\j<off+k+l.length/\j<base.size then l[j-(off+k)]? else base[j]?
 | [],k,off,base,j=>by
  simp only [List.zipIdx_nil,List.foldl_nil,List.length_nil];rw[Ze (by omega)]
 |v::l,k,off,base,j=>by
  rw[List.zipIdx_cons,List.foldl_cons,Zke l (k+1) off _ j];simp only [Array.size_setIfInBounds,List.length_cons];by_cases h1:off+(k+1)≤j/\j<off+(k+1)+l.length/\j<base.size
  ·rw[Zf h1,Zf (by omega),show j-(off+k)=(j-(off+(k+1)))+1 by omega,List.getElem?_cons_succ]
  ·rw[Ze h1,Array.getElem?_setIfInBounds]
   by_cases h2:off+k=j
   ·subst h2
    rw[Zf rfl];by_cases h3:off+k<base.size
    ·rw[Zf h3,Zf (by omega)];simp
    ·rw[Ze h3,Ze (by omega),Array.getElem?_eq_none (by omega)]
   ·rw[Ze h2,Ze (by omega)]
theorem Zwu(l:List Value)(base:Array Value)(h:base.size=l.length):((l.zipIdx).foldl (fun cs x=>cs.setIfInBounds (0+x.2) x.1) base)=l.toArray:=by
 apply Array.ext_getElem?;intro j;rw[Zke l 0 0 base j];by_cases hj:j<l.length
 ·rw[Zf (by omega)];simp
 ·rw[Ze (by omega),Array.getElem?_eq_none (by omega)];simp[hj]
theorem Zt9(l:List Value)(base:Array Value)(h:base.size=l.length):((l.zipIdx).foldl (fun cs x=>cs.setIfInBounds x.2 x.1) base)=l.toArray:=by
 have:=Zwu l base h;simpa using this
section
variable {P:Program} (w:World)
theorem Zdk{ops:Array Oper}{o:Oper}{a:Act}{K:Act->World->Prop}{Q:Exit->Act->World->Prop}{E:Prop}(hgd:o.guard=none)(s x:Operand)(t e:TypeId)(sz bytes:Nat)
  (ho:o.op=.call {callee:=.builtin .append,args:= #[s,x],argTypes:= #[t,t]}) (hT:SliceOf P t e sz bytes)
  (B:Nat) (v:Value) (n:Nat) (xs:List Value) (hs:a.eval s=v) (hown:w.ownsRow B e sz v n xs)
  (ad:Addr) (m c:Nat) (news:List Value) (hx:a.eval x=Zt (some ad) m c) (hl:news.length=m*sz) (hnews:∀j u,news[j]?=some u->w.cell? (ad.add j)=some u) (h1:∀u∈news,u.oneCell'=true)
  (h63:n+m≤maxLen) (hbytes:(n+m)*bytes≤140737488355328) (hbase:B≤w.heap.size) (hm:0<m)
  (h:∀v' w',w'.ownsRow B e sz v' (n+m) (xs++news)->(v'.ownBlock=v.ownBlock\/v'.ownBlock=some w.heap.size)->Chg (fun k=>v.ownBlock=some k) w w'->
   (∀B' u k ys,w.ownsRow B' e sz u k ys->(u.ownBlock=v.ownBlock->k≤n)->w'.ownsRow B' e sz u k ys)->K (a.put o.dst v') w'):
  if Region.wanted o (yielded ops a.tmps)=true then Oper.wp P o a w K Q else E:=by
 have hw:Region.wanted o (yielded ops a.tmps)=true:=by simp[Region.wanted,hgd]
 rw[Zf hw];obtain⟨v',w',hr,h2,h3,h4,h5⟩:=Zbj (P:=P) w B t o.type e sz bytes hT v n xs hown ad m c news hl hnews h1 h63 hbytes hbase hm;unfold Oper.wp execOp;simp only [ho,resolve,invoke,builtin,Sem.run_bind,Sem.run_pure,Result.andThen_ok,List.map_toArray,List.map_cons,List.map_nil,hs,hx,hr];exact h v' w' h2 h3 h4 h5
theorem Za2{w:World}{g:Nat}{cs:Array Value}{t e:TypeId}(h:At w g cs t){B sz n:Nat}{v:Value}{xs:List Value}(hr:w.ownsRow B e sz v n xs)(hte:t≠e):v.ownBlock≠some g:=by
 intro hv;rcases hr.2 with ⟨rfl,_⟩|⟨g',cap,cur,rfl,_,hg,_⟩
 ·cases hv
 ·simp only [Value.ownBlock,Zg]at hv
  subst hv;unfold At at h;rw[h]at hg;simp only [Zg,Obj.cells.injEq]at hg;exact hte hg.2.1
end
end Go
namespace Go.Proofs.YtmemlkmnhcealaaGreat
open Value renaming slice→Zt
open Go.Proofs.Tryz renaming prog→Zw
open Go.RowKit
open Lib(hid)
theorem Zgl:SliceOf Zw 130 188 129 136:=
 SliceOf.mk' (z:=.agg (.int .i64 0::List.replicate 128 (.int .u8 0)).toArray) Tryz.underlying130 (by decide) (by kernel_rfl) (by kernel_rfl)
def DiskPost(W:World)(T:Nat->Nat)(t p:Nat)(d':Dsk)(W':World):Prop:=
 ∃T',DiskAt W' T' t p d'/\(∀k,k<W.heap.size\/W'.heap.size≤k->T' k=T k)/\(∀k,T' k=T k\/T' k=t)/\Chg (fun k=>T k=t) W W'
theorem Znt(c:List (Nat×Sec))(x:Nat×Sec):wcells (c++ [x])=wcells c++wcell x:=by
 unfold wcells;rw[List.flatMap_append];simp
theorem Ztb{w w2 w3 w5:World}{o:Obj}{T:Nat->Nat}{t p gl gm i:Nat}{cv v5:Value}{f:Int->Option Int}{d:Dsk}{s:Sec}(h:DiskAt w T t p d)
  (h1:At w p #[Zt (some ⟨gl,0,none⟩) d.last.length d.last.length,cv,.map (some gm),.bool d.failed] 132) (h2:At w gl (secCells d.last).toArray 186)
  (h3:w.ownsRow 0 188 129 cv d.cache.length (wcells d.cache)) (h4:w.imap Zw 3 3 gm d.cache.length f) (h5:Seen d.cache f) (h6:T gl=t) (h7:T gm=t) (h8:∀g,cv.ownBlock=some g->T g=t)
  (hi:i<d.last.length) (hs:s.length=128) (hc2:Chg (fun _=>False) w w2) (hc3:Chg (fun x=>x=gm) w2 w3) (hm3:w3.imap Zw 3 3 gm (d.cache.length+1) (fun z=>if z=(i:Int)then some (d.cache.length:Int)else f z))
  (k1:w5.ownsRow 0 188 129 v5 (d.cache.length+1) (wcells d.cache++wcell (i,s))) (k2:v5.ownBlock=cv.ownBlock\/v5.ownBlock=some (w3.alloc o).drew.heap.size)
  (k3:Chg (fun k=>cv.ownBlock=some k) (w3.alloc o).drew w5) (k4:At w5 p #[Zt (some ⟨gl,0,none⟩) d.last.length d.last.length,cv,.map (some gm),.bool d.failed] 132):
  DiskPost w T t p {d with cache:=d.cache++ [(i,s)]} (w5.setCell ⟨p,1,none⟩ v5):=by
 have hgl:gl≠gm:=fun e=>h4.noCells (e ▸ h2)
 have hpm:p≠gm:=fun e=>h4.noCells (e ▸ h1)
 have hlp:gl≠p:=fun e=>by
  subst e;unfold At at h1 h2;rw[h1]at h2;simp only [Zg,Obj.cells.injEq]at h2;exact absurd h2.2.1 (by decide)
 have hlr:cv.ownBlock≠some gl:=Za2 h2 h3 (by decide);have hmr:cv.ownBlock≠some gm:=h4.noRow h3;have hpr:v5.ownBlock≠some p:=Za2 k4 k1 (by decide);have z0:=h1.lt;have zl:=h2.lt;have zm:=h4.lt;have zr:∀g,cv.ownBlock=some g->g<w.heap.size:=fun g hg=>(h3.lt g hg).2
 have s2:=hc2.size;have s3:=hc3.size;have s4:(w3.alloc o).drew.heap.size=w3.heap.size+1:=Zaa _ _;have s5:=k3.size;have s6:=Za6 w5 ⟨p,1,none⟩ v5;have hset:Chg (fun k=>k=p) w5 (w5.setCell ⟨p,1,none⟩ v5):=Zk (S:=fun k=>k=p) (Zl _ _) ⟨p,1,none⟩ (.inl rfl) _;have ha:Chg (fun _=>False) w3 (w3.alloc o).drew:=((Zl _ _).alloc o).drew;have hall:Chg (fun k=>T k=t) w (w5.setCell ⟨p,1,none⟩ v5):=
  ((((hc2.mono fun k hk=>hk.elim).trans (hc3.mono fun k hk=>by subst hk;exact h7)).trans (ha.mono fun k hk=>hk.elim)).trans (k3.mono fun k hk=>h8 k hk)).trans (hset.mono fun k hk=>by subst hk;exact h.tag)
 have hT:∃T':Nat->Nat,(∀k,k<w.heap.size\/(w5.setCell ⟨p,1,none⟩ v5).heap.size≤k->T' k=T k)/\(∀k,T' k=T k\/T' k=t)/\(∀g,v5.ownBlock=some g->T' g=t):=by
  rcases k2 with e|e
  ·exact⟨T,fun _ _=>rfl,fun _=>.inl rfl,fun g hg=>h8 g (e ▸ hg)⟩
  ·have hlt:=(k1.lt _ e).2
   refine⟨tagAt T (w3.heap.size+1) t,fun k hk=> ?_,fun k=> ?_,fun g hg=> ?_⟩
   ·unfold tagAt;rw[Ze (by rw[s6]at hk;omega)]
   ·unfold tagAt;split
    ·exact .inr rfl
    ·exact .inl rfl
   ·rw[e,s4]at hg
    simp only [Zg]at hg;subst hg;exact Zjn _ _ _
 obtain⟨T',t1,t2,t3⟩:=hT;refine⟨T',⟨⟨gl,gm,v5,_,?_,?_,?_,?_,h5.snoc i s,by rw[t1 gl (.inl zl)];exact h6,by rw[t1 gm (.inl zm)];exact h7,t3⟩,by rw[t1 p (.inl z0)];exact h.tag,h.len,?_,?_,h.few,h.some'⟩,t1,t2,hall⟩
 ·exact k4.set 1 v5
 ·exact(((((h2.mod hc2 (fun h=>h)).mod hc3 hgl).mod ha (fun h=>h)).mod k3 hlr).mod hset hlp)
 ·show World.ownsRow _ _ _ _ _ (d.cache++ [(i,s)]).length (wcells (d.cache++ [(i,s)]))
  rw[Znt,Zo];exact Zad k1 hset (fun g hg e=>hpr (e ▸ hg))
 ·show World.imap _ _ _ _ _ (d.cache++ [(i,s)]).length _
  rw[Zo];exact((hm3.mod ha (fun h=>h)).mod k3 hmr).mod hset (Ne.symm hpm)
 ·intro x hx
  rcases List.mem_append.1 hx with hx|hx
  ·exact h.clen x hx
  ·simp only [List.mem_singleton]at hx;subst hx;exact hs
 ·intro x hx
  rcases List.mem_append.1 hx with hx|hx
  ·exact h.cin x hx
  ·simp only [List.mem_singleton]at hx;subst hx;exact hi
theorem Zku(T:Nat->Nat)(t p i:Nat)(d:Dsk)(s:Sec)(v:Value)(w:World)(h:DiskAt w T t p d)(hf:d.failed=false)(hi:i<d.last.length)(hv:Seg w v s)(hs:s.length=128)(hc:d.cache.length≤1000000)(hvT:∀a n c,v=Zt (some a) n c->T a.block≠t):
  Calls Zw 78 #[.pointer (some ⟨p,0,none⟩),.int .i64 i,v] w fun e w'=>e=.returned (.int .u16 0)/\DiskPost w T t p {d with cache:=d.cache++ [(i,s)]} w':=by
 have hmay:=hid (Zeh T t p d i w h);have hm0:d.may (i:Int)=0:=by unfold Dsk.may;rw[hf,Ze (by simp),Ze (by omega)]
 rw[hm0]at hmay;obtain⟨vb,vo,vc,rfl,hvb,hcells⟩:=hv.full (by omega);rw[hs]at hv;obtain⟨gl,gm,cv,f,h1,h2,h3,h4,h5,h6,h7,h8⟩:=h.at';have hfew:=h.few;have hgp:p≠gm:=fun e=>h4.noCells (e ▸ h1)
 have hgc:∀g,cv.ownBlock=some g->g≠gm:=fun g hg e=>h4.noRow h3 (e ▸ hg)
 have hgl':gl≠gm:=fun e=>h4.noCells (e ▸ h2)
 have hgv:vb≠gm:=fun e=>h4.noCell (e ▸ hcells 0 (by omega))
 have hpl:=h1.lt;have hvp:vb≠p:=fun e=>hvT _ _ _ rfl (by rw[e];exact h.tag)
 have hpr:∀g,cv.ownBlock=some g->g≠p:=fun g hg e=>Za2 h1 h3 (by decide) (e ▸ hg)
 have hvr:∀g,cv.ownBlock=some g->g≠vb:=fun g hg e=>hvT _ _ _ rfl (by rw[<-e];exact h8 g hg)
 have hrg:w.rangeAt vb vo (ucells s):=fun j u hj=>by
  have hj2:j<s.length:=by have:=(List.getElem?_eq_some_iff.1 hj).1;rwa [Zag]at this
  rw[hcells j hj2,<-hj];simp[ucells,hj2]
 have c1:w.cell? ⟨p,1,none⟩=some cv:=h1.cell 1;have c2:w.cell? ⟨p,2,none⟩=some (.map (some gm)):=h1.cell 2
 have HEND:Hid (∀w2 w3 w5 o v5,Chg (fun _=>False) w w2->Chg (fun x=>x=gm) w2 w3->w3.imap Zw 3 3 gm (d.cache.length+1) (fun z=>if z=(i:Int)then some (d.cache.length:Int)else f z)->
   w5.ownsRow 0 188 129 v5 (d.cache.length+1) (wcells d.cache++wcell (i,s))->(v5.ownBlock=cv.ownBlock\/v5.ownBlock=some (w3.alloc o).drew.heap.size)->Chg (fun k=>cv.ownBlock=some k) (w3.alloc o).drew w5->
   At w5 p #[Zt (some ⟨gl,0,none⟩) d.last.length d.last.length,cv,.map (some gm),.bool d.failed] 132->DiskPost w T t p {d with cache:=d.cache++ [(i,s)]} (w5.setCell ⟨p,1,none⟩ v5)):=
  fun w2 w3 w5 o v5 a1 a2 a3 a4 a5 a6 a7=>Ztb h h1 h2 h3 h4 h5 h6 h7 h8 hi hs a1 a2 a3 a4 a5 a6 a7
 have H1:=hid h1;have H3:=hid h3;have HG:=hid hrg;have H4:=hid h4;obtain⟨ca,cc,hcv⟩:=Zab h3;rw[hcv]at c1;clear h h1 h2 h3 h4 h5 hf hcells hv hrg;rw[hs];generalize d.last.length=n at*;generalize d.cache.length=m at*;go_enter Tryz.func78,Tryz.ntmps78
 go_wp2_with (first
  |(go_at_call 119;refine hmay.out.mono ?_;rintro e w1 ⟨rfl,rfl⟩))
 go_still_tail 10,(by kernel_rfl);change wpList _ _ _ _ _ w1.drew;have HD:Hid (w1.drew.imap Zw 3 3 gm m f):=H4.out.mod ((Zl (fun _=>False) w1).drew) (fun h=>h);have c1d:w1.drew.cell? ⟨p,1,none⟩=some (Zt ca m cc):=c1;have hc2:Chg (fun _=>False) w1 w1.drew:=(Zl _ _).drew;clear c1 c2;generalize w1.drew=w2 at*
 go_wp2_with (first
  |(refine Zhu rfl _ _ _ 129 rfl Tryz.underlying129 Tryz.underlying3 Tryz.underlying3 rfl HD.out (by unfold maxLen;omega) (i:Int) (m:Int) rfl rfl (Zjh i (by omega)) (Zjh m (by omega)) ?_;intro w3 hm3 hc3))
 have K1:At w3 p #[Zt (some ⟨gl,0,none⟩) n n,cv,.map (some gm),.bool d.failed] 132:=(H1.out.mod hc2 (fun h=>h)).mod hc3 hgp;have e1:w3.cell? ⟨p,1,none⟩=some (Zt ca m cc):=by rw[<-hcv];exact K1.cell 1
 have e1f:w3.frozen? ⟨p,1,none⟩=false:=K1.free 1;have K3:w3.ownsRow 0 188 129 cv m (wcells d.cache):=Zad (Zad H3.out hc2 (fun _ _ h=>h)) hc3 hgc;have K4:w3.rangeAt vb vo (ucells s):=fun j u hj=>(hc3.cell (p:=⟨vb,vo+j,none⟩) (Zd hvb hc2.size) hgv).trans ((hc2.cell (p:=⟨vb,vo+j,none⟩) hvb (fun h=>h)).trans (HG.out j u hj))
 have z3:vb<w3.heap.size:=Zd hvb (Zc hc2.size hc3.size);have zp:p<w3.heap.size:=K1.lt;have hul:(ucells s).length=128:=by rw[Zag,hs]
 have HC2:=hid hc2;have HC3:=hid hc3;have HM3:=hid hm3;clear H1 H3 HG H4 HD hmay hc2 hc3 hm3;have Q3:=hid K3;have Q4:=hid K4;have Q1:=hid K1;clear K1 K3 K4;have hA:∀W:World,(Instr.arrayAt 186 (.slice (some ⟨vb,vo,none⟩) 128 vc)).run Zw W=.ok (.pointer (some ⟨vb,vo,none⟩)) W:=fun W=>run_arrayAt W _ _ 128 _ 128 vc Tryz.underlying186 (Za _)
 have hu:Tryz.prog.underlying 186=some (.array 128 5):=Tryz.underlying186;have hsz:(Tryz.prog.info? 186).map (·.size)=some (ucells s).length:=by rw[hul];exact Zbi
 have hone:∀v∈ucells s,v.oneCell'=true:=Za8 s;have h9:List.foldl (fun cs x=>cs.setIfInBounds (1+x.snd) x.fst) (Tryz.zeroCells188.setIfInBounds 0 (.int .i64 (i:Int))) (ucells s).zipIdx=(wcell (i,s)).toArray:=by
  apply Array.ext_getElem?;intro j;have hz0:Tryz.zeroCells188.size=129:=by kernel_rfl
  rw[Zke (ucells s) 0 1 _ j];simp only [Array.size_setIfInBounds,hz0,hul,Nat.add_zero];by_cases hj:1≤j/\j<1+128/\j<129
  ·rw[Zf hj]
   obtain⟨j',rfl⟩:∃j',j=j'+1:=⟨j-1,by omega⟩;simp[wcell]
  ·rw[Ze hj,Array.getElem?_setIfInBounds]
   by_cases hj0:0=j
   ·subst hj0;rw[Zf rfl,Zf (by omega)];simp[wcell]
   ·rw[Ze hj0,Array.getElem?_eq_none (by omega)]
    have:(wcell (i,s)).length≤j:=by unfold wcell;rw[List.length_cons,hul];omega
    simp[this]
 have h9l:(wcell (i,s)).length=129:=by unfold wcell;rw[List.length_cons,hul]
 have h10:∀base:Array Value,base.size=129->List.foldl (fun cs x=>cs.setIfInBounds x.snd x.fst) base (wcell (i,s)).zipIdx=(wcell (i,s)).toArray:=fun base hb=>Zt9 _ base (by rw[hb,h9l])
 generalize hwc:wcell (i,s)=wc at*;have e1':w3.drew.cell? ⟨p,1,none⟩=some (Zt ca m cc):=e1;have e2':(w3.alloc (.cells wc.toArray 188)).drew.cell? ⟨p,1,none⟩=some (Zt ca m cc):=by rw[<-hcv];exact(Q1.out.alloc _).cell 1
 have HS1:Hid (w3.drew.rangeAt vb vo (ucells s)):=Q4.out;have HS2:Hid ((w3.alloc (.cells wc.toArray 188)).drew.rangeAt vb vo (ucells s)):=fun j u hj=>(World.cell?_alloc_lt _ _ (a:=⟨vb,vo+j,none⟩) z3).trans (Q4.out j u hj)
 have Q1':Hid (At (w3.alloc (.cells wc.toArray 188)).drew p #[Zt (some ⟨gl,0,none⟩) n n,Zt ca m cc,.map (some gm),.bool d.failed] 132):=by rw[<-hcv];exact Q1.out.alloc _
 have hca:(Value.slice ca m cc).ownBlock=cv.ownBlock:=by rw[hcv]
 have Q3':Hid ((w3.alloc (.cells wc.toArray 188)).drew.ownsRow 0 188 129 (Zt ca m cc) m (wcells d.cache)):=by rw[<-hcv];exact(Q3.out.alloc _)
 have hwone:∀u∈wc,u.oneCell'=true:=by
  rw[<-hwc];intro u hu;unfold wcell at hu;rcases List.mem_cons.1 hu with rfl|hu
  ·rfl
  ·exact Za8 s u hu
 have z4 : (w3.alloc (.cells wc.toArray 188)).heap.size = w3.heap.size + 1 := Zaa _ _; refine wp_region_noPanic ?_; refine wp_region_held_drew (S := fun w' => w'.rangeAt vb vo (ucells s) /\ vb ≠ p) (by kernel_rfl) ⟨HS1.out, hvp⟩ (fun hHeld => ?_); refine Zq (i := 0) (v := (.pointer (some ⟨p, 0, none⟩))) rfl (by kernel_rfl) (by kernel_rfl) (by kernel_rfl) (fun _ _ _ h => h) (Or.inl ⟨by rfl, fun w hSw => by go_simp⟩) hHeld ?_; simp only [Act.put, List.setIfInBounds_toArray]; refine Zq (i := 1) (v := (.pointer (some ⟨p, 0, none⟩))) rfl (by kernel_rfl) (by kernel_rfl) (by kernel_rfl) (fun _ _ _ h => h) (Or.inl ⟨by rfl, fun w hSw => by go_simp⟩) hHeld ?_; simp only [Act.put]; refine Zq (i := 2) (v := (.pointer (some ⟨p, 0, none⟩))) rfl (by kernel_rfl) (by kernel_rfl) (by kernel_rfl) (fun _ _ _ h => h) (Or.inl ⟨by rfl, fun w hSw => by go_simp⟩) hHeld ?_; simp only [Act.put]; refine Zq (i := 3) (v := (.pointer (some ⟨p, 1, none⟩))) rfl (by kernel_rfl) (by kernel_rfl) (by kernel_rfl) (fun _ _ _ h => h) (Or.inl ⟨by rfl, fun w hSw => by go_simp⟩) hHeld ?_; simp only [Act.put]; refine Zq (i := 5) (v := (.int .i64 (i : Int))) rfl (by kernel_rfl) (by kernel_rfl) (by kernel_rfl) (fun _ _ _ h => h) (Or.inl ⟨by rfl, fun w hSw => by go_simp⟩) hHeld ?_; simp only [Act.put]; refine Zq (i := 6) (v := (Zt (some ⟨vb, vo, none⟩) 128 vc)) rfl (by kernel_rfl) (by kernel_rfl) (by kernel_rfl) (fun _ _ _ h => h) (Or.inl ⟨by rfl, fun w hSw => by go_simp⟩) hHeld ?_; simp only [Act.put]; refine Zq (i := 7) (v := (.pointer (some ⟨vb, vo, none⟩))) rfl (by kernel_rfl) (by kernel_rfl) (by kernel_rfl) (fun _ _ _ h => h) (Or.inl ⟨by rfl, fun w hSw => by go_simp⟩) hHeld ?_; simp only [Act.put]; refine Zq (i := 8) (v := .agg (ucells s).toArray) rfl (by kernel_rfl) (by kernel_rfl) (by kernel_rfl) (fun _ _ _ h => h) (yieldsIf_load_mid (by rfl) _ _ rfl vb vo rfl (ucells s) _ (fun w h => h.1) hu rfl hsz) hHeld ?_; simp only [Act.put]; refine Zq (i := 9) (v := (.agg wc.toArray)) rfl (by kernel_rfl) (by kernel_rfl) (by kernel_rfl) (fun _ _ _ h => h) (Or.inl ⟨by rfl, fun w hSw => by go_simp⟩) hHeld ?_; simp only [Act.put]; refine wpAnyH_ready (rs := [4, 10]) (by kernel_rfl) (by simp) ?_; refine AllReadyH.cons (o := { dst := some 31, op := Op.load 130 (Operand.tmp 30), type := 130, pos := "disk.go:84", after := #[{ on := 3, ground := Ground.data }], guard := none }) rfl (fun K hK => ?_) (AllReadyH.cons (o := { dst := some 37, op := Op.buildSlice 130 1 #[(0, Operand.tmp 36)], type := 130, pos := "disk.go:84", after := #[{ on := 9, ground := Ground.data }], guard := none }) rfl (fun K hK => ?_) AllReadyH.nil)
 focus
  go_simp
  refine hK.out _ _ ⟨HS1.out,hvp⟩ (fun hHeld=> ?_)
  clear hK K
  try simp only [Act.put,List.setIfInBounds_toArray,List.set_cons_zero,List.set_cons_succ]
  refine wpAnyH_ready (rs := [10]) (by kernel_rfl) (by simp) ?_
  refine AllReadyH.cons (o := { dst := some 37, op := Op.buildSlice 130 1 #[(0, Operand.tmp 36)], type := 130, pos := "disk.go:84", after := #[{ on := 9, ground := Ground.data }], guard := none }) rfl (fun K hK => ?_) AllReadyH.nil
 rotate_left
 focus
  go_simp
  refine hK.out _ _ ⟨HS2.out,hvp⟩ (fun hHeld=> ?_)
  clear hK K
  try simp only [Act.put,List.setIfInBounds_toArray,List.set_cons_zero,List.set_cons_succ]
  refine wpAnyH_ready (rs := [4]) (by kernel_rfl) (by simp) ?_
  refine AllReadyH.cons (o := { dst := some 31, op := Op.load 130 (Operand.tmp 30), type := 130, pos := "disk.go:84", after := #[{ on := 3, ground := Ground.data }], guard := none }) rfl (fun K hK => ?_) AllReadyH.nil
 rotate_left
 all_goals
  go_simp
  refine hK.out _ _ ⟨HS2.out, hvp⟩ (fun hHeld => ?_)
  clear hK K
  try simp only [Act.put, List.setIfInBounds_toArray, List.set_cons_zero, List.set_cons_succ]
  refine wpAnyH_ready (rs := [11]) (by kernel_rfl) (by simp) ?_
  refine AllReadyH.cons (o := { dst := some 38, op := Op.call { callee := Callee.builtin Builtin.append, args := #[Operand.tmp 31, Operand.tmp 37], argTypes := #[130, 130] }, type := 130, pos := "disk.go:84", after := #[{ on := 4, ground := Ground.data }, { on := 10, ground := Ground.data }], guard := none }) rfl (fun K hK => ?_) AllReadyH.nil
  refine Zdk _ (by rfl) _ _ 130 188 129 136 (by rfl) Zgl 0 (Zt ca m cc) m _ (by rfl) Q3'.out ⟨w3.heap.size, 0, none⟩ 1 1 wc (by rfl) h9l (fun j u hj => by rw [Addr.add_mid]; refine ((At.new w3 wc.toArray _).cell (0 + j)).trans ?_; simpa using hj) hwone (by unfold maxLen; omega) (by omega) (by omega) (by omega) ?_
  intro v5 w5 hown5 hloc5 hch5 hkeep5
  have hp5 : At w5 p #[Zt (some ⟨gl, 0, none⟩) n n, Zt ca m cc, .map (some gm), .bool d.failed] 132 := Q1'.out.mod hch5 (fun e => hpr p (hca ▸ e) rfl)
  have g1 : w5.cell? ⟨p, 1, none⟩ = some (Zt ca m cc) := hp5.cell 1
  have g1f := hp5.free 1
  have HP5 := hid hp5
  have HS3 : w5.rangeAt vb vo (ucells s) := fun j u hj => (hch5.cell (p := ⟨vb, vo + j, none⟩) (by show vb < (w3.alloc _).heap.size; omega) (fun e => hvr vb (hca ▸ e) rfl)).trans (HS2.out j u hj)
  have H5:=hid hown5
  obtain⟨va5,vc5,rfl⟩:=Zab hown5
  clear hown5 hp5
  have HS4:(w5.setCell ⟨p,1,none⟩ (Zt va5 (m+1) vc5)).rangeAt vb vo (ucells s):=fun j u hj=>(World.cell?_of_block (heap_setCell_other w5 ⟨p,1,none⟩ vb _ hvp)).trans (HS3 j u hj)
  refine hK.out _ _ ⟨HS3,hvp⟩ (fun hHeld=> ?_)
  clear hK K
  try simp only [Act.put,List.setIfInBounds_toArray,List.set_cons_zero,List.set_cons_succ]
  refine Zq (i:=12) (v:=(.pointer (some ⟨p,0,none⟩))) rfl (by kernel_rfl) (by kernel_rfl) (by kernel_rfl) (fun _ _ _ h=>h) (Or.inl ⟨by rfl,fun w hSw=>by go_simp⟩) hHeld ?_
  try simp only [Act.put,List.setIfInBounds_toArray]
  refine Zq (i:=13) (v:=(.pointer (some ⟨p,1,none⟩))) rfl (by kernel_rfl) (by kernel_rfl) (by kernel_rfl) (fun _ _ _ h=>h) (Or.inl ⟨by rfl,fun w hSw=>by go_simp⟩) hHeld ?_
  try simp only [Act.put]
  refine wpAnyH_ready (rs := [14]) (by kernel_rfl) (by simp) ?_
  refine AllReadyH.cons (o := { dst := none, op := Op.store 130 (Operand.tmp 40) (Operand.tmp 38), type := 0, pos := "disk.go:84", after := #[{ on := 13, ground := Ground.data }, { on := 11, ground := Ground.data }, { on := 11, ground := Ground.chain }, { on := 0, ground := Ground.phase }, { on := 1, ground := Ground.phase }, { on := 2, ground := Ground.phase }, { on := 3, ground := Ground.phase }, { on := 4, ground := Ground.phase }, { on := 5, ground := Ground.phase }, { on := 6, ground := Ground.phase }, { on := 7, ground := Ground.phase }, { on := 8, ground := Ground.phase }, { on := 9, ground := Ground.phase }, { on := 10, ground := Ground.phase }, { on := 11, ground := Ground.phase }], guard := none }) rfl (fun K hK => ?_) AllReadyH.nil
  go_simp
  refine hK.out _ _ ⟨HS4, hvp⟩ (fun hHeld => ?_)
  clear hK K
  try simp only [Act.put, List.setIfInBounds_toArray, List.set_cons_zero, List.set_cons_succ]
  refine wpAnyH_done (by kernel_rfl) ?_ _
  refine NoPanic.normal ?_
  go_wp2
  go_ret
  exact⟨rfl,HEND.out _ w3 w5 (.cells wc.toArray 188) (Zt va5 (m+1) vc5) HC2.out HC3.out HM3.out H5.out (by rw[hcv];exact hloc5) (by rw[hcv];exact hch5) (by rw[hcv];exact HP5.out)⟩
open Go.RowKit
def DiskNew(W:World)(T:Nat->Nat)(t p:Nat)(d':Dsk)(W':World):Prop:=
 ∃T',DiskAt W' T' t p d'/\(∀k,k<W.heap.size\/W'.heap.size≤k->T' k=T k)/\(∀k,T' k=T k\/T' k=t)/\Below W.heap.size W W'/\W.heap.size≤p
def freshDsk(n:Nat):Dsk:=⟨List.replicate n zsec,[],false⟩
theorem Zwp{w w1:World}(T:Nat->Nat)(t n:Nat)(hn:0<n)(hn2:n≤8192)(a1:At w1 w.heap.size (List.replicate (n*128) (.int .u8 0)).toArray 186)(b1:Below w.heap.size w w1):
  DiskNew w T t (w1.heap.size+1) (freshDsk n) ((w1.alloc (.map #[] 0)).alloc (.cells #[Zt (some ⟨w.heap.size,0,none⟩) n n,Zt none 0 0,.map (some w1.heap.size),.bool false] 132)):=by
 have z1:=a1.lt;have e2:(w1.alloc (.map #[] 0)).heap.size=w1.heap.size+1:=Zaa _ _;have e3:((w1.alloc (.map #[] 0)).alloc (.cells #[Zt (some ⟨w.heap.size,0,none⟩) n n,Zt none 0 0,.map (some w1.heap.size),.bool false] 132)).heap.size=w1.heap.size+2:=by rw[Zaa,e2]
 have hb:=((b1.alloc (by omega) (.map #[] 0)).alloc (by rw[e2];omega) (.cells #[Zt (some ⟨w.heap.size,0,none⟩) n n,Zt none 0 0,.map (some w1.heap.size),.bool false] 132));let T':Nat->Nat:=tagAt (tagAt (tagAt T w.heap.size t) w1.heap.size t) (w1.heap.size+1) t;have hT':∀k,T' k=if k=w1.heap.size+1\/k=w1.heap.size\/k=w.heap.size then t else T k:=by
  intro k;show tagAt _ _ _ _=_
  unfold tagAt;by_cases h1:k=w1.heap.size+1
  ·rw[Zf h1,Zf (.inl h1)]
  ·by_cases h2:k=w1.heap.size
   ·rw[Ze h1,Zf h2,Zf (.inr (.inl h2))]
   ·by_cases h3:k=w.heap.size
    ·rw[Ze h1,Ze h2,Zf h3,Zf (.inr (.inr h3))]
    ·rw[Ze h1,Ze h2,Ze h3,Ze (by omega)]
 refine⟨T',⟨⟨w.heap.size,w1.heap.size,Zt none 0 0,fun _=>none,?_,?_,World.ownsRow_nil _ _ _ _,?_,Seen.nil,by rw[hT',Zf (by omega)],by rw[hT',Zf (by omega)],fun g hg=>by simp[Value.ownBlock]at hg⟩,by rw[hT',Zf (by omega)],?_,fun x hx=>by simp[freshDsk]at hx,fun x hx=>by simp[freshDsk]at hx,by simp[freshDsk];exact hn2,by simp[freshDsk];exact hn⟩,?_,?_,hb,by omega⟩
 ·have:=At.new (w1.alloc (.map #[] 0)) #[Zt (some ⟨w.heap.size,0,none⟩) n n,Zt none 0 0,.map (some w1.heap.size),.bool false] 132
  rw[e2]at this;simpa [freshDsk]using this
 ·have:=(a1.alloc (.map #[] 0)).alloc (.cells #[Zt (some ⟨w.heap.size,0,none⟩) n n,Zt none 0 0,.map (some w1.heap.size),.bool false] 132)
  show At _ _ (secCells (List.replicate n zsec)).toArray _
  rw[Zc0];exact this
 ·exact(World.imap_made w1 Zw 3 3).mod ((Zl (fun _=>False) _).alloc _) (fun h=>h)
 ·intro s hs
  simp only [freshDsk,List.mem_replicate]at hs;rw[hs.2];rfl
 ·intro k hk
  rw[hT',Ze (by rw[e3]at hk;have:=b1.size;omega)]
 ·intro k
  rw[hT'];split
  ·exact .inr rfl
  ·exact .inl rfl
theorem Zoi(T:Nat->Nat)(t n:Nat)(w:World)(hn:0<n)(hn2:n≤8192):
  Calls Zw 37 #[.int .i64 n] w fun e w'=>∃p,e=.returned (.tuple #[.pointer (some ⟨p,0,none⟩),.int .u16 0])/\DiskNew w T t p (freshDsk n) w':=by
 have hmm:= @run_makeMap Zw;go_enter Tryz.func37,Tryz.ntmps37;go_wp2_with (refine Zaq rfl _ _ 128 186 128 128 rfl Zkt (.int .u8 0) Zoa _ _ _ _ n rfl rfl rfl rfl (by omega) (by unfold maxLen;omega) ?_;intro w1 a1 b1);go_ret2;exact⟨_,rfl,Zwp T t n hn hn2 a1 b1⟩
end Go.Proofs.YtmemlkmnhcealaaGreat
