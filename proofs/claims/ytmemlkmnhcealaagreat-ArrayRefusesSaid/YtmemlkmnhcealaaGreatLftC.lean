
/- A lift: a patch laid in. -/
import Derived.Test.YtmemlkmnhcealaaGreatMrg22
set_option linter.unusedVariables false
set_option maxRecDepth 100000
set_option maxHeartbeats 8000000
namespace Go.Proofs.YtmemlkmnhcealaaGreat
open Value renaming int→O,slice→Zt
open IntKind renaming i64→Z
open Go.Proofs.Tryz renaming prog→Zw
open Go.RowKit
open Lib(hid)
variable {x y:Int} {A:List PK} {B at' b bx hm lp n:Nat} {g:PK->Option Sec} {dv:PK->Value} {P:Program} {s:Sec} {α:Type} {e k:TypeId} {v va:Value} {w wx wy:World}
theorem Zh2{α β:Type}{f:α->β}:∀{l:List β} {X:List α},l.Perm (X.map f)->∃X':List α,X'.Perm X/\X'.map f=l
 | [],X,h=>⟨[],by
   have:=h.length_eq
   rw[Zp]at this
   rw[List.eq_nil_of_length_eq_zero (show X.length=0 by simpa using this.symm)],rfl⟩
 |b::l,X,h=>by
  have hb:b∈X.map f:=h.mem_iff.1 List.mem_cons_self;obtain⟨a,ha,rfl⟩:=List.mem_map.1 hb;obtain⟨s,t,rfl⟩:=List.append_of_mem ha;rw[List.map_append,List.map_cons]at h;have h2:l.Perm ((s++t).map f):=by
   rw[List.map_append];exact(List.perm_cons (f a)).1 (h.trans List.perm_middle)
  obtain⟨X',h3,h4⟩:=Zh2 h2;exact⟨a::X',(h3.cons a).trans List.perm_middle.symm,by rw[List.map_cons,h4]⟩
theorem Zrr{E:KeyEnc P k α}{f:α->Option Value}(hown:w.kmap E b n f)(t:TypeId)(ht:P.underlying t=some (.map k e))(z0:Value)(hz:(zeroValue e).run P w=.ok z0 w)(z:α):
  ∃v,(Instr.lookup t (.map (some b)) (E.enc z) true).run P w=.ok (.tuple #[v,.bool (f z).isSome]) w:=by
 obtain⟨D,h1,h2⟩:=hown;obtain⟨v,ps,hrun,-⟩:=h1.look_ok E.keyed ht hz (zd:=.held z0) (zp:= []) rfl (E.key z);rw[(h2 z).1]at hrun;exact⟨v,hrun⟩
theorem Zof{E:KeyEnc P k α}{f:α->Option Value}(hown:w.kmap E b n f)(t:TypeId)(ht:P.underlying t=some (.map k e))(z0:Value)(hz:(zeroValue e).run P w=.ok z0 w)(z:α)(y:Value)(hf:f z=some y):
  (Instr.lookup t (.map (some b)) (E.enc z) false).run P w=.ok y w:=by
 obtain⟨D,h1,h2⟩:=hown;have hz':(zeroValue e).run P w=.ok z0 w:=hz;obtain⟨v,ps,hrun,hv⟩:=h1.lookup E.keyed ht hz (zd:=.held z0) (zp:= []) rfl (E.key z);obtain⟨h3,h4⟩:=h2 z;simp only [rawElem,Zg,Prod.mk.injEq]at hv;obtain⟨hv,-⟩:=hv;rw[hf]at h3;have:=h4 y hf;rw[Go.atKey_zero h1.isMap h3 _ (.held undef),this]at hv;simp only [DataW.held.injEq]at hv;rw[hrun,hv]
theorem Zh7{B':Nat}{t:TypeId}{sz sz' m g:Nat}{u:Value}{xs ys:List Value}(h:w.ownsRow B e sz v n xs)(h':w.ownsRow B' t sz' u m ys)(hne:e≠t)(hu:u.ownBlock=some g):v.ownBlock≠some g:=by
 rcases h'.2 with ⟨rfl,_⟩|⟨g',cap,cur,rfl,_,hg,_⟩
 ·cases hu
 ·simp only [Value.ownBlock,Zg]at hu
  subst hu;intro hv;rcases h.2 with ⟨rfl,_⟩|⟨g2,cap2,cur2,rfl,_,hg2,_⟩
  ·cases hv
  ·simp only [Value.ownBlock,Zg]at hv
   subst hv;rw[hg]at hg2;simp only [Zg,Obj.cells.injEq]at hg2;exact hne hg2.2.1.symm
def laidIn(g:PK->Option Sec)(A:List PK)(k:PK):List PK:=if (g k).isSome=true then A else A++ [k]
structure PutMid (w wx:World) (B lp hm n:Nat) (g:PK->Option Sec) (dv:PK->Value) (va:Value) (A:List PK) (at' bx:Nat) (x y:Int) (v:Value) (s:Sec):Prop where
 box:At wx lp #[O Z 0,.map (some hm),va,Zt none 0 0] 316
 map:wx.kmap placeEnc hm n (fun i=>(g i).map fun _=>dv i)
 dat:∀i t,g i=some t->wx.ownsRow B 5 1 (dv i) 128 (ucells t)
 way:WayRow wx B va (A.map toPL)
 atc:At wx at' #[O Z x,O Z y] 318
 bxc:At wx bx #[O Z x,O Z y,v] 167
 seg:Seg wx v s
 bl:Below B w wx
 blo:B≤lp
 hlo:B≤hm
 sz:B≤wx.heap.size
 off:∀q,va.ownBlock=some q->q≠at'
 segB:∀a m c,v=Zt (some a) m c->a.block<B
theorem PutMid.below(h:PutMid w wx B lp hm n g dv va A at' bx x y v s)(hb:Below wx.heap.size wx wy):PutMid w wy B lp hm n g dv va A at' bx x y v s:=
 ⟨h.box.below hb h.box.lt,h.map.below hb,fun i t ht=>Zaf (h.dat i t ht) hb (Za _),Zaf h.way hb (Za _),h.atc.below hb h.atc.lt,h.bxc.below hb h.bxc.lt,h.seg.below hb,h.bl.trans (hb.mono h.sz),h.blo,h.hlo,Zc h.sz hb.size,h.off,h.segB⟩
theorem Zqk{w6:World}{v':Value}{k:PK}{L':List PL}(h:PutMid w wx B lp hm n g dv va A at' bx x y v s)(hh:HeapAt w6 B lp 2 ((#[O Z 0,.map (some hm),va,Zt none 0 0]:Array Value).setIfInBounds 2 v') 316 v' L')(hp:L'.Perm (A.map toPL++ [toPL k]))
  (hc:Chg (fun q=>q=lp\/va.ownBlock=some q) wx w6) (hv:∀q,v'.ownBlock=some q->va.ownBlock=some q\/wx.heap.size≤q):∃A',A'.Perm (A++ [k])/\PutMid w w6 B lp hm n g dv v' A' at' bx x y v s:=by
 obtain⟨A',h1,h2⟩:=Zh2 (f:=toPL) (l:=L') (X:=A++ [k]) (by rw[List.map_append];exact hp);refine⟨A',h1,⟨hh.box,h.map.mod hc ?_,fun i t ht=>Zad (h.dat i t ht) hc fun q hq e=> ?_,(by rw[h2];exact hh.row),h.atc.mod hc ?_,h.bxc.mod hc ?_,?_,?_,h.blo,h.hlo,hh.lo,fun q hq=> ?_,h.segB⟩⟩
 ·rintro (e|e)
  ·exact Zcv h.map h.box e
  ·exact Zch h.map h.way e
 ·rcases e with e|e
  ·exact Za4 (h.dat i t ht) h.box (by decide) (by rw[hq,e])
  ·exact Zh7 (h.dat i t ht) h.way (by decide) e hq
 ·rintro (e|e)
  ·exact Zaw h.atc h.box (by decide) e
  ·exact h.off _ e rfl
 ·rintro (e|e)
  ·exact Zaw h.bxc h.box (by decide) e
  ·exact Za4 h.way h.bxc (by decide) e
 ·obtain⟨a,cap,hva,hn',hh'⟩:=h.seg
  subst hva;refine⟨a,cap,rfl,hn',?_⟩;rcases hh' with hh'|⟨b,off,ha,hlt,hx⟩
  ·exact .inl hh'
  ·refine .inr ⟨b,off,ha,Zd hlt hc.size,fun j hj=> ?_⟩
   rw[<-hx j hj];refine hc.cell (p:=⟨b,off+j,none⟩) hlt ?_;subst ha;have hb:=h.segB _ _ _ rfl;rintro (e|e)
   ·have:=h.blo
    simp only at e hb;omega
   ·have:=(h.way.lt _ e).1
    simp only at this hb;omega
 ·exact Zcb h.bl h.sz hc (fun q hq=>hq.elim (fun e=>by rw[e];exact h.blo) (fun e=>(h.way.lt q e).1))
 ·rcases hv q hq with e|e
  ·exact h.off q e
  ·have:=h.atc.lt;omega
theorem Zsg{wz:World}{uv:Value}{k:PK}(h:PutMid w wy B lp hm n g dv va A at' bx x y v s)(hb:Below wx.heap.size wx wy)(hx:B≤wx.heap.size)(hu:wy.ownsRow wx.heap.size 5 1 uv 128 (ucells s))
  (hz:wz.kmap placeEnc hm (n+1) (fun i=>if i=k then some uv else (g i).map fun _=>dv i)) (hc:Chg (fun q=>q=hm) wy wz) (hnd:A.Nodup) (hhas:∀i,i∈A↔i=k\/(g i).isSome=true) (hn:n+1≤90000) (hl:A.length≤n+1):
  LiftAt wz B lp 0 hm (n+1) (fun i=>if i=k then some s else g i) (fun i=>if i=k then uv else dv i) va A/\At wz at' #[O Z x,O Z y] 318/\At wz bx #[O Z x,O Z y,v] 167/\Below B w wz:=by
 refine⟨⟨h.box.mod hc (fun e=>Zcv h.map h.box e.symm),?_,fun i t ht=> ?_,Zad h.way hc (fun q hq e=>Zch h.map h.way (by rw[hq,e])),fun i=> ?_,hnd,hn,hl,h.blo,h.hlo⟩,h.atc.mod hc (fun e=>Zcv h.map h.atc e.symm),h.bxc.mod hc (fun e=>Zcv h.map h.bxc e.symm),?_⟩
 ·have e:(fun i:PK=>if i=k then some uv else (g i).map fun _=>dv i)=fun i=>(if i=k then some s else g i).map fun _=>if i=k then uv else dv i:=by
   funext i;by_cases hi:i=k
   ·simp[hi]
   ·simp[hi]
  rw[<-e];exact hz
 ·by_cases hi:i=k
  ·simp only [hi,Zf,Zg]at ht ⊢
   subst ht;exact Zad (Zan hu hx) hc (fun q hq e=>Zch h.map hu (by rw[hq,e]))
  ·simp only [hi,if_false]at ht ⊢
   exact Zad (h.dat i t ht) hc (fun q hq e=>Zch h.map (h.dat i t ht) (by rw[hq,e]))
 ·rw[hhas]
  by_cases hi:i=k
  ·simp[hi]
  ·simp[hi]
 ·exact Zcb h.bl h.sz hc (fun q hq=>by rw[hq];exact h.hlo)
theorem Zvk(lp:Nat)(w:World):Calls Zw 227 #[.pointer (some ⟨lp,0,none⟩)] w fun e w'=>e=.returned (.pointer (some ⟨lp,2,none⟩))/\w'=w:=by
 go_enter Tryz.func227,Tryz.ntmps227;go_wp2;go_ret;exact⟨rfl,rfl⟩
def boolEnc:KeyEnc Zw 4 Bool where
 enc b:=.bool b
 kl b:=.bool b
 key b:=Go.Maps.keyOf_bool_mk Tryz.underlying4 b
 inj a b h:=by simpa using h
 keyed:=Go.Maps.bool_keyed Tryz.underlying4
theorem Zun(h:LiftAt w B lp 0 hm n g dv va A)(hB:B≤w.heap.size)(k:PK)(v:Value)(s:Sec)(hs:Seg w v s)(hsB:∀a m c,v=Zt (some a) m c->a.block<B)(hl:s.length=128)(hn:n<90000):
  Calls Zw 152 #[.pointer (some ⟨lp,0,none⟩),.agg #[O Z k.1.val,O Z k.2.val,v]] w fun e w'=>e=.returned (.int .u16 0)/\∃dv' va' A',LiftAt w' B lp 0 hm (n+1) (fun i=>if i=k then some s else g i) dv' va' A'/\A'.Perm (laidIn g A k)/\Below B w w':=by
 obtain⟨sa,sc,rfl⟩:=hs.shape;rw[hl];have hx1:(k.1.val:Int)≤15:=by have:=k.1.isLt;omega
 have hy1:(k.2.val:Int)≤4095:=by have:=k.2.isLt;omega
 have HK:Hid (toPL k=((k.1.val:Int),(k.2.val:Int))):=rfl
 have hbw:Below w.heap.size w ((w.alloc (.cells #[O Z k.1.val,O Z k.2.val,Zt sa 128 sc] 167)).alloc (.cells #[O Z k.1.val,O Z k.2.val] 318)):=((Zb _ _).alloc (Za _) _).alloc (by rw[Zaa];omega) _;have HX0:Hid (PutMid w ((w.alloc (.cells #[O Z k.1.val,O Z k.2.val,Zt sa 128 sc] 167)).alloc (.cells #[O Z k.1.val,O Z k.2.val] 318)) B lp hm n g dv va A (w.heap.size+1) w.heap.size k.1.val k.2.val (Zt sa 128 sc) s):=by
  refine⟨h.box.below hbw h.box.lt,h.map.below hbw,fun i t ht=>Zaf (h.dat i t ht) hbw (Za _),Zaf h.way hbw (Za _),?_,(At.new _ _ _).alloc _,?_,hbw.mono hB,h.blo,h.hlo,Zc hB hbw.size,fun q hq=>by have:=(h.way.lt q hq).2;omega,fun a m c e=>hsB a m c (by rw[hl];exact e)⟩
  ·rw[<-Zaa w (.cells #[O Z k.1.val,O Z k.2.val,Zt sa 128 sc] 167)]
   exact At.new _ _ _
  ·have:=hs.below hbw
   rw[hl]at this;exact this
 have HCLO:Hid (∀W,Seg W (Zt sa 128 sc) s->Calls Zw 98 #[Zt sa 128 sc] W fun e w'=>∃v',e=.returned v'/\w'.ownsRow W.heap.size 5 1 v' 128 (ucells s)/\Below W.heap.size W w'):=fun W hW=>by
  have hsa:∃ad,sa=some ad:=by
   obtain⟨a,cap,hv,hn,hh⟩:=hW;rcases hh with hh|⟨b,off,ha,-⟩
   ·subst hh;simp at hl
   ·simp only [Zn]at hv
    exact⟨_,hv.1.trans ha⟩
  obtain⟨ad,rfl⟩:=hsa;have:=Zcw ad sc s W (by omega) (by rw[hl];exact hW);rw[hl]at this;exact this
 clear hsB;have HHAS:=hid h.has;have HND:=hid h.nd;have HLF:=hid h.lfew;have hlt:=h.box.lt;have e1:(w.alloc (.cells #[.int .i64 k.1.val,.int .i64 k.2.val,.slice sa 128 sc] 167)).heap.size=w.heap.size+1:=Zaa _ _;clear h hs hbw;go_enter Tryz.func152,Tryz.ntmps152;go_wp2;generalize ((w.alloc (.cells #[.int .i64 k.1.val,.int .i64 k.2.val,.slice sa 128 sc] 167)).alloc (.cells #[.int .i64 k.1.val,.int .i64 k.2.val] 318))=w1 at*;generalize w.heap.size+1=at' at*;generalize hbx:w.heap.size=bx at*;obtain⟨vz,hlk⟩:=Zrr (show w1.drew.kmap placeEnc hm n _ from HX0.out.map) 312 Tryz.underlying312 (.slice none 0 0) (by kernel_rfl) k;have hlk':(Instr.lookup 312 (.map (some hm)) (.agg #[.int .i64 (k.1.val:Int),.int .i64 (k.2.val:Int)]) true).run Zw w1.drew=.ok (.tuple #[vz,.bool (g k).isSome]) w1.drew:=by
  have e:((g k).map fun _=>dv k).isSome=(g k).isSome:=by cases g k<;>rfl
  rw[<-e];exact hlk
 have HLK:=hid hlk';clear hlk hlk';have HGK:Hid (∃b,(g k).isSome=b):=⟨_,rfl⟩;obtain⟨b,hb⟩:=HGK.out;have HGB:=hid hb;rw[hb]at HLK;clear hb HGK;have HS1:Hid (w1.drew.cell? ⟨lp,1,none⟩=some (.map (some hm))/\w1.drew.cell? ⟨at',0,none⟩=some (O Z (k.1.val:Int))/\w1.drew.cell? ⟨at',1,none⟩=some (O Z (k.2.val:Int))):=⟨HX0.out.box.cell 1,HX0.out.atc.cell 0,HX0.out.atc.cell 1⟩;go_region_held3 (fun W=>W.cell? ⟨lp,1,none⟩=some (.map (some hm))/\W.cell? ⟨at',0,none⟩=some (O Z (k.1.val:Int))/\W.cell? ⟨at',1,none⟩=some (O Z (k.2.val:Int))/\(Instr.lookup 312 (.map (some hm)) (.agg #[O Z (k.1.val:Int),O Z (k.2.val:Int)]) true).run Zw W=.ok (.tuple #[vz,.bool b]) W)
  (first|exact⟨HS1.out.1,HS1.out.2.1,HS1.out.2.2,HLK.out⟩)
  (first|fail)
 have HX:Hid (PutMid w w1.drew B lp hm n g dv va A at' bx (k.1.val:Int) (k.2.val:Int) (Zt sa 128 sc) s):=HX0.out.below (Zb _ _).drew;clear HX0 HS1 HLK;rename_i hHeld;clear hHeld;generalize w1.drew=wx at*;cases b
 ·have hmm:= @run_makeMap Zw
  have hy0:(0:Int)≤(k.2.val:Int):=by omega
  go_wp2_with (first
   |(refine Zc7 rfl _ _ _ 321 rfl Tryz.underlying321 rfl (World.kmap_made wx boolEnc) (by unfold maxLen;omega) true (.func (.func 227) #[] #[]) rfl rfl ?_;intro w4 hm4 hc4)
   |(refine Zc7 rfl _ _ _ 321 rfl Tryz.underlying321 rfl hm4 (by unfold maxLen;omega) false (.func (.func 228) #[] #[]) rfl rfl ?_;intro w5 hm5 hc5))
  have hb5:Below wx.heap.size wx w5:=Zcb (Zcb ((Zb wx.heap.size wx).alloc (Za _) (.map #[] 0)) (by rw[Zaa];omega) hc4 (fun q hq=>by rw[hq];exact Za _)) (by have:=hc4.size;rw[Zaa]at this;omega) hc5 (fun q hq=>by rw[hq];exact Za _);have HX5:=hid (HX.out.below hb5);have HM5:=hid hm5;have hmlt:wx.heap.size<w5.heap.size:=hm5.lt;have HMX:Hid (∀W,W.kmap boolEnc wx.heap.size 2 (fun i=>if i=false then some (.func (.func 228) #[] #[])else if i=true then some (.func (.func 227) #[] #[])else none)->(Instr.lookup 321 (.map (some wx.heap.size)) (.bool true) false).run Zw W=.ok (.func (.func 227) #[] #[]) W):=fun W hW=>
   Zof hW 321 Tryz.underlying321 .nilFunc (by kernel_rfl) true _ rfl
  have hmb:lp<wx.heap.size:=HX.out.box.lt;clear hm4 hc4 hm5 hc5 hb5 hmm;generalize wx.heap.size=mb at*;have HSA:Hid (∀W,Below w5.heap.size w5 W->W.cell? ⟨bx,1,none⟩=some (O Z (k.2.val:Int))/\W.cell? ⟨lp,0,none⟩=some (O Z 0)/\W.cell? ⟨at',0,none⟩=some (O Z (k.1.val:Int))/\W.cell? ⟨at',1,none⟩=some (O Z (k.2.val:Int))/\(Instr.lookup 321 (.map (some mb)) (.bool true) false).run Zw W=.ok (.func (.func 227) #[] #[]) W):=fun W hb=>⟨(HX5.out.below hb).bxc.cell 1,(HX5.out.below hb).box.cell 0,(HX5.out.below hb).atc.cell 0,(HX5.out.below hb).atc.cell 1,HMX.out W (HM5.out.below hb)⟩
  have HHP:Hid (HeapAt w5 B lp 2 #[O Z 0,.map (some hm),va,Zt none 0 0] 316 va (A.map toPL)):=⟨HX5.out.way,HX5.out.box,rfl,by decide,by have:=HLF.out;rw[Zp];omega,HX5.out.sz⟩;have HPU:=hid (Zsi va (A.map toPL) B lp 2 (k.1.val:Int) (k.2.val:Int) w5.drew (HHP.out.below (Zb _ _).drew) (by have:=HLF.out;rw[Zp];omega) (by show 2<4;omega));clear HHP;go_region_held3 (fun W=>W.cell? ⟨bx,1,none⟩=some (O Z (k.2.val:Int))/\W.cell? ⟨lp,0,none⟩=some (O Z 0)/\W.cell? ⟨at',0,none⟩=some (O Z (k.1.val:Int))/\W.cell? ⟨at',1,none⟩=some (O Z (k.2.val:Int))/\(Instr.lookup 321 (.map (some mb)) (.bool true) false).run Zw W=.ok (.func (.func 227) #[] #[]) W)
   (first|exact HSA.out _ (Zb _ _)|exact HSA.out _ (Zb _ _).drew|exact HSB)
   (first
    |(go_at_call 227;(with_reducible refine(Zvk lp _).mono ?_);rintro e w6 ⟨rfl,rfl⟩)
    |(go_at_call 229;(with_reducible refine HPU.out.mono ?_);rintro e w7 ⟨rfl,v7,L7,hp7,hh7,hc7,hv7⟩;have HMD:=hid (Zqk (k:=k) (HX5.out.below (Zb _ _).drew) hh7 hp7 hc7 hv7);have HM7:Hid (w7.kmap boolEnc mb 2 (fun i=>if i=false then some (.func (.func 228) #[] #[])else if i=true then some (.func (.func 227) #[] #[])else none)):=(HM5.out.below (Zb _ _).drew).mod hc7 (fun e=>e.elim (fun e=>by omega) (fun e=>Zch HM5.out HX5.out.way e));obtain⟨A7,ha7,hx7⟩:=HMD.out;have HX7:=hid hx7;have HA7:=hid ha7;have HSB:(w7.cell? ⟨bx,1,none⟩=some (O Z (k.2.val:Int))/\w7.cell? ⟨lp,0,none⟩=some (O Z 0)/\w7.cell? ⟨at',0,none⟩=some (O Z (k.1.val:Int))/\w7.cell? ⟨at',1,none⟩=some (O Z (k.2.val:Int))/\(Instr.lookup 321 (.map (some mb)) (.bool true) false).run Zw w7=.ok (.func (.func 227) #[] #[]) w7):=⟨hx7.bxc.cell 1,hx7.box.cell 0,hx7.atc.cell 0,hx7.atc.cell 1,HMX.out w7 HM7.out⟩;clear hp7 hh7 hc7 hv7 hx7 ha7 HMD))
  have HAP:Hid (A7.Perm (laidIn g A k)):=by
   show List.Perm A7 _
   unfold laidIn;rw[Ze (by rw[HGB.out];simp)];exact HA7.out
  have hkA:k∉A:=fun e=>by
   have:=(HHAS.out k).1 e;rw[HGB.out]at this;cases this
  have HND':Hid A7.Nodup:=by
   show List.Nodup A7
   rw[HA7.out.nodup_iff,List.nodup_append]
   exact⟨HND.out,by simp,fun a ha b hb=>by
    simp only [List.mem_singleton]at hb
    rw[hb]
    exact fun e=>hkA (e ▸ ha)⟩
  have HHAS':Hid (∀i,i∈A7↔i=k\/(g i).isSome=true):=fun i=>by
   rw[HA7.out.mem_iff,List.mem_append,HHAS.out i,List.mem_singleton];exact Or.comm
  have HLF':Hid (A7.length≤n+1):=by
   show A7.length≤n+1
   rw[HA7.out.length_eq,Zo];have:=HLF.out;simp;exact this
  clear HHAS HND HLF HX HX5 HSA HPU HM5 HMX HM7 HSB hkA;have HX:=HX7;have HLM:Hid (∀W,Below w7.heap.size w7 W->PutMid w W B lp hm n g dv v7 A7 at' bx (k.1.val:Int) (k.2.val:Int) (Zt sa 128 sc) s):=fun W hb=>HX.out.below hb
  have HS0:Hid (∀W,Below w7.heap.size w7 W->W.cell? ⟨lp,1,none⟩=some (.map (some hm))/\W.cell? ⟨at',0,none⟩=some (O Z (k.1.val:Int))/\W.cell? ⟨at',1,none⟩=some (O Z (k.2.val:Int))/\W.cell? ⟨bx,2,none⟩=some (Zt sa 128 sc)):=fun W hb=>⟨(HLM.out W hb).box.cell 1,(HLM.out W hb).atc.cell 0,(HLM.out W hb).atc.cell 1,(HLM.out W hb).bxc.cell 2⟩
  have HCL:Hid (∀W,Below w7.heap.size w7 W->Calls Zw 98 #[Zt sa 128 sc] W fun e w'=>∃v',e=.returned v'/\w'.ownsRow W.heap.size 5 1 v' 128 (ucells s)/\Below W.heap.size W w'):=fun W hb=>(HCLO.out W (HLM.out W hb).seg)
  go_wp2;go_region_held3 (fun W=>W.cell? ⟨lp,1,none⟩=some (.map (some hm))/\W.cell? ⟨at',0,none⟩=some (O Z (k.1.val:Int))/\W.cell? ⟨at',1,none⟩=some (O Z (k.2.val:Int))/\W.cell? ⟨bx,2,none⟩=some (Zt sa 128 sc))
   (first|exact HS0.out _ (Zb _ _)|exact HS0.out _ (Zb _ _).drew|exact HS0.out _ HBY.out|exact HSZ)
   (first
    |(go_at_call 98;(with_reducible refine(HCL.out _ (Zb _ _).drew).mono ?_);rintro e wy ⟨uv,rfl,hu,hby⟩;have HBY:Hid (Below w7.heap.size w7 wy):=(Zb _ _).drew.trans hby;have HU:=hid hu;obtain⟨ua,uc,rfl⟩:=Zab hu;obtain⟨wz,hrun,hz,hcz⟩:=World.kmap.store (HLM.out _ HBY.out).map (t:=312) Tryz.underlying312 (by unfold maxLen;omega) k (.slice ua 128 uc);have hrun':(Instr.mapUpdate 312 (.map (some hm)) (.agg #[.int .i64 (k.1.val:Int),.int .i64 (k.2.val:Int)]) (.slice ua 128 uc)).run Zw wy=.ok () wz:=hrun;have HZ:=hid (Zsg (HLM.out _ HBY.out) HBY.out HX.out.sz HU.out hz hcz HND'.out HHAS'.out hn HLF'.out);have HSZ:wz.cell? ⟨lp,1,none⟩=some (.map (some hm))/\wz.cell? ⟨at',0,none⟩=some (.int .i64 (k.1.val:Int))/\wz.cell? ⟨at',1,none⟩=some (.int .i64 (k.2.val:Int))/\wz.cell? ⟨bx,2,none⟩=some (.slice sa 128 sc):=⟨HZ.out.1.box.cell 1,HZ.out.2.1.cell 0,HZ.out.2.1.cell 1,HZ.out.2.2.1.cell 2⟩;clear hz hcz hrun hu hby))
  go_wp2;go_ret;exact⟨rfl,_,v7,A7,HZ.out.1,HAP.out,HZ.out.2.2.2⟩
 ·have HAP:Hid (A.Perm (laidIn g A k)):=by
   show A.Perm _
   unfold laidIn;rw[Zf HGB.out]
  have HND':Hid A.Nodup:=HND;have HHAS':Hid (∀i,i∈A↔i=k\/(g i).isSome=true):=fun i=>by
   rw[HHAS.out i];constructor
   ·exact .inr
   ·rintro (rfl|e)
    ·exact HGB.out
    ·exact e
  have HLF':Hid (A.length≤n+1):=Nat.le_succ_of_le HLF.out;have HLM:Hid (∀W,Below wx.heap.size wx W->PutMid w W B lp hm n g dv va A at' bx (k.1.val:Int) (k.2.val:Int) (Zt sa 128 sc) s):=fun W hb=>HX.out.below hb
  have HS0:Hid (∀W,Below wx.heap.size wx W->W.cell? ⟨lp,1,none⟩=some (.map (some hm))/\W.cell? ⟨at',0,none⟩=some (O Z (k.1.val:Int))/\W.cell? ⟨at',1,none⟩=some (O Z (k.2.val:Int))/\W.cell? ⟨bx,2,none⟩=some (Zt sa 128 sc)):=fun W hb=>⟨(HLM.out W hb).box.cell 1,(HLM.out W hb).atc.cell 0,(HLM.out W hb).atc.cell 1,(HLM.out W hb).bxc.cell 2⟩
  have HCL:Hid (∀W,Below wx.heap.size wx W->Calls Zw 98 #[Zt sa 128 sc] W fun e w'=>∃v',e=.returned v'/\w'.ownsRow W.heap.size 5 1 v' 128 (ucells s)/\Below W.heap.size W w'):=fun W hb=>(HCLO.out W (HLM.out W hb).seg)
  go_wp2;go_region_held3 (fun W=>W.cell? ⟨lp,1,none⟩=some (.map (some hm))/\W.cell? ⟨at',0,none⟩=some (O Z (k.1.val:Int))/\W.cell? ⟨at',1,none⟩=some (O Z (k.2.val:Int))/\W.cell? ⟨bx,2,none⟩=some (Zt sa 128 sc))
   (first|exact HS0.out _ (Zb _ _)|exact HS0.out _ (Zb _ _).drew|exact HS0.out _ HBY.out|exact HSZ)
   (first
    |(go_at_call 98;(with_reducible refine(HCL.out _ (Zb _ _).drew).mono ?_);rintro e wy ⟨uv,rfl,hu,hby⟩;have HBY:Hid (Below wx.heap.size wx wy):=(Zb _ _).drew.trans hby;have HU:=hid hu;obtain⟨ua,uc,rfl⟩:=Zab hu;obtain⟨wz,hrun,hz,hcz⟩:=World.kmap.store (HLM.out _ HBY.out).map (t:=312) Tryz.underlying312 (by unfold maxLen;omega) k (.slice ua 128 uc);have hrun':(Instr.mapUpdate 312 (.map (some hm)) (.agg #[.int .i64 (k.1.val:Int),.int .i64 (k.2.val:Int)]) (.slice ua 128 uc)).run Zw wy=.ok () wz:=hrun;have HZ:=hid (Zsg (HLM.out _ HBY.out) HBY.out HX.out.sz HU.out hz hcz HND'.out HHAS'.out hn HLF'.out);have HSZ:wz.cell? ⟨lp,1,none⟩=some (.map (some hm))/\wz.cell? ⟨at',0,none⟩=some (.int .i64 (k.1.val:Int))/\wz.cell? ⟨at',1,none⟩=some (.int .i64 (k.2.val:Int))/\wz.cell? ⟨bx,2,none⟩=some (.slice sa 128 sc):=⟨HZ.out.1.box.cell 1,HZ.out.2.1.cell 0,HZ.out.2.1.cell 1,HZ.out.2.2.1.cell 2⟩;clear hz hcz hrun hu hby))
  go_wp2;go_ret;exact⟨rfl,_,va,A,HZ.out.1,HAP.out,HZ.out.2.2.2⟩
end Go.Proofs.YtmemlkmnhcealaaGreat
