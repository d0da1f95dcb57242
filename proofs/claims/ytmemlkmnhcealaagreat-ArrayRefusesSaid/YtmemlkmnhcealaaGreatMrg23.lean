
/- Several texts in one: LftD, RwH. -/
import Derived.Test.YtmemlkmnhcealaaGreatLftC
set_option linter.unusedVariables false
set_option maxRecDepth 100000
set_option maxHeartbeats 8000000
namespace Go.Proofs.YtmemlkmnhcealaaGreat
open Value renaming int→O,slice→Zt
open IntKind renaming i64→Z
open Go.RowKit
open Lib(hid)
variable {s s':BaySt} {row:Int} {A:List PK} {B hm lp n rb:Nat} {g:PK->Option Sec} {dv:PK->Value} {R:RS} {va va0:Value} {w wx wy:World}
theorem Zih{P:Program}{k e:TypeId}{α:Type}{E:KeyEnc P k α}[DecidableEq α]{b:Nat}{f:α->Option Value}{o:Oper}{a:Act}{K:Act->World->Prop}{Q:Exit->Act->World->Prop}(m x:Operand)(t:TypeId)(hop:o.op=Op.call {callee:=Callee.builtin Builtin.delete,args:= #[m,x],argTypes:= #[t,k]})(ht:P.underlying t=some (.map k e))
  (hm:a.eval m=.map (some b)) (hown:w.kmap E b n f) (z:α) (hx:a.eval x=E.enc z)
  (hK:∀w',w'.kmap E b n (fun i=>if i=z then none else f i)->Chg (fun x=>x=b) w w'->K (a.put o.dst (.tuple #[])) w'):o.wp P a w K Q:=by
 obtain⟨D,h1,h2⟩:=hown;obtain⟨w',hrun,h3,h4⟩:=h1.drop E.keyed ht (E.key z) o.type;unfold Oper.wp;simp[execOp,hop,resolve,invoke,builtin,hm,hx,hrun,Result.andThen];refine hK w' ⟨_,h3,fun i=> ?_⟩ (Go.mapTurned_chg h4);by_cases hiz:i=z
 ·subst hiz
  simp only [Zf];exact⟨Go.Maps.has_del_same,fun v hv=>by cases hv⟩
 ·simp only [Ze hiz]
  have hne:E.kl i≠E.kl z:=fun h=>hiz (E.lit h)
  obtain⟨k1,k2⟩:=h2 i;exact⟨(Go.Maps.has_del_other hne).trans k1,fun v hv=>(Go.Maps.atKey_del_other hne _).trans (k2 v hv)⟩
theorem Zir(h:LiftAt w B lp row hm n g dv va [])(hB:B≤w.heap.size):
  Calls Tryz.prog 153 #[.pointer (some ⟨lp,0,none⟩)] w fun e w'=>e=.returned (.tuple #[.agg #[O Z 0,O Z 0,Zt none 0 0],.bool false])/\Chg (fun q=>q=lp) w w':=by
 obtain⟨a,c,hv⟩:=Zab h.way;have hbx:=h.box;rw[hv]at hbx;have c2:=hbx.cell 2;have c3:=hbx.cell 3;have f2:=hbx.free 2;have f3:=hbx.free 3;have hlt:=hbx.lt;have hblo:=h.blo;simp only [List.map_nil,List.length_nil]at c2;clear h hbx hv;go_enter Tryz.func153,Tryz.ntmps153;go_wp2;have hb:Chg (fun q=>q=lp) w (((w.setCell ⟨lp,2,none⟩ (Zt none 0 0)).setCell ⟨lp,3,none⟩ (Zt none 0 0)).alloc (.cells #[O Z 0,O Z 0,Zt none 0 0] 167)):=
  (Zk (S:=fun q=>q=lp) (Zk (S:=fun q=>q=lp) (Zl _ _) ⟨lp,2,none⟩ (.inl rfl) _) ⟨lp,3,none⟩ (.inl rfl) _).alloc _
 have hn:=At.new ((w.setCell ⟨lp,2,none⟩ (Zt none 0 0)).setCell ⟨lp,3,none⟩ (Zt none 0 0)) #[O Z 0,O Z 0,Zt none 0 0] 167;have hsz:((w.setCell ⟨lp,2,none⟩ (Zt none 0 0)).setCell ⟨lp,3,none⟩ (Zt none 0 0)).heap.size=w.heap.size:=by rw[Za6,Za6]
 rw[hsz]at hn;have r0:=hn.cell 0;have r1:=hn.cell 1;have r2:=hn.cell 2;(try simp only [Exit.inBlock,Exit.then]);refine bodyPost_ret (v:=.tuple #[.agg #[O Z 0,O Z 0,Zt none 0 0],.bool false]) ?_ rfl ⟨rfl,hb⟩;rw[results_cell_tmp rfl];go_simp;try rfl
def liftS(lp hm:Nat)(va:Value)(q:Nat):Prop:=q=lp\/q=hm\/va.ownBlock=some q
structure NextMid (va0:Value) (w wx:World) (B lp:Nat) (row:Int) (hm n:Nat) (g:PK->Option Sec) (dv:PK->Value) (va:Value) (A:List PK) (rb:Nat):Prop where
 box:At wx lp #[O Z row,.map (some hm),va,Zt none 0 0] 316
 map:wx.kmap placeEnc hm n (fun i=>(g i).map fun _=>dv i)
 dat:∀i t,g i=some t->wx.ownsRow B 5 1 (dv i) 128 (ucells t)
 way:WayRow wx B va (A.map toPL)
 res:At wx rb #[O Z 0,O Z 0,Zt none 0 0] 167
 bl:Below B w wx
 blo:B≤lp
 hlo:B≤hm
 sz:B≤wx.heap.size
 chg:Chg (liftS lp hm va0) w wx
theorem NextMid.below(h:NextMid va0 w wx B lp row hm n g dv va A rb)(hb:Below wx.heap.size wx wy):NextMid va0 w wy B lp row hm n g dv va A rb:=
 ⟨h.box.below hb h.box.lt,h.map.below hb,fun i t ht=>Zaf (h.dat i t ht) hb (Za _),Zaf h.way hb (Za _),h.res.below hb h.res.lt,h.bl.trans (hb.mono h.sz),h.blo,h.hlo,Zc h.sz hb.size,h.chg.trans (Zm hb _)⟩
theorem Zmy{w6:World}{v':Value}{L':List PL}{x y:Int}(h:NextMid va0 w wx B lp row hm n g dv va A rb)(hva:va0=va)(hh:HeapAt w6 B lp 2 ((#[O Z row,.map (some hm),va,Zt none 0 0]:Array Value).setIfInBounds 2 v') 316 v' L')(hp:((x,y)::L').Perm (A.map toPL))
  (hc:Chg (fun q=>q=lp\/va.ownBlock=some q) wx w6):∃k A',x=(k.1.val:Int)/\y=(k.2.val:Int)/\(k::A').Perm A/\NextMid va0 w w6 B lp row hm n g dv v' A' rb:=by
 obtain⟨X,h1,h2⟩:=Zh2 (f:=toPL) (l:=(x,y)::L') (X:=A) hp;match X,h2 with
 |k::A',h2=>
  simp only [List.map_cons,List.cons.injEq]at h2;obtain⟨h2,h3⟩:=h2;have hx:x=(k.1.val:Int):=(congrArg Prod.fst h2).symm;have hy:y=(k.2.val:Int):=(congrArg Prod.snd h2).symm;refine⟨k,A',hx,hy,h1,⟨hh.box,h.map.mod hc ?_,fun i t ht=>Zad (h.dat i t ht) hc fun q hq e=> ?_,(by rw[h3];exact hh.row),h.res.mod hc ?_,?_,h.blo,h.hlo,hh.lo,h.chg.trans (hc.mono fun q hq=>hq.elim .inl (fun e=>.inr (.inr (by rw[hva];exact e))))⟩⟩
  ·rintro (e|e)
   ·exact Zcv h.map h.box e
   ·exact Zch h.map h.way e
  ·rcases e with e|e
   ·exact Za4 (h.dat i t ht) h.box (by decide) (by rw[hq,e])
   ·exact Zh7 (h.dat i t ht) h.way (by decide) e hq
  ·rintro (e|e)
   ·exact Zaw h.res h.box (by decide) e
   ·exact Za4 h.way h.res (by decide) e
  ·exact Zcb h.bl h.sz hc (fun q hq=>hq.elim (fun e=>by rw[e];exact h.blo) (fun e=>(h.way.lt q e).1))
theorem Zt1{wz:World}{A0:List PK}{k:PK}(h:NextMid va0 w wy B lp row hm n g dv va A rb)(hz:wz.kmap placeEnc hm n (fun i=>if i=k then none else (g i).map fun _=>dv i))(hc:Chg (fun q=>q=hm) wy wz)
  (hp:(k::A).Perm A0) (hnd:A0.Nodup) (hhas:∀i,i∈A0↔(g i).isSome=true) (hn:n≤90000) (hl:A0.length≤n) (s:Sec) (hs:g k=some s):
  LiftAt wz B lp row hm n (fun i=>if i=k then none else g i) dv va A/\At wz rb #[O Z 0,O Z 0,Zt none 0 0] 167/\wz.ownsRow B 5 1 (dv k) 128 (ucells s)/\Below B w wz/\Chg (liftS lp hm va0) w wz:=by
 have hnd2:=hp.nodup_iff.2 hnd;rw[List.nodup_cons]at hnd2;refine⟨⟨h.box.mod hc (fun e=>Zcv h.map h.box e.symm),?_,fun i t ht=> ?_,Zad h.way hc (fun q hq e=>Zch h.map h.way (by rw[hq,e])),fun i=> ?_,hnd2.2,hn,?_,h.blo,h.hlo⟩,h.res.mod hc (fun e=>Zcv h.map h.res e.symm),Zad (h.dat k s hs) hc (fun q hq e=>Zch h.map (h.dat k s hs) (by rw[hq,e])),?_,h.chg.trans (hc.mono fun q hq=>.inr (.inl hq))⟩
 ·have e:(fun i:PK=>if i=k then none else (g i).map fun _=>dv i)=fun i=>(if i=k then none else g i).map fun _=>dv i:=by
   funext i;by_cases hi:i=k
   ·simp[hi]
   ·simp[hi]
  rw[<-e];exact hz
 ·by_cases hi:i=k
  ·simp[hi]at ht
  ·simp only [hi,if_false]at ht
   exact Zad (h.dat i t ht) hc (fun q hq e=>Zch h.map (h.dat i t ht) (by rw[hq,e]))
 ·have:=hhas i
  rw[<-hp.mem_iff,List.mem_cons]at this;by_cases hi:i=k
  ·subst hi
   simp[hnd2.1]
  ·simp only [hi,false_or,if_false]at this ⊢
   exact this
 ·have:=hp.length_eq
  simp at this;omega
 ·exact Zcb h.bl h.sz hc (fun q hq=>by rw[hq];exact h.hlo)
theorem Zin(h:LiftAt w B lp row hm n g dv va A)(hB:B≤w.heap.size)(hA:A≠ []):
  Calls Tryz.prog 153 #[.pointer (some ⟨lp,0,none⟩)] w fun e w'=>∃(k:PK) (s:Sec) (va':Value) (A':List PK),e=.returned (.tuple #[.agg #[O Z k.1.val,O Z k.2.val,dv k],.bool true])/\(k::A').Perm A/\g k=some s/\w'.ownsRow B 5 1 (dv k) 128 (ucells s)/\LiftAt w' B lp k.2.val hm n (fun i=>if i=k then none else g i) dv va' A'/\Below B w w'/\va'.ownBlock=va.ownBlock/\Chg (liftS lp hm va) w w':=by
 obtain⟨a,c,hv⟩:=Zab h.way;have hlen:0<A.length:=List.length_pos_iff.2 hA;rw[Zp]at hv;have hb0:Below w.heap.size w (w.alloc (.cells #[O Z 0,O Z 0,Zt none 0 0] 167)):=(Zb _ _).alloc (Za _) _;have HX:Hid (NextMid va w (w.alloc (.cells #[O Z 0,O Z 0,Zt none 0 0] 167)) B lp row hm n g dv va A w.heap.size):=by
  have h':=h.below hb0;exact⟨h'.box,h'.map,h'.dat,h'.way,At.new _ _ _,hb0.mono hB,h.blo,h.hlo,(by rw[Zaa];omega),(Zl _ _).alloc _⟩
 have HHAS:=hid h.has;have HND:=hid h.nd;have HLF:=hid h.lfew;have hfew:=h.few;have hlf:=h.lfew;have hbx:=HX.out.box;rw[hv]at hbx;have c2:=hbx.cell 2;have HV:=hid hv;have hne:((A.length:Int)==0)=false:=by simp;omega
 clear h hbx hv hb0;have TA:∀(x y:Int) W,(Instr.typeAssert (.iface 318 (.agg #[O Z x,O Z y])) 20 318 false).run Tryz.prog W=.ok (.agg #[O Z x,O Z y]) W:=fun x y W=>by kernel_rfl
 go_enter Tryz.func153,Tryz.ntmps153;have HPO:=hid (Zto va (A.map toPL) B lp 2 (w.alloc (.cells #[O Z 0,O Z 0,Zt none 0 0] 167)) (cs:= #[O Z row,.map (some hm),va,Zt none 0 0]) (t:=316) ⟨HX.out.way,HX.out.box,rfl,by decide,by rw[Zp];omega,HX.out.sz⟩ (by rw[Zp];exact hlen) (by show 2<4;omega))
 go_wp2_with (first
  |(go_at_call 230;(with_reducible refine HPO.out.mono ?_);rintro e w6 ⟨x,y,v6,L6,rfl,hp6,hh6,hc6,hv6⟩;have HMD:=hid (Zmy HX.out rfl hh6 hp6 hc6);obtain⟨k,A',ex,ey,hpk,hmid⟩:=HMD.out;have HPK:=hid hpk;have HM6:=hid hmid;have HV6:=hid hv6;subst ex ey;have d0:w6.cell? ⟨lp,0,none⟩=some (O Z row):=HM6.out.box.cell 0;have f0:=HM6.out.box.free 0;have hlt6:=HM6.out.box.lt;have TAK:=TA (k.1.val:Int) (k.2.val:Int);clear hp6 hh6 hc6 hv6 hpk hmid HMD HPO c2 TA))
 have hs6:Chg (fun q=>q=lp) w6 (w6.setCell ⟨lp,0,none⟩ (O Z (k.2.val:Int))):=Zk (S:=fun q=>q=lp) (Zl _ _) ⟨lp,0,none⟩ (.inl rfl) _;have HX7:Hid (NextMid va w ((w6.setCell ⟨lp,0,none⟩ (O Z (k.2.val:Int))).alloc (.cells #[O Z (k.1.val:Int),O Z (k.2.val:Int)] 318)) B lp k.2.val hm n g dv v6 A' w.heap.size):=by
  have h6:=HM6.out;have h7:NextMid va w (w6.setCell ⟨lp,0,none⟩ (O Z (k.2.val:Int))) B lp k.2.val hm n g dv v6 A' w.heap.size:=⟨h6.box.set 0 _,h6.map.mod hs6 (fun e=>Zcv h6.map h6.box e),fun i t ht=>Zad (h6.dat i t ht) hs6 (fun q hq e=>Za4 (h6.dat i t ht) h6.box (by decide) (by rw[hq,e])),Zad h6.way hs6 (fun q hq e=>Za4 h6.way h6.box (by decide) (by rw[hq,e])),h6.res.mod hs6 (fun e=>Zaw h6.res h6.box (by decide) e),h6.bl.setCell (p:=⟨lp,0,none⟩) h6.blo _,h6.blo,h6.hlo,Zc h6.sz hs6.size,h6.chg.trans (hs6.mono fun q hq=>.inl hq)⟩;exact h7.below ((Zb _ _).alloc (Za _) _)
 have HAT:Hid (At ((w6.setCell ⟨lp,0,none⟩ (O Z (k.2.val:Int))).alloc (.cells #[O Z (k.1.val:Int),O Z (k.2.val:Int)] 318)) w6.heap.size #[O Z (k.1.val:Int),O Z (k.2.val:Int)] 318):=(by have h:=At.new (w6.setCell ⟨lp,0,none⟩ (O Z (k.2.val:Int))) #[O Z (k.1.val:Int),O Z (k.2.val:Int)] 318;rw[Za6]at h;exact h);clear hs6 HM6 d0 f0 TAK HX;generalize hrb:w.heap.size=rb at*;generalize w6.heap.size=at' at*;generalize (w6.setCell ⟨lp,0,none⟩ (O Z (k.2.val:Int))).alloc (.cells #[O Z (k.1.val:Int),O Z (k.2.val:Int)] 318)=w7 at*;have HKA:Hid (k∈A):=HPK.out.mem_iff.1 List.mem_cons_self;obtain⟨s,hs⟩:∃s,g k=some s:=Option.isSome_iff_exists.1 ((HHAS.out k).1 HKA.out);have HS:=hid hs;clear hs;obtain⟨da,dc,hdv⟩:=Zab (HX7.out.dat k s HS.out);have HDV:=hid hdv;clear hdv;have HLK:Hid (∀W,Below w7.heap.size w7 W->W.cell? ⟨lp,1,none⟩=some (.map (some hm))/\W.cell? ⟨at',0,none⟩=some (O Z (k.1.val:Int))/\W.cell? ⟨at',1,none⟩=some (O Z (k.2.val:Int))/\(Instr.lookup 312 (.map (some hm)) (.agg #[O Z (k.1.val:Int),O Z (k.2.val:Int)]) false).run Tryz.prog W=.ok (Zt da 128 dc) W):=fun W hb=>
  ⟨(HX7.out.below hb).box.cell 1,(HAT.out.below hb HAT.out.lt).cell 0,(HAT.out.below hb HAT.out.lt).cell 1,Zof (HX7.out.below hb).map 312 Tryz.underlying312 (.slice none 0 0) (by kernel_rfl) k (.slice da 128 dc) (by show(g k).map _=_;rw[HS.out,<-HDV.out];rfl)⟩
 go_region_held3 (fun W=>W.cell? ⟨lp,1,none⟩=some (.map (some hm))/\W.cell? ⟨at',0,none⟩=some (O Z (k.1.val:Int))/\W.cell? ⟨at',1,none⟩=some (O Z (k.2.val:Int))/\(Instr.lookup 312 (.map (some hm)) (.agg #[O Z (k.1.val:Int),O Z (k.2.val:Int)]) false).run Tryz.prog W=.ok (Zt da 128 dc) W)
  (first|exact HLK.out _ (Zb _ _).drew)
  (first|fail)
 go_wp2;have HX8:Hid (NextMid va w w7.drew.drew B lp k.2.val hm n g dv v6 A' rb):=HX7.out.below (Zb _ _).drew.drew;have HAT8:Hid (At w7.drew.drew at' #[O Z (k.1.val:Int),O Z (k.2.val:Int)] 318):=HAT.out;have HSA:Hid (w7.drew.drew.cell? ⟨lp,1,none⟩=some (.map (some hm))/\w7.drew.drew.cell? ⟨at',0,none⟩=some (O Z (k.1.val:Int))/\w7.drew.drew.cell? ⟨at',1,none⟩=some (O Z (k.2.val:Int))):=⟨HX8.out.box.cell 1,HAT8.out.cell 0,HAT8.out.cell 1⟩;go_region_held3 (fun W=>W.cell? ⟨lp,1,none⟩=some (.map (some hm))/\W.cell? ⟨at',0,none⟩=some (O Z (k.1.val:Int))/\W.cell? ⟨at',1,none⟩=some (O Z (k.2.val:Int)))
  (first|exact HSA.out|exact HSB)
  (first
   |((rw[Zf (by rfl)];refine Zih _ _ 312 rfl Tryz.underlying312 rfl HX8.out.map k rfl ?_;intro wz hz hcz;have HZ:=hid (Zt1 HX8.out hz hcz HPK.out HND.out HHAS.out hfew hlf s HS.out);have HATZ:=hid (HAT8.out.mod hcz (fun e=>Zcv HX8.out.map HAT8.out e.symm));have HSB:wz.cell? ⟨lp,1,none⟩=some (.map (some hm))/\wz.cell? ⟨at',0,none⟩=some (.int .i64 (k.1.val:Int))/\wz.cell? ⟨at',1,none⟩=some (.int .i64 (k.2.val:Int)):=⟨HZ.out.1.box.cell 1,HATZ.out.cell 0,HATZ.out.cell 1⟩;clear hz hcz)))
 have hres:=HZ.out.2.1;have s0:=hres.free 0;have s1:=hres.free 1;have s2:=hres.free 2;have q0:wz.cell? ⟨rb,0,none⟩=some (O Z 0):=hres.cell 0;have q1:wz.cell? ⟨rb,1,none⟩=some (O Z 0):=hres.cell 1;have q2:wz.cell? ⟨rb,2,none⟩=some (Zt none 0 0):=hres.cell 2;have HF:=((hres.set 0 (O Z (k.1.val:Int))).set 1 (O Z (k.2.val:Int))).set 2 (Zt da 128 dc);have r0:=HF.cell 0;have r1:=HF.cell 1;have r2:=HF.cell 2;have hcf:Chg (fun q=>q=rb) wz (((wz.setCell ⟨rb,0,none⟩ (O Z (k.1.val:Int))).setCell ⟨rb,1,none⟩ (O Z (k.2.val:Int))).setCell ⟨rb,2,none⟩ (Zt da 128 dc)):=Zk (S:=fun q=>q=rb) (Zk (S:=fun q=>q=rb) (Zk (S:=fun q=>q=rb) (Zl _ _) ⟨rb,0,none⟩ (.inl rfl) _) ⟨rb,1,none⟩ (.inl rfl) _) ⟨rb,2,none⟩ (.inl rfl) _;have HEND:Hid (∃(k':PK) (s:Sec) (va':Value) (A':List PK),Ending.returned (.tuple #[.agg #[O Z (k.1.val:Int),O Z (k.2.val:Int),Zt da 128 dc],.bool true])=.returned (.tuple #[.agg #[O Z k'.1.val,O Z k'.2.val,dv k'],.bool true])/\(k'::A').Perm A/\g k'=some s/\(((wz.setCell ⟨rb,0,none⟩ (O Z (k.1.val:Int))).setCell ⟨rb,1,none⟩ (O Z (k.2.val:Int))).setCell ⟨rb,2,none⟩ (Zt da 128 dc)).ownsRow B 5 1 (dv k') 128 (ucells s)/\LiftAt (((wz.setCell ⟨rb,0,none⟩ (O Z (k.1.val:Int))).setCell ⟨rb,1,none⟩ (O Z (k.2.val:Int))).setCell ⟨rb,2,none⟩ (Zt da 128 dc)) B lp k'.2.val hm n (fun i=>if i=k' then none else g i) dv va' A'/\Below B w (((wz.setCell ⟨rb,0,none⟩ (O Z (k.1.val:Int))).setCell ⟨rb,1,none⟩ (O Z (k.2.val:Int))).setCell ⟨rb,2,none⟩ (Zt da 128 dc))/\va'.ownBlock=va.ownBlock/\Chg (liftS lp hm va) w (((wz.setCell ⟨rb,0,none⟩ (O Z (k.1.val:Int))).setCell ⟨rb,1,none⟩ (O Z (k.2.val:Int))).setCell ⟨rb,2,none⟩ (Zt da 128 dc))):=by
  obtain⟨z1,z2,z3,z4,z5⟩:=HZ.out;refine⟨k,s,v6,A',by rw[HDV.out],HPK.out,HS.out,Zad z3 hcf (fun q hq e=>Za4 z3 z2 (by decide) (by rw[hq,e])),⟨z1.box.mod hcf (fun e=>Zaw z1.box z2 (by decide) e),z1.map.mod hcf (fun e=>Zcv z1.map z2 e),fun i t ht=>Zad (z1.dat i t ht) hcf (fun q hq e=>Za4 (z1.dat i t ht) z2 (by decide) (by rw[hq,e])),Zad z1.way hcf (fun q hq e=>Za4 z1.way z2 (by decide) (by rw[hq,e])),z1.has,z1.nd,z1.few,z1.lfew,z1.blo,z1.hlo⟩,((z4.setCell (p:=⟨rb,0,none⟩) hB _).setCell (p:=⟨rb,1,none⟩) hB _).setCell (p:=⟨rb,2,none⟩) hB _,HV6.out,Zog z5 hcf (fun q hq e=>by omega)⟩
 clear HZ HATZ hres HF hcf HX8 HX7 HAT HAT8 HLK HSA HHAS HND HLF;go_wp2;(try simp only [Exit.inBlock,Exit.then]);refine bodyPost_ret (v:=.tuple #[.agg #[O Z (k.1.val:Int),O Z (k.2.val:Int),Zt da 128 dc],.bool true]) ?_ rfl HEND.out;rw[results_cell_tmp rfl];go_simp;try rfl
open Go.RowKit
def pkOf(p:Pat):PK:=(⟨p.m.toNat%16,Nat.mod_lt _ (by decide)⟩,⟨p.r.toNat%4096,Nat.mod_lt _ (by decide)⟩)
structure InPlace (M N:Nat) (p:Pat):Prop where
 m0:0≤p.m
 m1:p.m<M
 r0:0≤p.r
 r1:p.r<N
 len:p.d.length=128
theorem Zv6{M N:Nat}{p:Pat}(h:InPlace M N p)(hM:M≤16)(hN:N≤4096):p.m=((pkOf p).1.val:Int)/\p.r=((pkOf p).2.val:Int)/\(pkOf p).1.val<M/\(pkOf p).2.val<N:=by
 obtain⟨h1,h2,h3,h4,-⟩:=h;unfold pkOf;simp only;omega
def gTo(ps:List Pat):Nat->PK->Option Sec
 |0=>fun _=>none
 |n+1=>fun k=>if k=pkOf (ps.getD n pat0)then some (ps.getD n pat0).d else gTo ps n k
theorem Zml(ps:List Pat)(k:PK):∀n,n≤ps.length->((gTo ps n k).isSome=true↔∃p∈ps.take n,pkOf p=k)
 |0,_=>by simp[gTo]
 |n+1,hn=>by
  have ih:=Zml ps k n (by omega);rw[List.take_succ_eq_append_getElem (by omega),show gTo ps (n+1) k=if k=pkOf (ps.getD n pat0)then some (ps.getD n pat0).d else gTo ps n k from rfl,Zbx ps n (by omega)];by_cases h:k=pkOf ps[n]
  ·rw[Zf h]
   simp only [Option.isSome_some,true_iff];exact⟨ps[n],List.mem_append_right _ (by simp),h.symm⟩
  ·rw[Ze h,ih]
   constructor
   ·rintro ⟨p,hp,e⟩
    exact⟨p,List.mem_append_left _ hp,e⟩
   ·rintro ⟨p,hp,e⟩
    rcases List.mem_append.1 hp with hp|hp
    ·exact⟨p,hp,e⟩
    ·simp only [List.mem_singleton]at hp
     subst hp;exact absurd e.symm h
theorem Zm7(ps:List Pat)(k:PK)(s:Sec):∀n,n≤ps.length->gTo ps n k=some s->∃p∈ps,pkOf p=k/\p.d=s
 |0,_,h=>by cases h
 |n+1,hn,h=>by
  rw[show gTo ps (n+1) k=if k=pkOf (ps.getD n pat0)then some (ps.getD n pat0).d else gTo ps n k from rfl,Zbx ps n (by omega)]at h;by_cases hk:k=pkOf ps[n]
  ·rw[Zf hk]at h
   simp only [Zg]at h;exact⟨ps[n],Zj _,hk.symm,h⟩
  ·rw[Ze hk]at h
   exact Zm7 ps k s n (by omega) h
def RS.upAt(R:RS)(k:PK):Bool:= !R.dn k.1.val k.2.val
structure Laid (R:RS) (s s':BaySt) (A:List PK) (g:PK->Option Sec):Prop where
 fit:Fit s' R.G R.szs
 n:s'.n=s.n
 c0:s'.cnt 0=s.cnt 0
 c1:s'.cnt 1=s.cnt 1+((A.filter R.upAt).length:Nat)
 c2:s'.cnt 2=s.cnt 2
 small:∀m,s.small m->s'.small (m+A.length)
 at':∀k∈A,R.upAt k=true->s'.sec k.1.val (1+k.2.val)=(g k).getD zsec
 off:∀j z,(∀k∈A,R.upAt k=true->¬(j=k.1.val/\z=1+k.2.val))->s'.sec j z=s.sec j z
 pos:∀q,(∀k∈A,R.upAt k=true->q≠k.1.val*3)->s'.pos q=s.pos q
theorem Laid.nil(h:Fit s R.G R.szs):Laid R s s [] g:=
 ⟨h,rfl,rfl,by show s.cnt 1=s.cnt 1+((0:Nat):Int);omega,rfl,fun m hm=>hm,fun k hk=>(by cases hk),fun _ _ _=>rfl,fun _ _=>rfl⟩
theorem Laid.skip(h:Laid R s s' A g)(k:PK)(hk:R.upAt k=false):Laid R s s' (k::A) g:=by
 refine⟨h.fit,h.n,h.c0,?_,h.c2,fun m hm=> ?_,fun i hi hu=> ?_,fun j z hj=>h.off j z fun i hi=>hj i (List.mem_cons_of_mem _ hi),fun q hq=>h.pos q fun i hi=>hq i (List.mem_cons_of_mem _ hi)⟩
 ·rw[h.c1,List.filter_cons_of_neg (by rw[hk];simp)]
 ·exact fun i hi x hx=>Zc (h.small m hm i hi x hx) (by simp)
 ·rcases List.mem_cons.1 hi with rfl|hi
  ·rw[hk]at hu;cases hu
  ·exact h.at' i hi hu
theorem Laid.put(h:Laid R s s' A g)(k:PK)(d:Sec)(hk:R.upAt k=true)(hnew:k∉A)(hg:g k=some d)(hd:d.length=128)(hm:k.1.val<R.M)(hr:k.2.val<R.S*R.C)(hn:s'.n=R.M+1):Laid R s (s'.put k.1.val (1+k.2.val) d) (k::A) g:=by
 have hG:R.G k.1.val:=.inr ⟨hm,k.2.val,hr,by unfold RS.upAt at hk;simpa using hk⟩;obtain⟨h1,h2⟩:=Zdd h.fit k.1.val (1+k.2.val) d (by omega) hG (by unfold RS.szs;rw[Zf hm];omega) hd;refine⟨h1,h2.n.trans h.n,h2.c0.trans h.c0,?_,h2.c2.trans h.c2,fun m hm=> ?_,fun i hi hu=> ?_,fun j z hj=> ?_,fun q hq=> ?_⟩
 ·rw[h2.c1,h.c1,List.filter_cons_of_pos hk,List.length_cons]
  push_cast;omega
 ·have:=h2.small _ (h.small m hm)
  rwa [List.length_cons,<-Nat.add_assoc]
 ·rw[h2.sec]
  rcases List.mem_cons.1 hi with rfl|hi
  ·rw[Zf ⟨rfl,rfl⟩,hg];rfl
  ·rw[Ze ?_]
   ·exact h.at' i hi hu
   ·rintro ⟨e1,e2⟩
    apply hnew;have:i=k:=Prod.ext (Fin.ext e1) (Fin.ext (by omega));rw[<-this];exact hi
 ·rw[h2.sec,Ze (hj k List.mem_cons_self hk)]
  exact h.off j z fun i hi=>hj i (List.mem_cons_of_mem _ hi)
 ·rw[h2.pos q (hq k List.mem_cons_self hk)]
  exact h.pos q fun i hi=>hq i (List.mem_cons_of_mem _ hi)
end Go.Proofs.YtmemlkmnhcealaaGreat
