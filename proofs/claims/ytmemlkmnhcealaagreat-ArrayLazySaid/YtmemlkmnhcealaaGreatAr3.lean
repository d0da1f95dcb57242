/- What the law wants besides. -/
import Derived.Test.YtmemlkmnhcealaaGreatAr2
import Derived.BigFrame
import Derived.DataShut
import Derived.Deep.CutBlock
import Derived.Deep.CutRange
import Derived.Deep.RegionHeld3
import Derived.WalkLawsBesides
import Derived.WalkSpells
set_option linter.unusedVariables false
set_option maxRecDepth 100000
set_option maxHeartbeats 16000000
namespace Go.Proofs.YtmemlkmnhcealaaGreat
open Go.RowKit
def secA (x:UInt8):List UInt8:=List.replicate 128 x
theorem secA_length (x:UInt8):(secA x).length=128:=by simp[secA]
theorem upV_put (v z:Value) {n M:Nat} (h:n<M):(upV v z n M).toArray.setIfInBounds n v=(upV v z (n+1) M).toArray:=by
  obtain⟨k,rfl⟩:∃k,M=n+1+k:=⟨M-n-1,by omega⟩;unfold upV;rw[show n+1+k-n=k+1 by omega,show n+1+k-(n+1)=k by omega,List.setIfInBounds_toArray,List.set_append_right _ _ (by simp),List.length_replicate,Nat.sub_self,List.replicate_succ (n:=k),List.set_cons_zero,List.replicate_succ' (n:=n),List.append_assoc];rfl
theorem upV_end (x:UInt8):upV (.int .u8 ((x.toNat:Nat):Int)) (.int .u8 0) 128 128=ucells (secA x):=by simp[upV,secA,ucells]
theorem a17_sector (x:UInt8) (w:World):
    Calls Tryz.prog 20 #[.int .u8 ((x.toNat:Nat):Int)] w fun e w'=>e=.returned (.slice (some ⟨w.heap.size,0,none⟩) 128 128)/\At w' w.heap.size (ucells (secA x)).toArray 5/\Below w.heap.size w w':=by
  have hend:=Lib.hid (upV_end x);generalize ((x.toNat:Nat):Int)=y at*;have hget:Hid (∀k:Nat,k<128->(upV (.int .u8 y) (.int .u8 0) k 128)[k]?=some (.int .u8 0)):=fun k hk=>by
    unfold upV;rw[List.getElem?_append_right (by simp),List.length_replicate,Nat.sub_self,List.getElem?_replicate,if_pos (by omega)]
  go_enter Tryz.func20,Tryz.ntmps20;go_wp2_with (refine Zaq rfl _ _ 36 5 1 1 rfl Zat (.int .u8 0) (by kernel_rfl) _ _ _ _ 128 rfl rfl rfl rfl (by omega) (by unfold maxLen;omega) ?_;intro w1 a1 b1;have A1:Hid (At w1 w.heap.size (upV (.int .u8 y) (.int .u8 0) 0 128).toArray 5):=a1;clear a1);go_loopw [4] (fun q wr=>∃k:Nat,k≤128/\q=.int .i64 k/\At wr w.heap.size (upV (.int .u8 y) (.int .u8 0) k 128).toArray 5/\Below w.heap.size w wr) (fun q _=>128-(intOf q).toNat);case atStart=>exact⟨0,by omega,rfl,A1.out,b1⟩
  case round=>
    obtain⟨k,hk,rfl,hA,hB⟩:=hrel;have HA:=Lib.hid hA;by_cases hkn:k<128
    · have f0:=hA.free k
      have d0:wr.cell? ⟨w.heap.size,k,none⟩=some (.int .u8 0):=(hA.cell k).trans ((List.getElem?_toArray).trans (hget.out k hkn));have K1:Hid (k+1≤128):=hkn;clear hA;go_wp2;refine⟨⟨k+1,K1.out,by go_num,?_,hB.setCell (p:=⟨w.heap.size,k,none⟩) (Nat.le_refl _) _⟩,by simp[intOf];omega⟩;rw[<-upV_put _ _ hkn];exact HA.out.set k _
    · obtain rfl:k=128:=by omega
      clear hA;go_wp2;go_ret;exact⟨rfl,by rw[<-hend.out];exact HA.out,hB⟩
abbrev putCells (p:Int×Nat×List UInt8):List Value:= [.int .i64 p.1,.slice (some ⟨p.2.1,0,none⟩) 128 128]
structure PutRow (w:World) (B:Nat) (v:Value) (ps:List (Int×Nat×List UInt8)):Prop where
  row:w.ownsRow B 60 2 v ps.length (ps.flatMap putCells)
  dat:∀p∈ps,At w p.2.1 (ucells p.2.2).toArray 5/\p.2.2.length=128/\B≤p.2.1
theorem puts_at (ps:List (Int×Nat×List UInt8)):∀(j i:Nat) (h:j<ps.length),i<2->(ps.flatMap putCells)[j*2+i]?=(putCells (ps[j]'h))[i]?:=by
  induction ps with
  |nil=>intro j i h;simp at h
  |cons p t ih=>
    intro j i h hi;rw[List.flatMap_cons];cases j with
    |zero=>
      rw[List.getElem?_append_left (by simp[putCells];omega)];simp
    |succ j=>
      rw[List.getElem?_append_right (by simp[putCells];omega)];have:=ih j i (by simpa using h) hi;rw[show(j+1)*2+i-(putCells p).length=j*2+i by simp[putCells];omega,this];rfl
theorem PutRow.nil (w:World) (B:Nat):PutRow w B (.slice none 0 0) []:=⟨World.ownsRow_nil _ _ _ _,fun p hp=>by cases hp⟩
theorem PutRow.mod {w w':World} {B:Nat} {v:Value} {ps:List (Int×Nat×List UInt8)} (h:PutRow w B v ps) {S:Nat->Prop} (hc:Chg S w w') (hS:∀q,B≤q->q<w.heap.size->¬S q):PutRow w' B v ps:=
  ⟨Zad h.row hc fun g hg=>hS g (h.row.lt g hg).1 (h.row.lt g hg).2,fun p hp=>⟨(h.dat p hp).1.mod hc (hS _ (h.dat p hp).2.2 (h.dat p hp).1.lt),(h.dat p hp).2⟩⟩
def BlkSeg (w:World) (v:Value) (bl:List (Nat×UInt8)):Prop:=
  ∃a c,v=.slice a bl.length c/\bl.length≤140737488355328/\(∀x∈bl,x.1<65536)/\
    (bl= []\/∃b o,a=some ⟨b,o,none⟩/\b<w.heap.size/\∀j (h:j<bl.length),w.cell? ⟨b,o+j*2,none⟩=some (.int .u16 (bl[j].1:Nat))/\w.cell? ⟨b,o+j*2+1,none⟩=some (.int .u8 ((bl[j].2.toNat:Nat):Int)))
def aPuts (n:Nat) (bl:List (Nat×UInt8)):List (Int×List UInt8):=(bl.take 30).map fun x=>(((x.1%n:Nat):Int),secA x.2)
theorem aPuts_length (n:Nat) (bl:List (Nat×UInt8)):(aPuts n bl).length≤30:=by simp[aPuts];omega
theorem slice_puts:SliceOf Tryz.prog 31 60 2 32:=SliceOf.mk' (z:=.agg #[.int .i64 0,.slice none 0 0]) Tryz.underlying31 (by decide) (by kernel_rfl) rfl
theorem aPuts_succ {n:Nat} {bl:List (Nat×UInt8)} {k:Nat} (h:k<bl.length):(bl.take (k+1)).map (fun x=>((((x.1%n:Nat):Int),secA x.2):Int×List UInt8))=(bl.take k).map (fun x=>(((x.1%n:Nat):Int),secA x.2))++ [((((bl[k]'h).1%n:Nat):Int),secA (bl[k]'h).2)]:=by
  rw[List.take_succ_eq_append_getElem h,List.map_append];rfl
theorem a17_puts (M C S:Nat) (hg:geoIs M C S=true) (v:Value) (bl:List (Nat×UInt8)) (w:World) (hv:BlkSeg w v bl):
    Calls Tryz.prog 10 #[.agg #[.int .i64 M,.int .i64 C,.int .i64 S],v] w fun e w'=>∃v' ps,e=.returned v'/\PutRow w' w.heap.size v' ps/\ps.map (fun p=>(p.1,p.2.2))=aPuts (S*C*(M-1)) bl/\Below w.heap.size w w':=by
  obtain⟨g1,g2,g3,g4⟩:=Zbe hg;obtain⟨va,vc,rfl,hfew,hbk,hcl⟩:=hv;obtain⟨n,hn⟩:∃n,n=S*C*(M-1):=⟨_,rfl⟩;have hn1:1≤n:=by
    rw[hn];exact Nat.mul_pos g3 (by omega)
  have hn2:n≤65536:=by
    rw[hn];exact Nat.le_trans (Nat.mul_le_mul g4 (show M-1≤16 by omega)) (by omega)
  have hnz:((S:Int)*(C:Int))*((M:Int)-1)=(n:Int):=by
    rw[hn,Int.natCast_mul,Int.natCast_mul];congr 1;omega
  have hw1:Go.RowKit.wrap64 ((S:Int)*(C:Int))=(S:Int)*(C:Int):=by
    rw[<-Int.natCast_mul];exact IntWalk.wrap64_in _ ⟨by omega,by omega⟩
  rw[<-hn];have hb0:Below w.heap.size w (w.alloc (.cells #[.int .i64 M,.int .i64 C,.int .i64 S] 26)):=(Below.refl _ _).alloc (Nat.le_refl _) _;have HB0:=Lib.hid hb0;have a0:=At.new w #[.int .i64 M,.int .i64 C,.int .i64 S] 26;have c0:=a0.cell 0;have c1:=a0.cell 1;have c2:=a0.cell 2;have HF:=Lib.hid hfew;have HBK:=Lib.hid hbk;have HCL:=Lib.hid hcl;clear hb0 a0 hfew hbk hcl hg hn g4;go_enter Tryz.func10,Tryz.ntmps10;go_wp2;clear c0 c1 c2;rw[hw1];go_loopw [5,7] (fun o q wr=>∃k:Nat,k≤bl.length/\k≤30/\q=.int .i64 k/\∃ps,PutRow wr w.heap.size o ps/\ps.map (fun p=>(p.1,p.2.2))=(bl.take k).map (fun x=>(((x.1%n:Nat):Int),secA x.2))/\Below w.heap.size w wr) (fun _ q _=>30-(intOf q).toNat);case atStart=>exact⟨0,by omega,by omega,rfl,[],PutRow.nil _ _,rfl,HB0.out⟩
  case round=>
    obtain⟨k,hk,hk30,rfl,ps,hpr,hps,hbw⟩:=hrel;have HP:=Lib.hid hpr;have HPS:=Lib.hid hps;have HB:=Lib.hid hbw;have hpl:ps.length=k:=by
      have:=congrArg List.length hps;simp only [List.length_map,List.length_take]at this;omega
    have HPL:=Lib.hid hpl;clear hpr hps hpl;by_cases h30:k<30
    · by_cases hkl:k<bl.length
      · obtain⟨b,o,rfl,hlt,hx⟩:∃b o,va=some ⟨b,o,none⟩/\b<w.heap.size/\∀j (h:j<bl.length),w.cell? ⟨b,o+j*2,none⟩=some (.int .u16 (bl[j].1:Nat))/\w.cell? ⟨b,o+j*2+1,none⟩=some (.int .u8 ((bl[j].2.toNat:Nat):Int)):=by
          rcases HCL.out with e|e
          · subst e;simp at hkl
          · exact e
        obtain⟨e1,e2⟩:=hx k hkl;have hsc:=aPuts_succ (n:=n) hkl;have hx16:=HBK.out _ (List.getElem_mem hkl);generalize bl[k]=x at*;obtain⟨x1,x2⟩:=x;have HCX:Hid (∀w',Below w.heap.size w w'->w'.cell? ⟨b,o+k*2,none⟩=some (.int .u16 (x1:Nat))/\w'.cell? ⟨b,o+k*2+1,none⟩=some (.int .u8 ((x2.toNat:Nat):Int))):=fun w' h=>⟨(h.cell (p:=⟨b,o+k*2,none⟩) hlt).trans e1,(h.cell (p:=⟨b,o+k*2+1,none⟩) hlt).trans e2⟩
        have HPD:Hid (PutRow wr.drew w.heap.size u5 ps):=HP.out.mod ((Chg.refl (fun _=>False) _).drew) (fun _ _ _ e=>e);have HBD:Hid (Below w.heap.size w wr.drew):=HB.out.drew;have HNW:Hid (∀(W:World) (y:Int),∀j u,([.int .i64 y,.slice (some ⟨wr.heap.size,0,none⟩) 128 128]:List Value)[j]?=some u->(W.alloc (.cells #[.int .i64 y,.slice (some ⟨wr.heap.size,0,none⟩) 128 128] 60)).cell? ((⟨W.heap.size,0,none⟩:Addr).add j)=some u):=fun W y j u hj=>by
          have ha:=At.new W #[.int .i64 y,.slice (some ⟨wr.heap.size,0,none⟩) 128 128] 60;have had:(⟨W.heap.size,0,none⟩:Addr).add j=⟨W.heap.size,j,none⟩:=by unfold Addr.add;split<;>simp_all
          rw[had,ha.cell];simpa using hj
        have HSEC:=Lib.hid (fun W=>a17_sector x2 W);have HSC:=Lib.hid hsc;have hxn:x1%n<n:=Nat.mod_lt _ hn1;have hmd:((x1%n:Nat):Int)=(x1:Int)%(n:Int):=Int.natCast_emod x1 n;have hq1:0≤(x1:Int)%(n:Int):=by rw[<-hmd];exact Int.natCast_nonneg _
        have hq2:(x1:Int)%(n:Int)≤65536:=by rw[<-hmd];omega
        have hwq:Go.RowKit.wrap64 ((x1:Int)%(n:Int))=(x1:Int)%(n:Int):=IntWalk.wrap64_in _ ⟨by omega,by omega⟩;have hwq':IntKind.i64.wrap ((x1:Int)%(n:Int))=(x1:Int)%(n:Int):=(IntWalk.i64_left _).trans hwq;have hwx:Go.RowKit.wrap64 (x1:Int)=(x1:Int):=IntWalk.wrap64_in _ ⟨by omega,by omega⟩;have hwx':IntKind.i64.wrap (x1:Int)=(x1:Int):=(IntWalk.i64_left _).trans hwx;have hn0:¬n=0:=by omega
        have hn0':((n:Int)==0)=false:=by simpa using hn0
        have HMD:=Lib.hid hmd;have hkl':(k:Int)<(bl.length:Int):=by omega
        clear hmd hxn hx e1 e2 hsc hbw HCL HBK HF;generalize bl.length=bn at*;generalize ((x2.toNat:Nat):Int)=y2 at*;go_upto_region 6 with fail
        go_region_held3 (fun w'=>w'.cell? ⟨b,o+k*2,none⟩=some (.int .u16 (x1:Nat))/\w'.cell? ⟨b,o+k*2+1,none⟩=some (.int .u8 y2))
          (first|with_reducible exact HCX.out _ HBD.out|with_reducible exact HCX.out _ HB5.out|with_reducible exact HCX.out _ (HB5.out.alloc HB5.out.size _)|with_reducible exact HCX.out _ HBA.out)
          (first
            |(go_at_call 20;(with_reducible refine(HSEC.out _).mono ?_);rintro e w5 ⟨rfl,ha5,hb5⟩;have HA5:=Lib.hid ha5;have HB5x:=Lib.hid hb5;have HB5:=Lib.hid (HBD.out.trans (hb5.mono HBD.out.size));have HP5:Hid (PutRow w5 w.heap.size u5 ps):=(HPD.out.mod (Chg.ofBelow hb5 (fun _=>False)) (fun _ _ _ e=>e));clear ha5 hb5)
            |(refine Zdk _ (by rfl) _ _ 31 60 2 32 (by rfl) slice_puts w.heap.size u5 ps.length _ (by rfl) (HP5.out.row.alloc _) ⟨w5.heap.size,0,none⟩ 1 1 [.int .i64 ((x1:Int)%(n:Int)),.slice (some ⟨wr.heap.size,0,none⟩) 128 128] (by rfl) rfl (HNW.out _ _) (by intro u hu;simp at hu;rcases hu with rfl|rfl<;>rfl) (by have:=HPL.out;unfold maxLen;omega) (by have:=HPL.out;omega) (by rw[Zaa];have:=HB5.out.size;omega) (by omega) ?_;intro v' w9 hrow hvb hc hkk;clear hkk;have HBA:Hid (Below w.heap.size w w9):=Chg.own (HB5.out.alloc HB5.out.size _) hc (fun q hq=>(HP5.out.row.lt q hq).1);have HROW:=Lib.hid hrow;have HC:=Lib.hid hc;have HVB:=Lib.hid hvb;clear hrow hvb hc))
        have hkeep:∀g l,At w5 g (ucells l).toArray 5->At w9 g (ucells l).toArray 5:=fun g l h=>(h.alloc _).mod HC.out (fun e=>Za2 h HP5.out.row (by decide) e)
        have HPN:Hid (PutRow w9 w.heap.size v' (ps++ [(((x1%n:Nat):Int),wr.heap.size,secA x2)])):=by
          refine⟨?_,fun p hp=> ?_⟩
          · rw[List.length_append,List.flatMap_append,List.flatMap_cons,List.flatMap_nil,List.append_nil]
            show w9.ownsRow _ _ _ _ _ (_++ [.int .i64 ((x1%n:Nat):Int),_])
            rw[HMD.out];exact HROW.out
          · rcases List.mem_append.1 hp with h|h
            · exact⟨hkeep _ _ (HP5.out.dat p h).1,(HP5.out.dat p h).2⟩
            · obtain rfl:=List.mem_singleton.1 h
              exact⟨hkeep _ _ HA5.out,secA_length x2,HB.out.size⟩
        have HPM:Hid ((ps++ [(((x1%n:Nat):Int),wr.heap.size,secA x2)]).map (fun p=>(p.1,p.2.2))=(bl.take (k+1)).map (fun x=>(((x.1%n:Nat):Int),secA x.2))):=by
          show _=_
          rw[HSC.out,List.map_append,HPS.out];rfl
        clear hkeep HROW HC HVB HP5 HA5 HB5x HB5;go_wp2;go_roundw;case rel=>exact⟨k+1,hkl,h30,by go_num,_,HPN.out,HPM.out,HBA.out⟩
        case measure=>simp[intOf];omega
      · obtain rfl:k=bl.length:=by omega
        have hkl':¬(bl.length:Int)<(bl.length:Int):=by omega
        clear hbw;go_wp2;go_ret;refine⟨_,rfl,ps,HP.out,?_,HB.out⟩;rw[HPS.out];unfold aPuts;rw[List.take_length,List.take_of_length_le hk30]
    · obtain rfl:k=30:=by omega
      clear hbw;go_wp2;all_goals
        go_ret
        first|exact⟨_,rfl,ps,HP.out,HPS.out,HB.out⟩|exact⟨_,ps,rfl,HP.out,HPS.out,HB.out⟩
section
structure MdAt (W w:World) (T:Nat->Nat) (A:Adr) (ap stg:Nat) (M C S ring:Nat) (lazy:Bool) (id:Nat) (s:BaySt):Prop where
  rw:RwIn w T A (RS.made M C S ring lazy s) none (.slice none 0 0) []
  ar:At w ap (arCells A.b stg (.pointer (some ⟨A.q,0,none⟩)) A.wp id 1 1 M C S ring lazy) 68
  st:At w stg (stCells (-1) M) 102
  ta:T ap=0
  ts:T stg=0
  blank:Blank M C S ring s (M*(S*C)+ring+1+(M+1)) (1+(M+1))
  hi:W.heap.size≤ap/\W.heap.size≤stg/\W.heap.size≤A.q/\W.heap.size≤A.wp/\W.heap.size≤A.rp/\W.heap.size≤A.fg
  old:∀q,q<W.heap.size->T q=0
  bel:Below W.heap.size W w
theorem CrPost.md {W W1 w':World} {T:Nat->Nat} {b id M C S ring:Nat} {lazy:Bool} {e:Ending} (h:CrPost W1 T b id M C S ring lazy e w') (hT:∀q,q<W.heap.size->T q=0) (hb:Below W.heap.size W W1):∃ap stg A T' s,e=.returned (.tuple #[.pointer (some ⟨ap,0,none⟩),.int .u16 0])/\A.b=b/\MdAt W w' T' A ap stg M C S ring lazy id s:=by
  obtain⟨ap,stg,A,T',s,rfl,hA,hr,ha,hs,ta,ts,hbl,hhi,htg,hch⟩:=h;have hz:=hb.size;refine⟨ap,stg,A,T',s,rfl,hA,⟨hr,by rw[hA];exact ha,hs,ta,ts,hbl,by omega,fun q hq=>(htg q (by omega)).trans (hT q hq),hb.trans (hch.below fun q hq=>⟨by omega,fun e=>e (hT q hq)⟩)⟩⟩
theorem MdAt.ab {W w:World} {T:Nat->Nat} {A:Adr} {ap stg M C S ring id:Nat} {lazy:Bool} {s:BaySt} (h:MdAt W w T A ap stg M C S ring lazy id s) (hg:geoIs M C S=true) (h5:5≤ring) (h6:ring≤2048):Ab W w T A (RS.made M C S ring lazy s) [arB ap stg A M C S ring lazy id 1 1,stB stg (-1) M]/\ArP (RS.made M C S ring lazy s) zeroV M C S ring lazy (-1) 80000 80000:=by
  obtain⟨g1,g2,g3,g4⟩:=Zbe hg;obtain⟨h1,h2,h3,h4,h7,h8⟩:=h.hi;have hm:=Nat.mul_le_mul g2 g4;have hbl:=h.blank;refine⟨⟨⟨⟨_,_,_,h.rw⟩,fun q hq=>⟨h.old q hq,?_⟩,h.bel⟩,fun x hx=> ?_⟩,good_blank hg h5 h6 hbl,.inr rfl,⟨?_,?_,?_,?_,?_⟩,rfl,rfl,rfl,rfl,rfl,?_⟩
  · rintro (e|e|e|e)<;>omega
  · simp only [List.mem_cons,List.not_mem_nil,or_false]at hx
    rcases hx with rfl|rfl
    · exact⟨h.ar,h.ta,by dsimp only;decide,by dsimp only;decide,by dsimp only;decide,by dsimp only;decide⟩
    · exact⟨h.st,h.ts,by dsimp only;decide,by dsimp only;decide,by dsimp only;decide,by dsimp only;decide⟩
  · show s.cnt 0≤_
    rw[hbl.c0];omega
  · show s.cnt 1≤_
    rw[hbl.c1];omega
  · show s.cnt 2≤_
    rw[hbl.c2];omega
  · show(1:Nat)≤_
    omega
  · exact⟨_,hbl.small,by show _+0≤_;omega⟩
  · rw[frOf_none]
    rfl
section
variable {P:Program}
theorem anyH_take {md:Region.Mode} {ops:Array Oper} {Q:Exit->Act->World->Prop} {S:World->Prop} {i:Nat} {oi:Oper} (d:Option Tmp) {v:Value} {fuel:Nat} {listed:Array Bool} {a:Act} {w:World} (hi:ops[i]?=some oi) (hd:oi.dst=d)
    (hs:Region.noSelect ops=true) (hf:Region.free md ops listed i=true) (hr:(Region.ready md ops listed).contains i=true)
    (hQ:∀c a w,Q (.panic c) (a.put d v) w->Q (.panic c) a w) (hy:YieldsIf P ops S oi v a) (hS:S w)
    (h:wpAnyH P md ops Q S fuel (listed.setIfInBounds i true) (a.put d v) w):wpAnyH P md ops Q S (fuel+1) listed a w:=by
  subst hd;exact wpAnyH_take hi hs hf hr hQ hy hS h
theorem step_store_agg {ops:Array Oper} {o:Oper} {a:Act} {K:Act->World->Prop} {w:World} {Q:Exit->Act->World->Prop} {E:Prop} (hgd:o.guard=none) (ty:TypeId) (x y:Operand) (ho:o.op=.store ty x y)
    (g:Nat) (hx:a.eval x=.pointer (some ⟨g,0,none⟩)) (cells:Array Value) (hy:a.eval y=.agg cells) (t:TypeId) (old:Array Value) (hg:At w g old t)
    (hi:(P.info? ty).map (·.size)=some cells.size) (hs:old.size=cells.size) (h1:cells.all (·.oneCell')=true)
    (h:K (a.put o.dst undef) (w.setRow g cells)):if Region.wanted o (yielded ops a.tmps)=true then Oper.wp P o a w K Q else E:=by
  have hw:Region.wanted o (yielded ops a.tmps)=true:=by simp[Region.wanted,hgd]
  rw[if_pos hw];unfold Oper.wp execOp;simp only [ho,hx,hy,Instr.storeAt,Instr.sureAddr,Sem.run_bind,Sem.run_pure,Result.andThen_ok,run_storeVar_row w g t ty old cells hg hi hs h1];exact h
end
section
open Go.Proofs
theorem results_ttc {fn:Func} {p q r:Tmp} {ty:TypeId} (h:fn.results= #[.tmp p,.tmp q,.cell r ty]) (tmps:Array Value) (P:Program) (w:World):
    (results fn tmps).run P w=((asAddr (tmps.getD r undef)).run P w).andThen fun a w1=>((loadVar ty a).run P w1).andThen fun v w2=>.ok (.tuple #[tmps.getD p undef,tmps.getD q undef,v]) w2:=by
  simp only [results,h];simp[Sem.run_bind,Result.andThen]
end
theorem geo_made {mm ss:Nat} (hm:mm<256) (hs:ss<256):geoIs ((mm%6+3:Nat):Int) ((1+ss/128:Nat):Int) ((ss%5+1:Nat):Int)=true:=by
  rw[Zam];have h1:ss/128≤1:=by omega
  have h2:ss%5<5:=Nat.mod_lt _ (by omega);have h3:mm%6<6:=Nat.mod_lt _ (by omega);have h4:=Nat.mul_le_mul (show ss%5+1≤5 by omega) (show 1+ss/128≤2 by omega);refine⟨by omega,by omega,by omega,by omega,by omega,?_⟩;omega
theorem a17_made (mm ss rr:Nat) (lazy:Bool) (W:World) (hm:mm<256) (hs:ss<256) (hr:rr<256):
    Calls Tryz.prog 7 #[.int .u8 mm,.int .u8 ss,.int .u8 rr,.bool lazy] W fun e w'=>∃ap stg A T s,e=.returned (.tuple #[.pointer (some ⟨A.b,0,none⟩),.pointer (some ⟨ap,0,none⟩),.agg #[.int .i64 (mm%6+3:Nat),.int .i64 (1+ss/128:Nat),.int .i64 (ss%5+1:Nat)]])/\MdAt W w' T A ap stg (mm%6+3) (1+ss/128) (ss%5+1) (5+rr%80) lazy 5 s:=by
  have hg:=geo_made hm hs;have eM:(mm:Int)%6+3=((mm%6+3:Nat):Int):=by omega
  have eC:1+(ss:Int)/128=((1+ss/128:Nat):Int):=by omega
  have eS:(ss:Int)%5+1=((ss%5+1:Nat):Int):=by omega
  have eR:5+(rr:Int)%80=((5+rr%80:Nat):Int):=by omega
  have hR5:5≤5+rr%80:=by omega
  have hR6:5+rr%80≤2048:=by omega
  generalize mm%6+3=M at*;generalize 1+ss/128=C at*;generalize ss%5+1=S at*;generalize 5+rr%80=ring at*;obtain⟨g1,g2,g3,g4⟩:=Zbe hg;have HBN:Hid (∀w v B,w.ownsRow B 3 1 v (rszL M (S*C) ring).length (kcells (rszL M (S*C) ring))->Calls Tryz.prog 14 #[v] w fun e w'=>∃b,e=.returned (.tuple #[.pointer (some ⟨b,0,none⟩),.int .u16 0])/\BayMade w (rBay M (S*C) ring) b w'):=fun w v B hv=>Zvx (rszL M (S*C) ring) v B w hv (by rw[Zby];omega) (by rw[Zby];omega) (fun x hx=>(Zq7 g4 hR6 x hx).2)
  have HCR:Hid (∀W0 w T b,BayAt w T b (rBay M (S*C) ring)->Below W0.heap.size W0 w->(∀q,q<W0.heap.size->T q=0)->Calls Tryz.prog 15 #[.pointer (some ⟨b,0,none⟩),.int .u64 5,.agg #[.int .i64 M,.int .i64 C,.int .i64 S],.int .i64 ring,.bool lazy] w fun e w'=>(∃ap stg A T' s,e=.returned (.tuple #[.pointer (some ⟨ap,0,none⟩),.int .u16 0])/\A.b=b/\MdAt W0 w' T' A ap stg M C S ring lazy 5 s)/\Chg (fun q=>T q≠0) w w'):=fun W0 w T b h1 h2 h3=>(ar_create h1 lazy hg hR5 hR6 (id:=5) (by omega)).mono fun e w' h=>⟨CrPost.md h h3 h2,by obtain⟨_,_,_,_,_,_,_,_,_,_,_,_,_,_,_,h⟩:=h;exact h⟩
  clear hg;obtain⟨P,hP⟩:∃P,P=S*C:=⟨_,rfl⟩;rw[<-hP]at HBN HCR g3 g4;have eP:(C:Int)*(S:Int)=(P:Int):=by rw[hP,Int.natCast_mul,Int.mul_comm]
  clear hP;go_enter Tryz.func7,Tryz.ntmps7;go_wp2;obtain⟨W2,hW2⟩:∃W2,W2=(W.alloc (.cells #[.int .i64 0,.int .i64 0,.int .i64 0] 26)).alloc (.cells #[.int .i64 M,.int .i64 C,.int .i64 S] 26):=⟨_,rfl⟩;have hsz:W2.heap.size=W.heap.size+2:=by rw[hW2,Zaa,Zaa]
  have hb2:Below W.heap.size W W2:=by
    rw[hW2];exact((Below.refl _ _).alloc (Nat.le_refl _) _).alloc (by rw[Zaa];omega) _
  have ha0:At W2 W.heap.size #[.int .i64 0,.int .i64 0,.int .i64 0] 26:=by
    rw[hW2];exact(At.new _ _ _).alloc _
  have ha1:At W2 (W.heap.size+1) #[.int .i64 M,.int .i64 C,.int .i64 S] 26:=by
    rw[hW2,<-Zaa W (.cells #[.int .i64 0,.int .i64 0,.int .i64 0] 26)];exact At.new _ _ _
  have HSZ:=Lib.hid hsz;have HB2:=Lib.hid hb2;have HA0:=Lib.hid ha0;have HA1:=Lib.hid ha1;rw[<-hW2];clear hW2 hsz hb2 ha0 ha1;go_loopw [12,13] (fun v q wr=>∃k:Nat,k≤M/\q=.int .i64 k/\wr.ownsRow (W.heap.size+2) 3 1 v k (kcells (List.replicate k (1+P)))/\Below (W.heap.size+2) W2 wr) (fun _ q _=>M-(intOf q).toNat);case atStart=>exact⟨0,by omega,rfl,World.ownsRow_nil _ _ _ _,Below.refl _ _⟩
  case round=>
    obtain⟨k,hk,rfl,hown,hbel⟩:=hrel;have HO:=Lib.hid hown;have HB:=Lib.hid hbel;have hA:=HA1.out.below hbel (by omega);have c0:=hA.cell 0;have c1:=hA.cell 1;have c2:=hA.cell 2;have hwz:W.heap.size+2≤wr.heap.size:=by
      have h1:=hbel.size;have h2:=HSZ.out;omega
    clear hA hown hbel;by_cases hkM:k<M
    · have K1:Hid (k+1≤M):=hkM
      have hkm:(k:Int)<(M:Int):=by omega
      go_wp2_with (refine Zay rfl _ _ 41 3 8 rfl slice_intsC (W.heap.size+2) _ k _ rfl HO.out _ rfl rfl (by unfold maxLen;omega) (by omega) hwz ?_;intro v' w5 hown5 hb5 hgr5);refine⟨⟨k+1,K1.out,by go_num,?_,HB.out.trans hb5⟩,by simp[intOf];omega⟩;rw[List.replicate_succ',Zhe,show(((1+P:Nat)):Int)=1+(P:Int) by omega];exact hown5
    · obtain rfl:M=k:=by omega
      go_upto_region 15 with (first
        | (refine Zay rfl _ _ 41 3 8 rfl slice_intsC (W.heap.size + 2) _ M _ rfl HO.out _ rfl rfl (by unfold maxLen; omega) (by omega) hwz ?_; intro v' w5 hown5 hb5 hgr5
           have HV5:Hid (w5.ownsRow (W.heap.size+2) 3 1 v' (rszL M P ring).length (kcells (rszL M P ring))):=by
             rw[Zby];unfold rszL;rw[Zhe,show(((2+ring:Nat)):Int)=2+(ring:Int) by omega];exact hown5
           have HB5:Hid (Below (W.heap.size+2) W2 w5):=HB.out.trans hb5
           clear hown5 hb5 hgr5 c0 c1 c2)
        | (go_at_call 14; (with_reducible refine (HBN.out _ _ _ HV5.out).mono ?_); rintro e w6 ⟨b, rfl, hbm⟩; obtain ⟨T, hba, htz, hbw, hbe⟩ := hbm
           have HB6:Hid (Below (W.heap.size+2) W2 w6):=HB5.out.trans (hbe.mono (by have h1:=HB5.out.size;have h2:=HSZ.out;omega))
           have hA6:=HA1.out.below HB6.out (by omega)
           have c0:=hA6.cell 0
           have c1:=hA6.cell 1
           have c2:=hA6.cell 2
           have HZ6:Hid (W.heap.size+2≤w5.heap.size):=by have h1:=HB5.out.size;have h2:=HSZ.out;exact Nat.le_trans (by omega) h1
           have HCC:=Lib.hid (HCR.out W2 w6 T b hba (by rw[HSZ.out];exact HB6.out) (fun q hq=>htz q (by have:=HZ6.out;have:=HSZ.out;omega)))
           have HTZ:=Lib.hid htz
           clear hba htz hbw hbe hA6)
        | (go_at_call 15; (with_reducible refine HCC.out.mono ?_); rintro e w7 ⟨⟨ap, stg, A, T', s, rfl, hAb, hmd⟩, hch⟩
           have hA7:=(HA1.out.below HB6.out (by omega)).mod hch (fun e=>e (HTZ.out _ (by have:=HZ6.out;omega)))
           have hA0:=(HA0.out.below HB6.out (by omega)).mod hch (fun e=>e (HTZ.out _ (by have:=HZ6.out;omega)))
           have HMD:=Lib.hid hmd
           have HAB:=Lib.hid hAb
           have HG7:=Lib.hid hA7
           have HG0:=Lib.hid hA0
           clear hch hmd hAb c0 c1 c2 hA7 hA0))
      have HS7:Hid (∀w,Chg (fun q=>q=W.heap.size) w7 w->w.cell? ⟨W.heap.size+1,0,none⟩=some (.int .i64 M)/\w.cell? ⟨W.heap.size+1,1,none⟩=some (.int .i64 C)/\w.cell? ⟨W.heap.size+1,2,none⟩=some (.int .i64 S)):=fun w h=>by
        have k:=HG7.out.mod h (by omega);exact⟨k.cell 0,k.cell 1,k.cell 2⟩
      have HCD:Hid (Chg (fun q=>q=W.heap.size) w7 w7.drew):=(Chg.refl _ _).drew;have HG0d:At w7.drew W.heap.size #[.int .i64 0,.int .i64 0,.int .i64 0] 26:=HG0.out.mod ((Chg.refl (fun _=>False) _).drew) (fun e=>e);have HCE:Hid (Chg (fun q=>q=W.heap.size) w7 (w7.drew.setRow W.heap.size #[.int .i64 M,.int .i64 C,.int .i64 S])):=HCD.out.trans ⟨rfl,rfl,rfl,by simp,fun q hq e=>setRow_other _ _ _ _ e⟩;refine wp_region_noPanic ?_;refine wp_region_held_drew (S:=fun w=>w.cell? ⟨W.heap.size+1,0,none⟩=some (.int .i64 M)/\w.cell? ⟨W.heap.size+1,1,none⟩=some (.int .i64 C)/\w.cell? ⟨W.heap.size+1,2,none⟩=some (.int .i64 S)) (by kernel_rfl) (HS7.out _ HCD.out) (fun hHeld=> ?_);refine anyH_take (i:=0) (some 79) (v:=(.pointer (some ⟨b,0,none⟩))) rfl rfl (by kernel_rfl) (by kernel_rfl) (by kernel_rfl) (fun _ _ _ h=>h) (Or.inl ⟨by rfl,fun w hSw=>by go_simp⟩) hHeld ?_;try simp only [Act.put,List.setIfInBounds_toArray,List.set_cons_zero,List.set_cons_succ]
      refine anyH_take (i:=1) (some 80) (v:=(.pointer (some ⟨ap,0,none⟩))) rfl rfl (by kernel_rfl) (by kernel_rfl) (by kernel_rfl) (fun _ _ _ h=>h) (Or.inl ⟨by rfl,fun w hSw=>by go_simp⟩) hHeld ?_;try simp only [Act.put,List.setIfInBounds_toArray,List.set_cons_zero,List.set_cons_succ]
      refine anyH_take (i:=2) (some 81) (v:=(.agg #[.int .i64 M,.int .i64 C,.int .i64 S])) rfl rfl (by kernel_rfl) (by kernel_rfl) (by kernel_rfl) (fun _ _ _ h=>h) (Or.inl ⟨by rfl,fun w hSw=>by obtain⟨k0,k1,k2⟩:=hSw;go_simp⟩) hHeld ?_;try simp only [Act.put,List.setIfInBounds_toArray,List.set_cons_zero,List.set_cons_succ]
      refine anyH_take (i:=3) (some 8) (v:=(.pointer (some ⟨b,0,none⟩))) rfl rfl (by kernel_rfl) (by kernel_rfl) (by kernel_rfl) (fun _ _ _ h=>h) (Or.inl ⟨by rfl,fun w hSw=>by go_simp⟩) hHeld ?_;try simp only [Act.put,List.setIfInBounds_toArray,List.set_cons_zero,List.set_cons_succ]
      refine anyH_take (i:=4) (some 9) (v:=(.pointer (some ⟨ap,0,none⟩))) rfl rfl (by kernel_rfl) (by kernel_rfl) (by kernel_rfl) (fun _ _ _ h=>h) (Or.inl ⟨by rfl,fun w hSw=>by go_simp⟩) hHeld ?_;try simp only [Act.put,List.setIfInBounds_toArray,List.set_cons_zero,List.set_cons_succ]
      refine wpAnyH_ready (rs := [5]) (by kernel_rfl) (by simp) ?_; refine AllReadyH.cons (o := { dst := none, op := Op.store 26 (Operand.tmp 10) (Operand.tmp 81), type := 0, pos := "more.go:28", after := #[{ on := 2, ground := Ground.data }, { on := 4, ground := Ground.chain }, { on := 0, ground := Ground.phase }, { on := 1, ground := Ground.phase }, { on := 2, ground := Ground.phase }, { on := 3, ground := Ground.phase }, { on := 4, ground := Ground.phase }], guard := none }) rfl (fun K hK => ?_) AllReadyH.nil; refine step_store_agg (by rfl) 26 (Operand.tmp 10) (Operand.tmp 81) (by rfl) W.heap.size (by rfl) #[.int .i64 M, .int .i64 C, .int .i64 S] (by rfl) 26 #[.int .i64 0, .int .i64 0, .int .i64 0] HG0d (by kernel_rfl) rfl (by simp [Value.oneCell']) ?_; refine hK.out _ _ (HS7.out _ HCE.out) (fun hHeld => ?_); clear hK K; try simp only [Act.put]
      refine wpAnyH_done (by kernel_rfl) ?_ _;refine NoPanic.normal ?_;go_wp2;have HGS:At (w7.drew.setRow W.heap.size #[.int .i64 M,.int .i64 C,.int .i64 S]) W.heap.size #[.int .i64 M,.int .i64 C,.int .i64 S] 26:=HG0d.row _;have hlv:=run_loadVar_row (P:=Tryz.prog) _ W.heap.size 26 26 _ _ _ HGS Tryz.underlying26 rfl (by kernel_rfl);refine bodyPost_ret (v:=.tuple #[.pointer (some ⟨b,0,none⟩),.pointer (some ⟨ap,0,none⟩),.agg #[.int .i64 M,.int .i64 C,.int .i64 S]]) ?_ rfl ⟨ap,stg,A,T',s,?_,?_⟩
      · rw[results_ttc rfl]
        simp[asAddr,Result.andThen,hlv]
      · rw[HAB.out]
      · obtain⟨h1,h2,h3,h4,h5,h6,h7,h8,h9⟩:=HMD.out
        obtain⟨x1,x2,x3,x4,x5,x6⟩:=h7;have hW8:=HSZ.out;have hz7:=h9.size;exact⟨h1.boxed HG0.out (h8 _ (by omega)) (by decide) (by decide) (by decide) (by decide) (by decide) (by decide) HCE.out,h2.mod HCE.out (by omega),h3.mod HCE.out (by omega),h4,h5,h6,⟨by omega,by omega,by omega,by omega,by omega,by omega⟩,fun q hq=>h8 q (by omega),(HB2.out.trans (h9.mono (by omega))).trans (HCE.out.below fun q hq=>⟨by omega,fun e=>by omega⟩)⟩
end
section
theorem batch_split {M C S:Nat} {us:List (Int×List UInt8)} (ok:BatchOk M C S us):splitCode M C S us=0:=by
  unfold splitCode;rw[if_neg (by rw[ok.hg];simp),if_neg (by have:=ok.few;omega),if_neg,if_neg]
  · rw[Zew]
    rintro ⟨u,hu,h⟩;exact h (ok.len u hu)
  · rw[Zew]
    rintro ⟨u,hu,h⟩;exact h (ok.there u hu)
theorem wcode_one {M C S ring:Nat} {u:Int×List UInt8} (ok:BatchOk M C S [u]) (h:5≤ring):wcode M C S ring [u]=0:=by
  have h2:=Zf8 M C (S*C) [u] 1;unfold wcode;rw[if_neg (by rw[batch_split ok];simp),if_neg (by simp),if_neg];have:tabAll M C [u]=tabOf M C [u] 1:=rfl;rw[this];omega
theorem layK_way (us:List (Int×List UInt8)) (b:Nat):∀k,(∀D E:Nat->Sec,layK D us k b=layK E us k b)\/(∀D:Nat->Sec,layK D us k b=D b)
  |0=>.inr fun _=>rfl
  |k+1=>by
    by_cases e:(b:Int)=(us.getD k put0).1
    · left
      intro D E;show(if (b:Int)=(us.getD k put0).1 then _ else _)=(if (b:Int)=(us.getD k put0).1 then _ else _)
      rw[if_pos e,if_pos e]
    · have h1:∀D:Nat->Sec,layK D us (k+1) b=layK D us k b:=fun D=>if_neg e
      rcases layK_way us b k with h|h
      · left
        intro D E;rw[h1,h1,h D E]
      · right
        intro D;rw[h1,h D]
theorem wLaid_cong {D E:Nat->Sec} {M C S ring:Nat} (us:List (Int×List UInt8)) {b:Nat} (h:D b=E b):wLaid M C S ring us D b=wLaid M C S ring us E b:=by
  unfold wLaid;split
  · rcases layK_way us b us.length with k|k
    · exact k D E
    · rw[k D,k E,h]
  · exact h
abbrev Bx:=Nat×Array Value×TypeId
theorem row_boxN {w:World} {B n sz:Nat} {e:TypeId} {v:Value} {xs:List Value} (h:w.ownsRow B e sz v n xs) (hn:0<n):∃g cap cur,v=.slice (some ⟨g,0,none⟩) n cap/\n≤cap/\cap≤maxLen/\At w g cur e/\B≤g/\∀i:Nat,i<n*sz->cur[i]?=xs[i]?:=by
  rcases h.2 with ⟨rfl,h0⟩|⟨g',cap,cur,rfl,hb,hgt,hc,hm,hs,ht⟩
  · omega
  · refine⟨g',cap,cur,rfl,hc,hm,hgt,hb,fun i hi=> ?_⟩
    rw[<-ht,List.getElem?_take,if_pos (by omega)];simp
theorem puts_seg {w:World} {g c:Nat} {cur:Array Value} {ps:List (Int×Nat×List UInt8)} (hg:At w g cur 60) (hc:∀i:Nat,i<ps.length*2->cur[i]?=(ps.flatMap putCells)[i]?) (hd:∀p∈ps,At w p.2.1 (ucells p.2.2).toArray 5/\p.2.2.length=128) (k m:Nat) (hk:k+m≤ps.length) (hm:ps.length≤1000):PutSeg w (.slice (some ⟨g,k*2,none⟩) m c) (((ps.drop k).take m).map fun p=>(p.1,p.2.2)):=by
  have hl:(((ps.drop k).take m).map fun p=>(p.1,p.2.2)).length=m:=by simp;omega
  refine⟨some ⟨g,k*2,none⟩,c,by rw[hl],by rw[hl];omega,fun u hu=> ?_,.inr ⟨g,k*2,rfl,hg.lt,fun j hj=> ?_⟩⟩
  · obtain⟨p,hp,rfl⟩:=List.mem_map.1 hu
    have:=(hd p (List.mem_of_mem_drop (List.mem_of_mem_take hp))).2;show p.2.2.length≤_
    omega
  · rw[hl]at hj
    have hkj:k+j<ps.length:=by omega
    have e1:=(hg.cell ((k+j)*2)).trans ((hc ((k+j)*2) (by omega)).trans (puts_at ps (k+j) 0 hkj (by omega)));have e2:=(hg.cell ((k+j)*2+1)).trans ((hc ((k+j)*2+1) (by omega)).trans (puts_at ps (k+j) 1 hkj (by omega)));have hdd:=hd _ (List.getElem_mem hkj);have he:(((ps.drop k).take m).map fun p=>(p.1,p.2.2))[j]'(by rw[hl];exact hj)=((ps[k+j]'hkj).1,(ps[k+j]'hkj).2.2):=by simp
    rw[he];refine⟨by rw[<-Nat.add_mul];exact e1,_,by rw[<-Nat.add_mul];exact e2,Zk9 hdd.1 hdd.2⟩
structure PuBox (w:World) (B:Nat) (v:Value) (us:List (Int×List UInt8)) (PB:List Bx):Prop where
  box:∀x∈PB,At w x.1 x.2.1 x.2.2/\B≤x.1/\(x.2.2=60\/x.2.2=5)
  seg:∀W,(∀x∈PB,At W x.1 x.2.1 x.2.2)->PutSeg W v us
  part:us= []\/∃g c,v=.slice (some ⟨g,0,none⟩) us.length c/\us.length≤c/\c≤maxLen/\∀k (hk:k<us.length) W c',(∀x∈PB,At W x.1 x.2.1 x.2.2)->PutSeg W (.slice (some ⟨g,k*2,none⟩) 1 c') [us[k]'hk]
theorem PutRow.box {w:World} {B:Nat} {v:Value} {ps:List (Int×Nat×List UInt8)} (h:PutRow w B v ps) (hm:ps.length≤1000):∃PB,PuBox w B v (ps.map fun p=>(p.1,p.2.2)) PB:=by
  by_cases h0:ps= []
  · subst h0
    obtain⟨a,c,rfl⟩:=Zab h.row;exact⟨[],⟨fun x hx=>by simp at hx,fun W _=>⟨a,c,rfl,by simp,(fun u hu=>by simp at hu),.inl rfl⟩,.inl rfl⟩⟩
  · obtain⟨g,c,cur,rfl,hc1,hc2,hg,hb,hcur⟩:=row_boxN h.row (List.length_pos_iff.2 h0)
    refine⟨(g,cur,60)::ps.map fun p=>(p.2.1,(ucells p.2.2).toArray,5),⟨fun x hx=> ?_,fun W hW=> ?_,.inr ⟨g,c,by simp,by simpa using hc1,hc2,fun k hk W c' hW=> ?_⟩⟩⟩
    · rcases List.mem_cons.1 hx with e|e
      · subst e
        exact⟨hg,hb,.inl rfl⟩
      · obtain⟨p,hp,rfl⟩:=List.mem_map.1 e
        exact⟨(h.dat p hp).1,(h.dat p hp).2.2,.inr rfl⟩
    · have:=puts_seg (c:=c) (hW _ List.mem_cons_self) hcur (fun p hp=>⟨hW _ (List.mem_cons_of_mem _ (List.mem_map.2 ⟨p,hp,rfl⟩)),(h.dat p hp).2.1⟩) 0 ps.length (by omega) hm
      rw[List.drop_zero,List.take_length,Nat.zero_mul]at this;exact this
    · have hk':k<ps.length:=by simpa using hk
      have:=puts_seg (c:=c') (hW _ List.mem_cons_self) hcur (fun p hp=>⟨hW _ (List.mem_cons_of_mem _ (List.mem_map.2 ⟨p,hp,rfl⟩)),(h.dat p hp).2.1⟩) k 1 (by omega) hm;have e:(((ps.drop k).take 1).map fun p=>(p.1,p.2.2))= [(ps.map fun p=>(p.1,p.2.2))[k]'hk]:=by
        rw[List.drop_eq_getElem_cons hk',List.take_succ_cons,List.take_zero,List.map_cons,List.map_nil,List.getElem_map]
      rw[e]at this;exact this
structure Twin (w0 W:World) (T1:Nat->Nat) (A1:Adr) (R1:RS) (T2:Nat->Nat) (A2:Adr) (R2:RS) (L:List Bx):Prop where
  two:Two w0 W T1 A1 R1 T2 A2 R2
  box:∀x∈L,At W x.1 x.2.1 x.2.2/\T1 x.1=0/\T2 x.1=0/\116≠x.2.2/\3≠x.2.2/\148≠x.2.2/\190≠x.2.2
section
variable {w0 W W':World} {T1 T2 T1':Nat->Nat} {A1 A2:Adr} {R1 R2 R1':RS} {L:List Bx}
theorem Twin.one (h:Twin w0 W T1 A1 R1 T2 A2 R2 L):Ab w0 W T1 A1 R1 L:=⟨h.two.one,fun x hx=>by obtain⟨k1,k2,k3,k4⟩:=h.box x hx;exact⟨k1,k2,k4⟩⟩
theorem Twin.swap (h:Twin w0 W T1 A1 R1 T2 A2 R2 L):Twin w0 W T2 A2 R2 T1 A1 R1 L:=⟨h.two.swap,fun x hx=>by obtain⟨k1,k2,k3,k4⟩:=h.box x hx;exact⟨k1,k3,k2,k4⟩⟩
theorem Twin.below (h:Twin w0 W T1 A1 R1 T2 A2 R2 L) (hb:Below W.heap.size W W'):Twin w0 W' (tidy W' T1) A1 R1 (tidy W' T2) A2 R2 L:=
  ⟨h.two.below hb,fun x hx=>by obtain⟨k1,k2,k3,k4⟩:=h.box x hx;exact⟨k1.below hb k1.lt,tidy_zero k2,tidy_zero k3,k4⟩⟩
theorem Twin.step (h:Twin w0 W T1 A1 R1 T2 A2 R2 L) (k:Ab w0 W' T1' A1 R1' L) (s:Stp W T1 A1 W' T1'):Twin w0 W' (tidy W' T1') A1 R1' (tidy W' T2) A2 R2 L:=
  ⟨h.two.step k.ln s,fun x hx=>by obtain⟨k1,k2,k3,k4⟩:=h.box x hx;exact⟨(k.box x hx).1,tidy_zero (k.box x hx).2.1,tidy_zero k3,k4⟩⟩
theorem Twin.add (h:Twin w0 W T1 A1 R1 T2 A2 R2 L) (B:List Bx) (hB:∀x∈B,At W x.1 x.2.1 x.2.2/\T1 x.1=0/\T2 x.1=0/\116≠x.2.2/\3≠x.2.2/\148≠x.2.2/\190≠x.2.2):Twin w0 W T1 A1 R1 T2 A2 R2 (B++L):=
  ⟨h.two,fun x hx=>(List.mem_append.1 hx).elim (hB x) (h.box x)⟩
theorem Twin.grow (h:Twin w0 W T1 A1 R1 T2 A2 R2 L) (hb:Below W.heap.size W W') (B:List Bx) (hB:∀x∈B,At W' x.1 x.2.1 x.2.2/\W.heap.size≤x.1/\(x.2.2=60\/x.2.2=5)):Twin w0 W' (tidy W' T1) A1 R1 (tidy W' T2) A2 R2 (B++L):=
  (h.below hb).add B fun x hx=>by
    obtain⟨k1,k2,k3⟩:=hB x hx;refine⟨k1,tidy_zero (h.two.one.virg _ k2),tidy_zero (h.two.two.virg _ k2),?_⟩;rcases k3 with e|e<;>rw[e]<;>decide
theorem Twin.start {w3 w4:World} {L1 L2:List Bx} (h1:Ab w0 w3 T1 A1 R1 L1) (h2:Ab w3 w4 T2 A2 R2 L2) (hlo:∀x∈L2,w3.heap.size≤x.1):Twin w0 w4 (tidy w4 T1) A1 R1 (tidy w4 T2) A2 R2 (L1++L2):=by
  refine⟨Two.start h1.ln h2.ln,fun x hx=> ?_⟩;rcases List.mem_append.1 hx with e|e
  · obtain⟨k1,k2,k3⟩:=h1.box x e
    exact⟨k1.below h2.ln.bel k1.lt,tidy_zero k2,tidy_zero (h2.ln.old _ k1.lt).1,k3⟩
  · obtain⟨k1,k2,k3⟩:=h2.box x e
    exact⟨k1,tidy_zero (h1.ln.virg _ (hlo x e)),tidy_zero k2,k3⟩
end
end
section
def KnA (W w:World) (A:Adr) (L:List Bx) (D:RS->(Nat->Nat->Sec)->Prop):Prop:=∃T R V,Ab W w T A R L/\D R V
def offT (t:TypeId):Prop:=116≠t/\3≠t/\148≠t/\190≠t
instance (t:TypeId):Decidable (offT t):=inferInstanceAs (Decidable (_/\_))
section
variable {W w w':World} {A:Adr} {L:List Bx} {D E:RS->(Nat->Nat->Sec)->Prop}
theorem KnA.below (h:KnA W w A L D) (hb:Below w.heap.size w w'):KnA W w' A L D:=by
  obtain⟨T,R,V,h1,h2⟩:=h;exact⟨T,R,V,h1.below hb,h2⟩
theorem KnA.add (h:KnA W w A L D) (hb:Below w.heap.size w w') {g:Nat} {cs:Array Value} {t:TypeId} (ha:At w' g cs t) (hg:w.heap.size≤g) (ht:offT t):KnA W w' A ((g,cs,t)::L) D:=by
  obtain⟨T,R,V,h1,h2⟩:=h;exact⟨T,R,V,(h1.below hb).add ha (h1.ln.virg _ hg) ht.1 ht.2.1 ht.2.2.1 ht.2.2.2,h2⟩
theorem KnA.push (h:KnA W w A L D) (cs:Array Value) (t:TypeId) (ht:offT t):KnA W (w.alloc (.cells cs t)) A ((w.heap.size,cs,t)::L) D:=by
  obtain⟨T,R,V,h1,h2⟩:=h;exact⟨T,R,V,h1.push cs t ht.1 ht.2.1 ht.2.2.1 ht.2.2.2,h2⟩
theorem KnA.get (h:KnA W w A L D) (i:Nat) {g:Nat} {cs:Array Value} {t:TypeId} (hi:L[i]?=some (g,cs,t)):At w g cs t:=by
  obtain⟨T,R,V,h1,h2⟩:=h;exact h1.get i hi
theorem KnA.bel (h:KnA W w A L D):Below W.heap.size W w:=by
  obtain⟨T,R,V,h1,h2⟩:=h;exact h1.ln.bel
theorem KnA.imp (h:KnA W w A L D) (hE:∀R V,D R V->E R V):KnA W w A L E:=by
  obtain⟨T,R,V,h1,h2⟩:=h;exact⟨T,R,V,h1,hE R V h2⟩
theorem kna_counts (h:KnA W w A L D) {c0 c1 c2:Int} (hD:∀R V,D R V->R.s.cnt 0=c0/\R.s.cnt 1=c1/\R.s.cnt 2=c2):
    Calls Tryz.prog 17 #[.pointer (some ⟨A.b,0,none⟩)] w fun e w'=>e=.returned (.agg #[.int .i64 c0,.int .i64 c1,.int .i64 c2])/\KnA W w' A L D:=by
  obtain⟨T,R,V,h1,h2⟩:=h;obtain⟨lg,vw,X,hr⟩:=h1.ln.rw;obtain⟨e0,e1,e2⟩:=hD R V h2;refine(Zp2 hr.bay).mono ?_;rintro e w' ⟨rfl,hb⟩;refine⟨?_,T,R,V,h1.below hb,h2⟩;unfold cntVal;rw[e0,e1,e2]
theorem kna_write {M C S ring a b:Nat} {lazy:Bool} {g:Int} (h:KnA W w A L D) {ap stg id ev sf:Nat} (hbx:arB ap stg A M C S ring lazy id ev sf∈L) (hD:∀R V,D R V->ArP R V M C S ring lazy g a b) (hin:Within a b) (pv:Value) (us:List (Int×List UInt8)) (PB:List Bx) (hP:∀x∈PB,x∈L) (hp:∀W',(∀x∈PB,At W' x.1 x.2.1 x.2.2)->PutSeg W' pv us) (h5:5≤ring):
    Calls Tryz.prog 11 #[.pointer (some ⟨ap,0,none⟩),pv] w fun e w'=>e=.returned (.int .u16 (wcode M C S ring us:Nat))/\KnA W w' A L fun R' V'=>ArP R' V' M C S ring lazy g (a+1000000) (b+8*us.length+4)/\∃R V,D R V/\(∀k,k<S*C*(M-1)->blkOf M C V' k=wLaid M C S ring us (blkOf M C V) k)/\(wcode M C S ring us≠0->R'=R)/\(us≠ []->wcode M C S ring us=0->∃ps R1 R4 sec,Batched R V us ps R1 R4 R' sec):=by
  obtain⟨T,R,V,h1,h2⟩:=h;obtain⟨lg,vw,X,hr⟩:=h1.ln.rw;refine(ar_write h1 hbx (hD R V h2) hin pv (us:=us) (fun W' hc=>hp W' fun x hx=>(h1.box x (hP x hx)).1.mod hc (fun e=>Zaw (h1.box x (hP x hx)).1 hr.rw (fun t=>(h1.box x (hP x hx)).2.2.1 t.symm) e)) h5).mono ?_;rintro e w' ⟨rfl,T',R',V',m1,m2,m3,m4,m5,m6⟩;exact⟨rfl,T',R',V',m1,m3,R,V,h2,m4,m5,m6⟩
theorem kna_read {M C S ring a b:Nat} {lazy:Bool} {g:Int} (h:KnA W w A L D) {ap stg id ev sf:Nat} (hbx:arB ap stg A M C S ring lazy id ev sf∈L) (hD:∀R V,D R V->ArP R V M C S ring lazy g a b) (hin:Within (a+2000000) b) (Y:Nat->Sec) (k n:Nat) (hn:0<n) (hk:k+n≤S*C*(M-1)) (hY:∀R V,D R V->∀i,i<n->blkOf M C V (k+i)=Y i):
    Calls Tryz.prog 12 #[.pointer (some ⟨ap,0,none⟩),.int .i64 k,.int .i64 n] w fun e w'=>∃v bx,e=.returned (.tuple #[v,.int .u16 0])/\(bx.2.2=5/\(∃gb cap,v=.slice (some ⟨gb,0,none⟩) (128*n) cap/\128*n≤cap)/\∀W',At W' bx.1 bx.2.1 bx.2.2->Seg W' v (flatD Y n))/\KnA W w' A (bx::L) fun R' V'=>ArP R' V' M C S ring lazy g (a+2000000) b/\∃R c,D R V'/\R'={R with s:=R.s.ticks 0 c}:=by
  obtain⟨T,R,V,h1,h2⟩:=h;have p:=hD R V h2;have hblk:=Zxp p.good.geo;have hbm:S*C*(M-1)≤61440:=by
    unfold RS.blocks at hblk;rw[p.M,p.C,p.S]at hblk;exact hblk
  have hlen:∀i,i<n->(Y i).length=128:=fun i hi=>by
    rw[<-hY R V h2 i hi];have:=Zxw p.good (k:=k+i) (by rw[p.M,p.C,p.S];omega);rw[p.M,p.C]at this;exact this
  refine(ar_read h1 hbx p hin k n hk).mono ?_;rintro e w' ⟨v,c,rfl,hc,m1,m2,m3⟩;rw[flatD_congr (hY R V h2)]at m1;have hfl:=Zxj hlen;obtain⟨gb,cap,cur,rfl,hcap,-,hat,hlo,hcur⟩:=row_boxN m1 (by omega);refine⟨_,(gb,cur,5),rfl,⟨rfl,⟨gb,cap,rfl,hcap⟩,fun W' hW'=> ?_⟩,T,_,V,m2.add hat (h1.ln.virg _ hlo) (by decide) (by decide) (by decide) (by decide),(p.ticks c).mono (by omega) (Nat.le_refl _),R,c,h2,rfl⟩;rw[<-hfl];refine Zea hW' ?_ fun j hj=> ?_
  · rw[hfl];exact hcap
  · rw[hcur j (by rw[Nat.mul_one,<-hfl];exact hj)]
    unfold ucells;rw[List.getElem?_map,List.getElem?_eq_getElem hj];rfl
theorem kna_blocks {M C S ring a b:Nat} {lazy:Bool} {g:Int} (h:KnA W w A L D) {ap stg id ev sf:Nat} (hbx:arB ap stg A M C S ring lazy id ev sf∈L) (hg:geoIs M C S=true):
    Calls Tryz.prog 9 #[.pointer (some ⟨ap,0,none⟩)] w fun e w'=>e=.returned (.int .i64 (S*C*(M-1):Nat))/\KnA W w' A L D:=by
  obtain⟨T,R,V,h1,h2⟩:=h;obtain⟨g1,g2,g3,g4⟩:=Zbe hg;refine(ar_blocks (h1.box _ hbx).1 hg).mono ?_;rintro e w' ⟨rfl,hb⟩;refine⟨?_,T,R,V,h1.below hb,h2⟩;rw[Int.natCast_mul,Int.natCast_mul,Int.natCast_sub (by omega)];rfl
end
def k4 (x:Sec):List (Int×List UInt8):= [(0,x),(1,x),(2,x),(3,x)]
theorem k4_most (x:Sec):mostIn 3 (2*1) (tabAll 3 1 (k4 x))=6:=by kernel_rfl
theorem k4_ok (x:Sec) (hx:x.length=128):BatchOk 3 1 2 (k4 x):=by
  refine⟨by decide,by show 4≤256;omega,fun u hu=> ?_,fun u hu=> ?_⟩
  · unfold k4 at hu
    simp only [List.mem_cons,List.not_mem_nil,or_false]at hu;rcases hu with rfl|rfl|rfl|rfl<;>(refine⟨?_,?_⟩<;>dsimp only<;>omega)
  · unfold k4 at hu
    simp only [List.mem_cons,List.not_mem_nil,or_false]at hu;rcases hu with rfl|rfl|rfl|rfl<;>exact hx
theorem k4_code (x:Sec) (hx:x.length=128):wcode 3 1 2 10 (k4 x)=122:=by
  unfold wcode;rw[if_neg (by rw[batch_split (k4_ok x hx)];simp),if_neg (by simp[k4]),if_pos (by rw[k4_most];omega)]
def kn0 (s:BaySt):RS->(Nat->Nat->Sec)->Prop:=fun R V=>R=kR s/\V=zeroV/\ArP R V 3 1 2 10 false (-1) 80000 80000/\Blank 3 1 2 10 s 21 5
def kn1:RS->(Nat->Nat->Sec)->Prop:=fun R V=>ArP R V 3 1 2 10 false (-1) 1080000 80012/\(R.s.cnt 0=1/\R.s.cnt 1=28/\R.s.cnt 2=7)/\blkOf 3 1 V 0=secA 97
def kn2:RS->(Nat->Nat->Sec)->Prop:=fun R V=>ArP R V 3 1 2 10 false (-1) 3080000 80012
end
structure KnownAt (R':RS) (n1 n2:Nat):Prop where
  c0:R'.s.cnt 0=1
  c1:R'.s.cnt 1=(n1:Int)+7
  c2:R'.s.cnt 2=(n2:Int)+2
  sealed:R'.sealed=true
  wait:R'.wait= []
  M:R'.M=3
  C:R'.C=1
  S:R'.S=2
  fr:R'.fr=fun _=> -1
  small:R'.s.small 100
  next:R'.next≤10
theorem known_at {s:BaySt} {x:Sec} {ps:List Pat} {R1 R4 R':RS} {sec:List UInt8} {n1 n2:Nat} (hm:Blank 3 1 2 10 s n1 n2) (hn1:n1≤90) (hx:x.length=128) (h:Batched (kR s) zeroV (kU x) ps R1 R4 R' sec):KnownAt R' n1 n2:=by
  have hg:Good (kR s) zeroV:=good_blank (by decide) (by omega) (by omega) hm;have ok:=Zgz x hx;have e1:R1=kR s:=by
    rcases h.room with ⟨-,e⟩|⟨hr,-⟩
    · exact e
    · exfalso
      have hr':10-0<2*mostIn 3 (2*1) (tabAll 3 1 (kU x))+1:=hr;rw[Zu9]at hr';omega
  obtain⟨-,hpats,hahead,hslen,hfin⟩:=h;subst e1;rw[Zjb]at hpats hahead;have hpats':ps.Perm (batAll (kR s) zeroV (kU x) 1):=hpats;have hahead':PlacedR (({kR s with s:=(kR s).s.ticks 0 (batCnt (kR s) (kU x) 1)}:RS).logged ps) R4:=hahead;obtain⟨newp,hall⟩:=Zxg s zeroV x;have hlen:ps.length=2:=by rw[hpats'.length_eq,hall];rfl
  have hlg:Loggable ps:=Zd7 hg ok (by rw[Zjb];simp) (by rw[Zjb];exact hpats');rw[Zxc]at hahead';have g2:=hg.ticks 1;obtain⟨g3,l0,l1,l2,l3,-⟩:=g2.logged hlg;have hw3:(({kR s with s:=(kR s).s.ticks 0 1}:RS).logged ps).wait= []:=rfl;have p1:=Zjr hahead' [] List.nodup_nil (fun k=>⟨fun e=>(by cases e),fun ⟨p,hp,_⟩=>(by rw[hw3]at hp;cases hp)⟩) (fun k hk=>by cases hk);obtain⟨g4,hw4⟩:=g3.placed hahead';obtain⟨-,p0,-,p2,p3,s4,e4⟩:=hahead'.facts g3.ready;have q0:({kR s with s:=(kR s).s.ticks 0 1}:RS).s.cnt 0=1:=by
    show(s.ticks 0 1).cnt 0=1
    rw[Zb7,hm.c0];rfl
  have q1:({kR s with s:=(kR s).s.ticks 0 1}:RS).s.cnt 1=(n1:Int):=by
    show(s.ticks 0 1).cnt 1=_
    rw[Zbo _ _ _ _ (by decide),hm.c1]
  have q2:({kR s with s:=(kR s).s.ticks 0 1}:RS).s.cnt 2=(n2:Int):=by
    show(s.ticks 0 1).cnt 2=_
    rw[Zbo _ _ _ _ (by decide),hm.c2]
  have r0:R4.s.cnt 0=1:=by rw[p0,l0,q0]
  have r1:R4.s.cnt 1=(n1:Int)+4:=by rw[p1,l1,q1,hlen];show(n1:Int)+((2*2:Nat):Int)+((0:Nat):Int)=_;omega
  have r2:R4.s.cnt 2=(n2:Int)+1:=by rw[p2,l2,q2]
  have hM4:R4.M=3:=by rw[e4];rfl
  have hC4:R4.C=1:=by rw[e4];rfl
  have hS4:R4.S=2:=by rw[e4];rfl
  have hfr4:R4.fr=fun _=> -1:=by rw[e4];rfl
  have hsz4:R4.size=10:=by rw[e4];rfl
  have hus4:R4.used=0:=by rw[e4];rfl
  have hnx4:R4.next=1:=by rw[e4];rfl
  have hlz4:R4.lazy=false:=by rw[e4];rfl
  have ok4:BatchOk (kR s).M (kR s).C (kR s).S (kU x):=ok;have hdn4:∀m r,R4.dn m r=(kR s).dn m r:=fun m r=>by unfold RS.dn;rw[hfr4];rfl
  have hperm:ps.Perm (batAll (kR s) zeroV (kU x) (batRows (kR s) (kU x)).length):=by rw[Zjb];exact hpats'
  obtain⟨g5,hp5⟩:=g4.seal (V':=vNext (kR s) zeroV (kU x)) hw4 hslen (cost:=2*ps.length+1) (ps:=ps) (by rw[hsz4,hus4];omega) (by rw[hnx4];omega)
    (fun m r hm' hr=>by rw[hM4]at hm';rw[hS4,hC4]at hr;exact Zfp hg ok4 hm' hr)
    (fun r hr i hi=>by rw[hM4];rw[hS4,hC4]at hr;exact Zf7 hg ok4 hr i hi)
    (fun p hp=>by rw[hM4,hS4,hC4];exact(Zcs hg ok4 (hperm.mem_iff.1 hp)).1)
    (fun p hp=>(Zcs hg ok4 (hperm.mem_iff.1 hp)).2)
    (fun m r hm' hr hw hd => by
      rw[hM4]at hm'
      rw[hS4,hC4]at hr
      rw[hdn4]at hd
      exact Zet hg ok4 hperm hm' hr hw hd)
    (by omega)
  have c5:=Zh3 hp5;obtain⟨g6,h61,h62,-,h64,-⟩:=g5.end' hfin;have hlz5:(R4.sealedR (2*ps.length+1) sec ps).lazy=false:=hlz4;rcases hfin with ⟨hl,-⟩|⟨-,hpl⟩
  · rw[hlz5]at hl
    cases hl
  have hsu5:(R4.sealedR (2*ps.length+1) sec ps).sure=false:=rfl;have hsyn:(R4.sealedR (2*ps.length+1) sec ps).synced={R4.sealedR (2*ps.length+1) sec ps with s:=(R4.sealedR (2*ps.length+1) sec ps).s.dried (R4.sealedR (2*ps.length+1) sec ps).M,sure:=true}:=by
    unfold RS.synced;rw[hsu5];rfl
  obtain⟨-,d2⟩:=Zbk g5.fit (R4.sealedR (2*ps.length+1) sec ps).M (by rw[g5.n];omega) (.inl rfl);have y0:(R4.sealedR (2*ps.length+1) sec ps).synced.s.cnt 0=1:=by
    rw[hsyn];show((R4.sealedR (2*ps.length+1) sec ps).s.dried _).cnt 0=1
    rw[d2.c0,hp5.c0,r0]
  have y1:(R4.sealedR (2*ps.length+1) sec ps).synced.s.cnt 1=(n1:Int)+5:=by
    rw[hsyn];show((R4.sealedR (2*ps.length+1) sec ps).s.dried _).cnt 1=_
    rw[d2.c1,hp5.c1,r1];omega
  have y2:(R4.sealedR (2*ps.length+1) sec ps).synced.s.cnt 2=(n2:Int)+2:=by
    rw[hsyn];show((R4.sealedR (2*ps.length+1) sec ps).s.dried _).cnt 2=_
    rw[d2.c2,hp5.c2,r2];omega
  have hws:(R4.sealedR (2*ps.length+1) sec ps).synced.wait=ps:=by rw[hsyn];rfl
  have hfs:(R4.sealedR (2*ps.length+1) sec ps).synced.fr=fun _=> -1:=by rw[hsyn];exact hfr4
  obtain⟨-,z0,-,z2,z3,s6,e6⟩:=hpl.facts g5.synced.ready
  have z1 := Zjr hpl [pkOf ⟨0, 0, x⟩, pkOf ⟨2, 0, newp⟩] (by rw [List.nodup_cons]; exact ⟨fun e => by rw [List.mem_singleton] at e; exact absurd (congrArg (fun k : PK => k.1.val) e) (by show ¬ (0 = 2); omega), List.nodup_cons.2 ⟨by simp, List.nodup_nil⟩⟩) (fun k => by
    rw[hws]
    constructor
    · intro hk
      rcases List.mem_cons.1 hk with e|hk
      · exact⟨⟨0,0,x⟩,hpats'.mem_iff.2 (by rw[hall];simp),e.symm⟩
      · rw[List.mem_singleton]at hk
        exact⟨⟨2,0,newp⟩,hpats'.mem_iff.2 (by rw[hall];simp),hk.symm⟩
    · rintro ⟨p,hp,rfl⟩
      have hp':=hpats'.mem_iff.1 hp
      rw[hall]at hp'
      rcases List.mem_cons.1 hp' with e|hp'
      · rw[e];exact List.mem_cons_self
      · rw[List.mem_singleton]at hp'
        rw[hp']
        exact List.mem_cons_of_mem _ List.mem_cons_self) (fun k _=>by
    unfold RS.upAt RS.dn
    rw[hfs]
    rfl)
  have hcs:Cost (kR s) R' 139264 2000 24 2000 1:=((((hg.cost_ticks 1).trans (g2.cost_logged hlg)).trans (g3.cost_placed hahead')).trans c5).trans (g5.cost_synced.trans (g5.synced.cost_placed hpl))|>.mono (by omega) (by rw[hw3,hws,hlen];show 0+2*2+0+1+(0+2)≤2000;omega) (by omega) (by rw[hw3,hws,hlen];show 0+2*2+0+1+(0+2)≤2000;omega) (by omega)
  have hcs2:∀m,(kR s).s.small m->R'.s.small (m+7):=fun m hm=>by
    have:=(((((hg.cost_ticks 1).trans (g2.cost_logged hlg)).trans (g3.cost_placed hahead')).trans c5).trans (g5.cost_synced.trans (g5.synced.cost_placed hpl))).small m hm;rw[hw3,hws,hlen]at this;exact this.mono (by show m+(0+2*2+0+1+(0+2))≤m+7;omega)
  refine⟨by rw[z0,y0],by rw[z1,y1];show(n1:Int)+5+((2:Nat):Int)=_;omega,by rw[z2,y2],by rw[<-h64];rfl,?_,?_,?_,?_,?_,?_,?_⟩
  · rw[e6]
  · exact hcs.M
  · exact hcs.C
  · exact hcs.S
  · exact hcs.fr
  · exact(hcs2 _ hm.small).mono (by omega)
  · have:=hcs.next
    have e:(kR s).next=1:=rfl;omega
theorem a17_known (W:World):Calls Tryz.prog 8 #[] W fun e w'=>e=.returned (.bool true)/\Below W.heap.size W w':=by
  have hg:geoIs ((3:Nat):Int) ((1:Nat):Int) ((2:Nat):Int)=true:=by decide
  have hB1:Below W.heap.size W (W.alloc (.cells #[.int .i64 3,.int .i64 3,.int .i64 3,.int .i64 12] 3)):=(Below.refl _ _).alloc (Nat.le_refl _) _;have hA1:=At.new W #[.int .i64 3,.int .i64 3,.int .i64 3,.int .i64 12] 3;have HBN:Hid (Calls Tryz.prog 14 #[.slice (some ⟨W.heap.size,0,none⟩) 4 4] (W.alloc (.cells #[.int .i64 3,.int .i64 3,.int .i64 3,.int .i64 12] 3)) fun e w'=>∃b T,e=.returned (.tuple #[.pointer (some ⟨b,0,none⟩),.int .u16 0])/\BayAt w' T b (rBay 3 (2*1) 10)/\Below W.heap.size W w'/\∀q,q<W.heap.size->T q=0):=by
    have hv:(W.alloc (.cells #[.int .i64 3,.int .i64 3,.int .i64 3,.int .i64 12] 3)).ownsRow W.heap.size 3 1 (.slice (some ⟨W.heap.size,0,none⟩) 4 4) (rszL 3 2 10).length (kcells (rszL 3 2 10)):=⟨rfl,.inr ⟨_,4,_,rfl,Nat.le_refl _,hA1,Nat.le_refl _,by unfold maxLen;omega,rfl,rfl⟩⟩;refine(Zvx (rszL 3 2 10) _ _ _ hv (by rw[Zby];omega) (by rw[Zby];omega) (fun x hx=>(Zq7 (by omega) (by omega) x hx).2)).mono ?_;rintro e w' ⟨b,rfl,T,k1,k2,k3,k4⟩;have hz:=hB1.size;exact⟨b,T,rfl,k1,hB1.trans (k4.mono hz),fun q hq=>k2 q (by omega)⟩
  have HCR:Hid (∀w T b,BayAt w T b (rBay 3 (2*1) 10)->Below W.heap.size W w->(∀q,q<W.heap.size->T q=0)->Calls Tryz.prog 15 #[.pointer (some ⟨b,0,none⟩),.int .u64 1,.agg #[.int .i64 3,.int .i64 1,.int .i64 2],.int .i64 10,.bool false] w fun e w'=>∃ap stg A s,e=.returned (.tuple #[.pointer (some ⟨ap,0,none⟩),.int .u16 0])/\A.b=b/\KnA W w' A [arB ap stg A 3 1 2 10 false 1 1 1,stB stg (-1) 3] (kn0 s)):=fun w T b h1 h2 h3=>(ar_create (M:=3) (C:=1) (S:=2) (ring:=10) h1 false hg (by omega) (by omega) (id:=1) (by omega)).mono fun e w' h=>by
    obtain⟨ap,stg,A,T',s,rfl,hA,hm⟩:=CrPost.md h h3 h2;obtain⟨k1,k2⟩:=hm.ab hg (by omega) (by omega);exact⟨ap,stg,A,s,rfl,hA,T',kR s,zeroV,k1,rfl,rfl,k2,hm.blank⟩
  have HC0:Hid (∀w A L s,KnA W w A L (kn0 s)->Calls Tryz.prog 17 #[.pointer (some ⟨A.b,0,none⟩)] w fun e w'=>e=.returned (.agg #[.int .i64 0,.int .i64 21,.int .i64 5])/\KnA W w' A L (kn0 s)):=fun w A L s h=>kna_counts h fun R V hD=>by
    obtain⟨rfl,rfl,-,hb⟩:=hD;exact⟨hb.c0,hb.c1,hb.c2⟩
  have HC1:Hid (∀w A L,KnA W w A L kn1->Calls Tryz.prog 17 #[.pointer (some ⟨A.b,0,none⟩)] w fun e w'=>e=.returned (.agg #[.int .i64 1,.int .i64 28,.int .i64 7])/\KnA W w' A L kn1):=fun w A L h=>kna_counts h fun R V hD=>hD.2.1
  have HSE:Hid (∀w,Calls Tryz.prog 20 #[.int .u8 97] w fun e w'=>e=.returned (.slice (some ⟨w.heap.size,0,none⟩) 128 128)/\At w' w.heap.size (ucells (secA 97)).toArray 5/\Below w.heap.size w w'):=fun w=>a17_sector 97 w
  have HS1:Hid (∀w,Calls Tryz.prog 20 #[.int .u8 1] w fun e w'=>e=.returned (.slice (some ⟨w.heap.size,0,none⟩) 128 128)/\At w' w.heap.size (ucells (secA 1)).toArray 5/\Below w.heap.size w w'):=fun w=>a17_sector 1 w
  have HW0:Hid (∀w A s ap stg g p x,KnA W w A [(p,#[.int .i64 0,.slice (some ⟨g,0,none⟩) 128 128],60),(g,(ucells (secA 97)).toArray,5),x,arB ap stg A 3 1 2 10 false 1 1 1,stB stg (-1) 3] (kn0 s)->Calls Tryz.prog 11 #[.pointer (some ⟨ap,0,none⟩),.slice (some ⟨p,0,none⟩) 1 1] w fun e w'=>e=.returned (.int .u16 0)/\KnA W w' A [(p,#[.int .i64 0,.slice (some ⟨g,0,none⟩) 128 128],60),(g,(ucells (secA 97)).toArray,5),x,arB ap stg A 3 1 2 10 false 1 1 1,stB stg (-1) 3] kn1):=fun w A s ap stg g p x0 h=>by
    have h1:arB ap stg A 3 1 2 10 false 1 1 1∈ [(p,#[.int .i64 0,.slice (some ⟨g,0,none⟩) 128 128],60),(g,(ucells (secA 97)).toArray,5),x0,arB ap stg A 3 1 2 10 false 1 1 1,stB stg (-1) 3]:=by simp
    have ok:=Zgz (secA 97) (secA_length 97);have hc:wcode 3 1 2 10 (kU (secA 97))=0:=wcode_one (u:=(0,secA 97)) ok (by omega);refine(kna_write h h1 (fun R V hD=>hD.2.2.1) ⟨by omega,by omega⟩ _ (kU (secA 97)) [(p,#[.int .i64 0,.slice (some ⟨g,0,none⟩) 128 128],60),(g,(ucells (secA 97)).toArray,5)] (fun x hx=> ?_) (fun W' hW'=>Zuh (hW' _ (List.mem_cons_self)) (hW' _ (List.mem_cons_of_mem _ List.mem_cons_self)) (secA_length 97)) (by omega)).mono ?_
    · simp only [List.mem_cons,List.not_mem_nil,or_false]at hx
      rcases hx with rfl|rfl<;>simp
    · rintro e w' ⟨rfl,hk⟩
      refine⟨by rw[hc];rfl,hk.imp ?_⟩;rintro R' V' ⟨m1,R,V,⟨rfl,rfl,-,hb⟩,m2,m3,m4⟩;obtain⟨ps,R1,R4,sec,hbt⟩:=m4 (by simp[kU]) hc;have hk:=known_at hb (by omega) (secA_length 97) hbt;refine⟨m1,⟨hk.c0,hk.c1,hk.c2⟩,?_⟩;rw[m2 0 (by omega)];unfold wLaid;rw[if_pos hc];rfl
  have HRD:Hid (∀w A ap stg x1 x2 x3 x4,KnA W w A [x1,x2,x3,x4,arB ap stg A 3 1 2 10 false 1 1 1,stB stg (-1) 3] kn1->Calls Tryz.prog 12 #[.pointer (some ⟨ap,0,none⟩),.int .i64 0,.int .i64 1] w fun e w'=>∃v bx,e=.returned (.tuple #[v,.int .u16 0])/\(bx.2.2=5/\∀W',At W' bx.1 bx.2.1 bx.2.2->Seg W' v (secA 97))/\KnA W w' A [bx,x1,x2,x3,x4,arB ap stg A 3 1 2 10 false 1 1 1,stB stg (-1) 3] kn2):=fun w A ap stg x1 x2 x3 x4 h=>by
    have h1:arB ap stg A 3 1 2 10 false 1 1 1∈ [x1,x2,x3,x4,arB ap stg A 3 1 2 10 false 1 1 1,stB stg (-1) 3]:=by simp
    refine(kna_read h h1 (fun R V hD=>hD.1) ⟨by omega,by omega⟩ (fun _=>secA 97) 0 1 (by omega) (by omega) (fun R V hD i hi=> ?_)).mono ?_
    · obtain rfl:i=0:=by omega
      exact hD.2.2
    · rintro e w' ⟨v,bx,rfl,⟨k1,-,k2⟩,k3⟩
      refine⟨v,bx,rfl,⟨k1,fun W' hW'=> ?_⟩,k3.imp fun R V hD=>hD.1⟩;have:=k2 W' hW';rw[show flatD (fun _=>secA 97) 1=secA 97 by simp[flatD]]at this;exact this
  have HW1:Hid (∀w A ap stg g1 g2 g3 g4 p y0 y1 y2 y3 y4,KnA W w A [(p,#[.int .i64 0,.slice (some ⟨g1,0,none⟩) 128 128,.int .i64 1,.slice (some ⟨g2,0,none⟩) 128 128,.int .i64 2,.slice (some ⟨g3,0,none⟩) 128 128,.int .i64 3,.slice (some ⟨g4,0,none⟩) 128 128],60),(g4,(ucells (secA 1)).toArray,5),(g3,(ucells (secA 1)).toArray,5),(g2,(ucells (secA 1)).toArray,5),(g1,(ucells (secA 1)).toArray,5),y0,y1,y2,y3,y4,arB ap stg A 3 1 2 10 false 1 1 1,stB stg (-1) 3] kn2->Calls Tryz.prog 11 #[.pointer (some ⟨ap,0,none⟩),.slice (some ⟨p,0,none⟩) 4 4] w fun e w'=>e=.returned (.int .u16 122)/\KnA W w' A [(p,#[.int .i64 0,.slice (some ⟨g1,0,none⟩) 128 128,.int .i64 1,.slice (some ⟨g2,0,none⟩) 128 128,.int .i64 2,.slice (some ⟨g3,0,none⟩) 128 128,.int .i64 3,.slice (some ⟨g4,0,none⟩) 128 128],60),(g4,(ucells (secA 1)).toArray,5),(g3,(ucells (secA 1)).toArray,5),(g2,(ucells (secA 1)).toArray,5),(g1,(ucells (secA 1)).toArray,5),y0,y1,y2,y3,y4,arB ap stg A 3 1 2 10 false 1 1 1,stB stg (-1) 3] (fun _ _=>True)):=fun w A ap stg g1 g2 g3 g4 p y0 y1 y2 y3 y4 h=>by
    have h1:arB ap stg A 3 1 2 10 false 1 1 1∈ [(p,#[.int .i64 0,.slice (some ⟨g1,0,none⟩) 128 128,.int .i64 1,.slice (some ⟨g2,0,none⟩) 128 128,.int .i64 2,.slice (some ⟨g3,0,none⟩) 128 128,.int .i64 3,.slice (some ⟨g4,0,none⟩) 128 128],60),(g4,(ucells (secA 1)).toArray,5),(g3,(ucells (secA 1)).toArray,5),(g2,(ucells (secA 1)).toArray,5),(g1,(ucells (secA 1)).toArray,5),y0,y1,y2,y3,y4,arB ap stg A 3 1 2 10 false 1 1 1,stB stg (-1) 3]:=by simp
    have hc:=k4_code (secA 1) (secA_length 1);refine(kna_write h h1 (fun R V hD=>hD) ⟨by omega,by omega⟩ _ (k4 (secA 1)) [(p,#[.int .i64 0,.slice (some ⟨g1,0,none⟩) 128 128,.int .i64 1,.slice (some ⟨g2,0,none⟩) 128 128,.int .i64 2,.slice (some ⟨g3,0,none⟩) 128 128,.int .i64 3,.slice (some ⟨g4,0,none⟩) 128 128],60),(g1,(ucells (secA 1)).toArray,5),(g2,(ucells (secA 1)).toArray,5),(g3,(ucells (secA 1)).toArray,5),(g4,(ucells (secA 1)).toArray,5)] (fun x hx=> ?_) (fun W' hW'=> ?_) (by omega)).mono ?_
    · simp only [List.mem_cons,List.not_mem_nil,or_false]at hx
      rcases hx with rfl|rfl|rfl|rfl|rfl<;>simp
    · have := puts_seg (w := W') (g := p) (c := 4) (ps := [(0, g1, secA 1), (1, g2, secA 1), (2, g3, secA 1), (3, g4, secA 1)]) (hW' _ List.mem_cons_self) (fun i _ => by
        rw[<-List.getElem?_toArray]
        rfl) (fun x hx=>by
        simp only [List.mem_cons,List.not_mem_nil,or_false]at hx
        rcases hx with rfl|rfl|rfl|rfl
        · exact⟨hW' (g1,(ucells (secA 1)).toArray,5) (by simp),secA_length 1⟩
        · exact⟨hW' (g2,(ucells (secA 1)).toArray,5) (by simp),secA_length 1⟩
        · exact⟨hW' (g3,(ucells (secA 1)).toArray,5) (by simp),secA_length 1⟩
        · exact⟨hW' (g4,(ucells (secA 1)).toArray,5) (by simp),secA_length 1⟩) 0 4 (by simp) (by simp)
      exact this
    · rintro e w' ⟨rfl,hk⟩
      exact⟨by rw[hc];rfl,hk.imp fun _ _ _=>trivial⟩
  have HBL:Hid (∀w A L ap stg,KnA W w A L (fun _ _=>True)->arB ap stg A 3 1 2 10 false 1 1 1∈L->Calls Tryz.prog 9 #[.pointer (some ⟨ap,0,none⟩)] w fun e w'=>e=.returned (.int .i64 4)/\KnA W w' A L (fun _ _=>True)):=fun w A L ap stg h h1=>kna_blocks (a:=0) (b:=0) (g:=0) h h1 hg
  have HSB:Hid (∀u v w,Seg w u (secA 97)->Seg w v (secA 97)->Calls Tryz.prog 13 #[u,v] w fun e w'=>e=.returned (.bool true)/\Below w.heap.size w w'):=fun u v w h1 h2=>(Zyg u v (secA 97) (secA 97) w (by rw[secA_length];omega) (by rw[secA_length];omega) h1 h2).mono fun e w' ⟨x1,x2⟩=>⟨by rw[x1];simp,x2⟩
  clear hB1 hA1 hg;go_enter Tryz.func8,Tryz.ntmps8
  go_wp2_with (first
    |(go_at_call 14;(with_reducible refine HBN.out.mono ?_);rintro e w2 ⟨b,T,rfl,hba,hbb,hbt⟩;have HBA:=Lib.hid hba;have HBB:=Lib.hid hbb;have HBT:=Lib.hid hbt;clear hba hbb hbt)
    |(go_at_call 15;(with_reducible refine(HCR.out _ T b HBA.out HBB.out HBT.out).mono ?_);rintro e w3 ⟨ap,stg,A,s,rfl,rfl,hk3⟩;have HK3:=Lib.hid hk3;clear hk3)
    |(go_at_call 17;(with_reducible refine(HC1.out _ A _ HK6.out).mono ?_);rintro e w7 ⟨rfl,hk7⟩;have HK7:=Lib.hid (hk7.push #[.int .i64 1,.int .i64 28,.int .i64 7] 50 (by decide));clear hk7)
    |(go_at_call 17;(with_reducible refine(HC0.out _ A _ s HK3.out).mono ?_);rintro e w4 ⟨rfl,hk4⟩;have HK4:=Lib.hid (hk4.push #[.int .i64 0,.int .i64 21,.int .i64 5] 50 (by decide));have hz4:(w4.alloc (.cells #[.int .i64 0,.int .i64 21,.int .i64 5] 50)).heap.size=w4.heap.size+1:=(Zaa _ _);clear hk4)
    |(go_at_call 20;(with_reducible refine(HSE.out w13).mono ?_);rintro e w14 ⟨rfl,hs14,hb14⟩;clear c0 c1 c2 d0 d1 d2;have HK14:=Lib.hid (HK13.out.below hb14);have HS14:=Lib.hid (Zk9 hs14 (secA_length 97));clear hs14 hb14)
    |(go_at_call 20;(with_reducible refine(HS1.out w11).mono ?_);rintro e w12 ⟨rfl,hs12,hb12⟩;have HK12:=Lib.hid ((HK11.out.add hb12 hs12 (Nat.le_refl _) (by decide)).push #[.int .i64 0,.slice (some ⟨w8.heap.size,0,none⟩) 128 128,.int .i64 1,.slice (some ⟨w9.heap.size,0,none⟩) 128 128,.int .i64 2,.slice (some ⟨w10.heap.size,0,none⟩) 128 128,.int .i64 3,.slice (some ⟨w11.heap.size,0,none⟩) 128 128] 60 (by decide));clear hs12 hb12)
    |(go_at_call 20;(with_reducible refine(HS1.out w10).mono ?_);rintro e w11 ⟨rfl,hs11,hb11⟩;have HK11:=Lib.hid (HK10.out.add hb11 hs11 (Nat.le_refl _) (by decide));clear hs11 hb11)
    |(go_at_call 20;(with_reducible refine(HS1.out w9).mono ?_);rintro e w10 ⟨rfl,hs10,hb10⟩;have HK10:=Lib.hid (HK9.out.add hb10 hs10 (Nat.le_refl _) (by decide));clear hs10 hb10)
    |(go_at_call 20;(with_reducible refine(HS1.out w8).mono ?_);rintro e w9 ⟨rfl,hs9,hb9⟩;have HK9:=Lib.hid (HK8.out.add hb9 hs9 (Nat.le_refl _) (by decide));clear hs9 hb9)
    |(go_at_call 20;(with_reducible refine(HSE.out (w4.alloc (.cells #[.int .i64 0,.int .i64 21,.int .i64 5] 50))).mono ?_);rintro e w5 ⟨rfl,hs5,hb5⟩;rw[hz4]at hs5;have HK5:=Lib.hid ((HK4.out.add hb5 hs5 (Nat.le_of_eq hz4) (by decide)).push #[.int .i64 0,.slice (some ⟨w4.heap.size+1,0,none⟩) 128 128] 60 (by decide));clear hs5 hb5)
    |(go_at_call 11;(with_reducible refine(HW1.out _ A ap stg _ _ _ _ _ _ _ _ _ _ HK12.out).mono ?_);rintro e w13 ⟨rfl,hk13⟩;have HK13:=Lib.hid hk13;have hc13:=hk13.get 9 rfl;have hd13:=hk13.get 6 rfl;have c0:=hc13.cell 0;have c1:=hc13.cell 1;have c2:=hc13.cell 2;have d0:=hd13.cell 0;have d1:=hd13.cell 1;have d2:=hd13.cell 2;clear hk13 hc13 hd13)
    |(go_at_call 11;(with_reducible refine(HW0.out _ A s ap stg _ _ _ HK5.out).mono ?_);rintro e w6 ⟨rfl,hk6⟩;have HK6:=Lib.hid hk6;clear hk6)
    |(go_at_call 12;(with_reducible refine(HRD.out _ A ap stg _ _ _ _ HK7.out).mono ?_);rintro e w8 ⟨v8,bx8,rfl,⟨hy8,hs8⟩,hk8⟩;have HK8:=Lib.hid hk8;have HS8:=Lib.hid hs8;clear hk8 hs8)
    |(go_at_call 13;(have hq:=HS8.out _ (HK14.out.get 5 rfl));(with_reducible refine(HSB.out _ _ _ hq HS14.out).mono ?_);rintro e w15 ⟨rfl,hb15⟩;have HK15:=Lib.hid (HK14.out.below hb15);clear hb15 hq)
    | (go_at_call 9; (with_reducible refine (HBL.out _ A _ ap stg HK15.out ?_).mono ?_); · simp
       rintro e w16 ⟨rfl,hk16⟩;have HK16:=Lib.hid hk16;clear hk16))
  go_ret;exact⟨rfl,HK16.out.bel⟩
theorem a17_putsB (M C S:Nat) (hg:geoIs M C S=true) (v:Value) (bl:List (Nat×UInt8)) (w:World) (hv:BlkSeg w v bl):
    Calls Tryz.prog 10 #[.agg #[.int .i64 M,.int .i64 C,.int .i64 S],v] w fun e w'=>∃pa pc PB,e=.returned (.slice pa (aPuts (S*C*(M-1)) bl).length pc)/\PuBox w' w.heap.size (.slice pa (aPuts (S*C*(M-1)) bl).length pc) (aPuts (S*C*(M-1)) bl) PB/\Below w.heap.size w w':=by
  refine(a17_puts M C S hg v bl w hv).mono ?_;rintro e w' ⟨v',ps,rfl,hp,he,hb⟩;have hl:ps.length=(aPuts (S*C*(M-1)) bl).length:=by rw[<-he];simp
  obtain⟨PB,hB⟩:=hp.box (by have:=aPuts_length (S*C*(M-1)) bl;omega);obtain⟨pa,pc,rfl⟩:=Zab hp.row;rw[he]at hB;rw[hl]at hB ⊢;exact⟨pa,pc,PB,rfl,hB,hb⟩
section
def zD:Nat->Sec:=fun _=>zsec
section
variable {w0 w w':World} {A1 A2:Adr} {M C S ring a b:Nat} {lazy:Bool} {D1 D2:Nat->Sec} {Q L:List Bx}
end
end
section
def Dub (w0 W:World) (A1 A2:Adr) (M C S ring:Nat) (l1 l2:Bool) (g1 g2:Int) (D1 D2:Nat->Sec) (a b:Nat) (L:List Bx):Prop:=
  ∃T1 R1 V1 T2 R2 V2,Twin w0 W T1 A1 R1 T2 A2 R2 L/\ArP R1 V1 M C S ring l1 g1 a b/\ArP R2 V2 M C S ring l2 g2 a b/\(∀k,k<S*C*(M-1)->blkOf M C V1 k=D1 k)/\∀k,k<S*C*(M-1)->blkOf M C V2 k=D2 k
section
variable {w0 W W':World} {A1 A2:Adr} {M C S ring a b:Nat} {l1 l2:Bool} {g1 g2:Int} {D1 D2:Nat->Sec} {L:List Bx}
theorem Dub.swap (h:Dub w0 W A1 A2 M C S ring l1 l2 g1 g2 D1 D2 a b L):Dub w0 W A2 A1 M C S ring l2 l1 g2 g1 D2 D1 a b L:=by
  obtain⟨T1,R1,V1,T2,R2,V2,h1,h2,h3,h4,h5⟩:=h;exact⟨T2,R2,V2,T1,R1,V1,h1.swap,h3,h2,h5,h4⟩
theorem Dub.mono (h:Dub w0 W A1 A2 M C S ring l1 l2 g1 g2 D1 D2 a b L) {a' b':Nat} (ha:a≤a') (hb:b≤b'):Dub w0 W A1 A2 M C S ring l1 l2 g1 g2 D1 D2 a' b' L:=by
  obtain⟨T1,R1,V1,T2,R2,V2,h1,h2,h3,h4⟩:=h;exact⟨T1,R1,V1,T2,R2,V2,h1,h2.mono ha hb,h3.mono ha hb,h4⟩
theorem Dub.below (h:Dub w0 W A1 A2 M C S ring l1 l2 g1 g2 D1 D2 a b L) (hb:Below W.heap.size W W'):Dub w0 W' A1 A2 M C S ring l1 l2 g1 g2 D1 D2 a b L:=by
  obtain⟨T1,R1,V1,T2,R2,V2,h1,h2⟩:=h;exact⟨_,R1,V1,_,R2,V2,h1.below hb,h2⟩
theorem Dub.grow (h:Dub w0 W A1 A2 M C S ring l1 l2 g1 g2 D1 D2 a b L) (hb:Below W.heap.size W W') (B:List Bx) (hB:∀x∈B,At W' x.1 x.2.1 x.2.2/\W.heap.size≤x.1/\(x.2.2=60\/x.2.2=5)):Dub w0 W' A1 A2 M C S ring l1 l2 g1 g2 D1 D2 a b (B++L):=by
  obtain⟨T1,R1,V1,T2,R2,V2,h1,h2⟩:=h;exact⟨_,R1,V1,_,R2,V2,h1.grow hb B hB,h2⟩
theorem Dub.box (h:Dub w0 W A1 A2 M C S ring l1 l2 g1 g2 D1 D2 a b L):∀x∈L,At W x.1 x.2.1 x.2.2:=by
  obtain⟨T1,R1,V1,T2,R2,V2,h1,h2⟩:=h;exact fun x hx=>(h1.box x hx).1
theorem Dub.sub {L':List Bx} (h:Dub w0 W A1 A2 M C S ring l1 l2 g1 g2 D1 D2 a b L) (hs:∀x∈L',x∈L):Dub w0 W A1 A2 M C S ring l1 l2 g1 g2 D1 D2 a b L':=by
  obtain⟨T1,R1,V1,T2,R2,V2,h1,h2⟩:=h;exact⟨T1,R1,V1,T2,R2,V2,⟨h1.two,fun x hx=>h1.box x (hs x hx)⟩,h2⟩
theorem Dub.bel (h:Dub w0 W A1 A2 M C S ring l1 l2 g1 g2 D1 D2 a b L):Below w0.heap.size w0 W:=by
  obtain⟨T1,R1,V1,T2,R2,V2,h1,h2⟩:=h;exact h1.two.one.bel
theorem dub_write (h:Dub w0 W A1 A2 M C S ring l1 l2 g1 g2 D1 D2 a b L) {ap stg id ev sf:Nat} (hbx:arB ap stg A1 M C S ring l1 id ev sf∈L) (hin:Within a b) (pv:Value) (us:List (Int×List UInt8)) (PB:List Bx) (hP:∀x∈PB,x∈L) (hp:∀W',(∀x∈PB,At W' x.1 x.2.1 x.2.2)->PutSeg W' pv us) (h5:5≤ring):
    Calls Tryz.prog 11 #[.pointer (some ⟨ap,0,none⟩),pv] W fun e w'=>e=.returned (.int .u16 (wcode M C S ring us:Nat))/\Dub w0 w' A1 A2 M C S ring l1 l2 g1 g2 (wLaid M C S ring us D1) D2 (a+1000000) (b+8*us.length+4) L:=by
  obtain⟨T1,R1,V1,T2,R2,V2,k1,k2,k3,k4,k6⟩:=h;obtain⟨lg,vw,X,hr⟩:=k1.two.one.rw;refine(ar_write k1.one hbx k2 hin pv (us:=us) (fun W' hc=>hp W' fun x hx=>(k1.box x (hP x hx)).1.mod hc (fun e=>Zaw (k1.box x (hP x hx)).1 hr.rw (fun t=>(k1.box x (hP x hx)).2.2.2.1 t.symm) e)) h5).mono ?_;rintro e w' ⟨rfl,T',R',V',m1,m2,m3,m4,-⟩;exact⟨rfl,_,R',V',_,R2,V2,k1.step m1 m2,m3,k3.mono (by omega) (by omega),fun k hk=>(m4 k hk).trans (wLaid_cong us (k4 k hk)),k6⟩
theorem dub_read (h:Dub w0 W A1 A2 M C S ring l1 l2 g1 g2 D1 D2 a b L) {ap stg id ev sf:Nat} (hbx:arB ap stg A1 M C S ring l1 id ev sf∈L) (hin:Within (a+2000000) b) (n:Nat) (hn:n=S*C*(M-1)):
    Calls Tryz.prog 12 #[.pointer (some ⟨ap,0,none⟩),.int .i64 0,.int .i64 n] W fun e w'=>∃v bx,e=.returned (.tuple #[v,.int .u16 0])/\(bx.2.2=5/\∀W',At W' bx.1 bx.2.1 bx.2.2->Seg W' v (flatD D1 n))/\Dub w0 w' A1 A2 M C S ring l1 l2 g1 g2 D1 D2 (a+2000000) b (bx::L):=by
  obtain⟨T1,R1,V1,T2,R2,V2,k1,k2,k3,k4,k6⟩:=h;subst hn;have hgeo:=k2.geo;obtain⟨q1,q2,q3,q4⟩:=Zbe hgeo;have hpos:1≤S*C*(M-1):=Nat.mul_pos q3 (by omega);have hbm:S*C*(M-1)≤61440:=by
    have hblk:=Zxp k2.good.geo;unfold RS.blocks at hblk;rw[k2.M,k2.C,k2.S]at hblk;exact hblk
  have hlen:∀k,k<S*C*(M-1)->(D1 k).length=128:=fun k hk=>by
    rw[<-k4 k hk];have:=Zxw k2.good (k:=k) (by rw[k2.M,k2.C,k2.S];exact hk);rw[k2.M,k2.C]at this;exact this
  refine(ar_read k1.one hbx k2 hin 0 (S*C*(M-1)) (by omega)).mono ?_;rintro e w' ⟨v,c,rfl,hc,m1,m2,m3⟩;have hflat:flatD (fun i=>blkOf M C V1 (0+i)) (S*C*(M-1))=flatD D1 (S*C*(M-1)):=flatD_congr fun k hk=>by rw[Nat.zero_add];exact k4 k hk
  rw[hflat]at m1;have hfl:=Zxj hlen;obtain⟨gb,cap,cur,rfl,hcap,-,hat,hlo,hcur⟩:=row_boxN m1 (by omega);refine⟨_,(gb,cur,5),rfl,⟨rfl,fun W' hW'=> ?_⟩,_,{R1 with s:=R1.s.ticks 0 c},V1,_,R2,V2,(k1.step m2 (Stp.ofBay m3)).add [(gb,cur,5)] (fun x hx=> ?_),(k2.ticks c).mono (by omega) (Nat.le_refl _),k3.mono (by omega) (Nat.le_refl _),k4,k6⟩
  · rw[<-hfl]
    refine Zea hW' ?_ fun j hj=> ?_
    · rw[hfl];exact hcap
    · rw[hcur j (by rw[Nat.mul_one,<-hfl];exact hj)]
      unfold ucells;rw[List.getElem?_map,List.getElem?_eq_getElem hj];rfl
  · rw[List.mem_singleton]at hx
    subst hx;refine⟨hat,tidy_zero (k1.two.one.virg _ hlo),tidy_zero (k1.two.two.virg _ hlo),by dsimp only;decide,by dsimp only;decide,by dsimp only;decide,by dsimp only;decide⟩
theorem dub_blocks (h:Dub w0 W A1 A2 M C S ring l1 l2 g1 g2 D1 D2 a b L) {ap stg id ev sf:Nat} (hbx:arB ap stg A1 M C S ring l1 id ev sf∈L) (hg:geoIs M C S=true):
    Calls Tryz.prog 9 #[.pointer (some ⟨ap,0,none⟩)] W fun e w'=>e=.returned (.int .i64 (S*C*(M-1):Nat))/\Below W.heap.size W w':=by
  obtain⟨q1,q2,q3,q4⟩:=Zbe hg;refine(ar_blocks (h.box _ hbx) hg).mono ?_;rintro e w' ⟨rfl,hb⟩;refine⟨?_,hb⟩;rw[Int.natCast_mul,Int.natCast_mul,Int.natCast_sub (by omega)];rfl
theorem Dub.len (h:Dub w0 W A1 A2 M C S ring l1 l2 g1 g2 D1 D2 a b L):∀k,k<S*C*(M-1)->(D1 k).length=128:=by
  obtain⟨T1,R1,V1,T2,R2,V2,k1,k2,k3,k4,k6⟩:=h;intro k hk;rw[<-k4 k hk];have:=Zxw k2.good (k:=k) (by rw[k2.M,k2.C,k2.S];exact hk);rw[k2.M,k2.C]at this;exact this
theorem dub_flush (h:Dub w0 W A1 A2 M C S ring l1 l2 g1 g2 D1 D2 a b L) {ap stg id ev sf:Nat} (hbx:arB ap stg A1 M C S ring l1 id ev sf∈L) (hin:Within a b):
    Calls Tryz.prog 19 #[.pointer (some ⟨ap,0,none⟩)] W fun e w'=>e=.returned (.int .u16 0)/\Dub w0 w' A1 A2 M C S ring l1 l2 g1 g2 D1 D2 (a+1000) (b+1) L:=by
  obtain⟨T1,R1,V1,T2,R2,V2,k1,k2,k3,k4,k6⟩:=h;refine(ar_flush k1.one hbx k2 hin).mono ?_;rintro e w' ⟨rfl,T',R',m1,m2,m3⟩;exact⟨rfl,_,R',V1,_,R2,V2,k1.step m1 m2,m3,k3.mono (by omega) (by omega),k4,k6⟩
theorem Twin.stepX {T1 T2 T1':Nat->Nat} {R1 R2 R1':RS} {L':List Bx} {E:Nat->Prop} (h:Twin w0 W T1 A1 R1 T2 A2 R2 L) (k:Ab w0 W' T1' A1 R1' L') (ht:∀q,q<W.heap.size->T1' q=T1 q) (hc:Chg (fun q=>T1 q≠0\/A1.has q\/E q) W W') (hE:∀q,E q->∃x∈L,x.1=q/\5≠x.2.2/\167≠x.2.2) (hL:∀x∈L',∃y∈L,y.1=x.1):Twin w0 W' (tidy W' T1') A1 R1' (tidy W' T2) A2 R2 L':=by
  have hS:∀q,(T1 q≠0\/A1.has q\/E q)->T2 q=0/\¬A2.has q:=by
    rintro q (e|e|e)
    · exact⟨h.two.tt q e,fun e2=>e (h.two.ta q e2)⟩
    · exact⟨h.two.at' q e,h.two.aa q e⟩
    · obtain⟨x,hx,rfl,-,-⟩:=hE q e
      obtain⟨b1,b2,b3,b4,b5,b6,b7⟩:=h.box x hx;refine⟨b3,fun e2=> ?_⟩;obtain⟨cs,t',ha,ht'⟩:=h.two.two.hasAt e2;have e3:=at_type b1 ha;rcases ht' with rfl|rfl|rfl|rfl
      · exact b4 e3.symm
      · exact b6 e3.symm
      · exact b7 e3.symm
      · exact b5 e3.symm
  have hoff:∀{B n sz:Nat} {t:TypeId} {v:Value} {xs:List Value},W.ownsRow B t sz v n xs->(t=5\/t=167)->∀{g:Nat},v.ownBlock=some g->¬(T1 g≠0\/A1.has g\/E g):=fun {B n sz t v xs} ho ht {g} hg e=>by
    rcases e with e|e|e
    · exact h.two.offRow ho ht hg (.inl e)
    · exact h.two.offRow ho ht hg (.inr e)
    · obtain⟨x,hx,rfl,c1,c2⟩:=hE g e
      refine Zah ho (h.box x hx).1 ?_ hg;rcases ht with rfl|rfl
      · exact c1
      · exact c2
  obtain⟨lg,vw,X,hr⟩:=h.two.two.rw;have hr':RwIn W' T2 A2 R2 lg vw X:=by
    refine⟨hr.bay.keep hc (fun k hk e=>hk (hS k e).1),hr.rw.mod hc (fun e=>(hS _ e).2 (.inl rfl)),hr.fr.mod hc (fun e=>(hS _ e).2 (.inr (.inr (.inr rfl)))),hr.wt.mod hc (fun g hg=>hoff hr.wt.row (.inr rfl) hg) (fun x hx g hg=>hoff (hr.wt.dat x hx) (.inl rfl) hg),hr.wtT,hr.wtX,hr.wtM,hr.wal.mod hc (fun e=>(hS _ e).2 (.inr (.inl rfl))),hr.ring.mod hc (fun e=>(hS _ e).2 (.inr (.inr (.inl rfl)))),hr.tq,hr.tf,hr.tw,hr.tr⟩
  have htwo:Ln w0 W' T2 A2 R2:=⟨⟨lg,vw,X,hr'⟩,h.two.two.old,k.ln.bel⟩;refine⟨⟨k.ln.tidy,htwo.tidy,tidy_is _ _,tidy_is _ _,fun q hq=>tidy_zero ?_,fun q hq=>tidy_zero ?_,fun q hq=>tidy_zero (h.two.at' q hq),h.two.aa⟩,fun x hx=> ?_⟩
  · by_cases hlt:q<W.heap.size
    · exact h.two.tt q (by rw[<-ht q hlt];exact tidy_ne hq)
    · exact h.two.two.virg q (by omega)
  · have hlt:q<W.heap.size:=Classical.byContradiction fun e=>h.two.two.off q (by omega) hq
    rw[ht q hlt];exact h.two.ta q hq
  · obtain⟨y,hy,e⟩:=hL x hx
    obtain⟨c1,c2,c3⟩:=k.box x hx;exact⟨c1,tidy_zero c2,tidy_zero (e ▸ (h.box y hy).2.2.1),c3⟩
theorem dub_fail {ap stg id ev k:Nat} (h:Dub w0 W A1 A2 M C S ring l1 l2 (-1) g2 D1 D2 a b (arB ap stg A1 M C S ring l1 id ev ev::stB stg (-1) M::L)) (hlo:w0.heap.size≤ap) (hlo2:w0.heap.size≤stg) (hL:∀x∈L,x.1≠ap/\x.1≠stg) (hk:k<M) (hin:Within a b) (hev:1≤ev/\ev<1000000) (h5:5≤ring/\ring≤2048) (hid:id<18446744073709551616):
    Calls Tryz.prog 16 #[.pointer (some ⟨ap,0,none⟩),.int .i64 k] W fun e w'=>e=.returned (.int .u16 0)/\Dub w0 w' A1 A2 M C S ring l1 l2 (k:Int) g2 D1 D2 (a+50) (b+50) (arB ap stg A1 M C S ring l1 id (ev+1) (ev+1)::stB stg (k:Int) M::L):=by
  obtain⟨T1,R1,V1,T2,R2,V2,k1,k2,k3,k4,k6⟩:=h;refine(ar_fail k1.one hlo hlo2 hL hk k2 hin hev h5 hid).mono ?_;rintro e w' ⟨rfl,R',⟨T',m1,m2,m3⟩,m4⟩;refine⟨rfl,_,R',V1,_,R2,V2,k1.stepX m1 m2 m3 (fun q hq=> ?_) (fun x hx=> ?_),m4,k3.mono (by omega) (by omega),k4,k6⟩
  · rcases hq with rfl|rfl
    · exact⟨_,List.mem_cons_self,rfl,by dsimp only;decide,by dsimp only;decide⟩
    · exact⟨_,List.mem_cons_of_mem _ List.mem_cons_self,rfl,by dsimp only;decide,by dsimp only;decide⟩
  · rcases List.mem_cons.1 hx with e|hx
    · exact⟨_,List.mem_cons_self,by rw[e]⟩
    · rcases List.mem_cons.1 hx with e|hx
      · exact⟨_,List.mem_cons_of_mem _ List.mem_cons_self,by rw[e]⟩
      · exact⟨x,List.mem_cons_of_mem _ (List.mem_cons_of_mem _ hx),rfl⟩
end
end
section
open Go.RowKit Go.ChangeShapes Go.WideShapes Go.ChangeAt Go.Deep
theorem blks_of_cell {H:Type} {enc:TypeId×Value->H} {P:Program} {W:World} {T E fuel:Nat} {v:Value} {x0:DataW H×List MemPlace} {f0 f1:Field}
    (hT:P.underlying T=some (.slice E)) (hE:P.underlying E=some (.struct #[f0,f1])) (ce:P.cellsOf E=2) (be:0<P.bytesOf E) (o0:f0.offset=0) (o1:f1.offset=1) (c0:P.cellsOf f0.type=1) (c1:P.cellsOf f1.type=1)
    (t0:P.underlying f0.type=some (.int .u16)) (t1:P.underlying f1.type=some (.int .u8))
    (hf:DataW.trod enc P W 0 (fun _=>true) true fuel T [v]=some x0) (hw:∀n∈x0.1.weights P T,n≤reachBytes):∃bl,BlkSeg W v bl:=by
  rcases Go.Deep.open_slice hT hf with ⟨hcs,_⟩|⟨x,len,cap,m,n,D,Pl,hcs,_,hl,hm,hmm,hd,hx⟩
  · simp only [List.cons.injEq,and_true]at hcs
    subst hcs;exact⟨[],none,0,rfl,by simp,by simp,.inl rfl⟩
  · simp only [List.cons.injEq,and_true]at hcs
    subst hcs;simp only [if_true]at hmm;subst hmm;subst hd;have hlenb:len≤140737488351232:=by
      have hmem:(((List.range len).map D).length+((List.range (m-len)).map fun j=>D (len+j)).length)*P.bytesOf E≤reachBytes:=by
        apply hw;simp only [DataW.weights,hT];exact List.mem_cons_self
      simp only [List.length_map,List.length_range,reachBytes]at hmem;have:=Nat.le_mul_of_pos_right (len+(m-len)) be;omega
    rw[ce]at hx;have each:∀i,i<len->∃z:Nat×UInt8,W.cell? (x.add (i*2))=some (.int .u16 (z.1:Nat))/\W.cell? (x.add (i*2+1))=some (.int .u8 ((z.2.toNat:Nat):Int))/\z.1<65536:=by
      intro i hi;obtain⟨cs',h1,h2⟩:=hx i (by omega);obtain⟨_,hlen,hcell⟩:=World.cells?_some h1;obtain⟨xs,k,hk,hxy,_,hxl,hfld⟩:=DataW.trod_struct hE h2;match xs,hxl,cs',hlen with
      | [y0,y1],_,[v0,v1],_=>
        have g0:=hfld 0 f0 rfl;have g1:=hfld 1 f1 rfl;simp[o0,o1,c0,c1]at g0 g1;have e0:=hcell 0 (by omega);have e1:=hcell 1 (by omega);rw[add_add]at e0 e1;obtain⟨z0,q0,_,r0⟩:=DataW.trod_int t0 g0;obtain⟨z1,q1,_,r1⟩:=DataW.trod_int t1 g1;simp at q0 q1;subst q0;subst q1;have b0:0≤z0/\z0≤65535:=(Lit.wf_int_iff _ _).1 r0;have b1:0≤z1/\z1≤255:=(Lit.wf_int_iff _ _).1 r1;obtain⟨a0,rfl⟩:=Int.eq_ofNat_of_zero_le b0.1;obtain⟨a1,rfl⟩:=Int.eq_ofNat_of_zero_le b1.1;refine⟨(a0,UInt8.ofNat a1),by simpa using e0,?_,by omega⟩;have h256:a1%256=a1:=Nat.mod_eq_of_lt (by omega);simpa [h256]using e1
    obtain⟨F,hF⟩:=choose_lt (α:=Nat×UInt8) each;have hlen:((List.range len).map F).length=len:=by simp
    refine⟨(List.range len).map F,some x,m,by rw[hlen],by rw[hlen];omega,fun u hu=> ?_,?_⟩
    · obtain⟨i,hi,rfl⟩:=List.mem_map.1 hu
      exact(hF i (by simpa using hi)).2.2
    · rcases Nat.eq_zero_or_pos len with h0|h0
      · left;rw[h0];rfl
      · right
        obtain⟨b,off,spot⟩:=x;have hspot:spot=none:=by
          obtain⟨h0',_⟩:=hF 0 (by omega);simpa [Addr.add]using World.cell?_spot h0'
        subst hspot;refine⟨b,off,rfl,?_,fun j hj=> ?_⟩
        · obtain⟨h1,_⟩:=hF 0 (by omega)
          rw[Go.WideShapes.add_plain]at h1;exact block_lt_of_cell h1
        · rw[hlen]at hj
          obtain⟨h1,h2,h3⟩:=hF j hj;rw[Go.WideShapes.add_plain]at h1 h2;rw[List.getElem_map,List.getElem_range];exact⟨h1,by rw[show off+j*2+1=off+(j*2+1) by omega];exact h2⟩
theorem u8_nat {z:Int} (h:(Lit.int .u8 z).wf=true):∃n:Nat,z=n/\n<256:=by
  have b1:0≤z/\z≤255:=(Lit.wf_int_iff _ _).1 h;obtain⟨n,rfl⟩:=Int.eq_ofNat_of_zero_le b1.1;exact⟨n,rfl,by omega⟩
end
section
open Go.RowKit Go.ChangeShapes Go.WideShapes Go.ChangeAt Go.Deep
def BlsSeg (w:World) (v:Value) (l:List (List (Nat×UInt8))):Prop:=
  ∃a c,v=.slice a l.length c/\l.length≤140737488355328/\(l= []\/∃b o,a=some ⟨b,o,none⟩/\b<w.heap.size/\∀j (h:j<l.length),∃u,w.cell? ⟨b,o+j,none⟩=some u/\BlkSeg w u l[j])
theorem BlkSeg.since {w w':World} {v:Value} {bl:List (Nat×UInt8)} (h:BlkSeg w v bl) (hb:Below w.heap.size w w'):BlkSeg w' v bl:=by
  obtain⟨a,c,h1,h2,h3,h4⟩:=h;refine⟨a,c,h1,h2,h3,?_⟩;rcases h4 with h4|⟨b,o,h5,h6,h7⟩
  · exact .inl h4
  · refine .inr ⟨b,o,h5,Nat.lt_of_lt_of_le h6 hb.size,fun j hj=> ?_⟩
    obtain⟨e1,e2⟩:=h7 j hj;exact⟨(hb.cell (p:=⟨b,o+j*2,none⟩) h6).trans e1,(hb.cell (p:=⟨b,o+j*2+1,none⟩) h6).trans e2⟩
theorem bls_of_trod' {H:Type} {enc:TypeId×Value->H} {P:Program} {W:World} {T E base:Nat} {v:Value} {d:DataW H} {ps:List MemPlace}
    (hT:P.underlying T=some (.slice E)) (ce:P.cellsOf E=1) (be:0<P.bytesOf E)
    (hE:∀fuel v x,DataW.trod enc P W 0 (fun _=>true) true fuel E [v]=some x->(∀n∈x.1.weights P E,n≤reachBytes)->∃us,BlkSeg W v us)
    (hv:Value.okWide P W .any base T v) (h:DataW.Trod enc P W 0 (fun _=>true) true T v d ps) (hw:∀n∈d.weights P T,n≤reachBytes):∃l,BlsSeg W v l:=by
  obtain⟨a,len,cap,rfl⟩:=Go.WideShapes.okWide_slice hT hv;obtain⟨fuel,hf⟩:=h;rcases Go.Deep.open_slice hT hf with ⟨hcs,_⟩|⟨x,l,c,m,n,D,Pl,hcs,_,hl,hm,hmm,hd,hx⟩
  · simp[Value.cells]at hcs
    obtain⟨rfl,rfl,rfl⟩:=hcs;exact⟨[],none,0,rfl,by simp,.inl rfl⟩
  · simp[Value.cells]at hcs
    obtain⟨rfl,rfl,rfl⟩:=hcs;simp only [if_true]at hmm;subst hmm;simp only [Prod.mk.injEq]at hd;have hlenb:len≤140737488351232:=by
      have hmem:(((List.range len).map D).length+((List.range (m-len)).map fun j=>D (len+j)).length)*P.bytesOf E≤reachBytes:=by
        apply hw;rw[hd.1];simp only [DataW.weights,hT];exact List.mem_cons_self
      simp only [List.length_map,List.length_range,reachBytes]at hmem;have:=Nat.le_mul_of_pos_right (len+(m-len)) be;omega
    rw[ce]at hx;have each:∀i,i<len->∃z:List (Nat×UInt8),∃u,W.cell? (x.add (i*1))=some u/\BlkSeg W u z:=by
      intro i hi;obtain⟨cs',h1,h2⟩:=hx i (by omega);obtain⟨_,hlen,hcell⟩:=World.cells?_some h1;match cs',hlen with
      | [v0],_=>
        have e0:=hcell 0 (by omega);rw[add_add]at e0
        obtain ⟨us, r⟩ := hE _ _ _ h2 (fun n hn => hw n (by
          rw[hd.1]
          simp only [DataW.weights,hT]
          exact List.mem_cons_of_mem _ (List.mem_append_left _ (Zcq (i:=i) (d:=D i) (by simp[hi]) _ hn))))
        exact⟨us,v0,by simpa using e0,r⟩
    haveI:Inhabited (List (Nat×UInt8)):=⟨[]⟩;obtain⟨F,hF⟩:=choose_lt (α:=List (Nat×UInt8)) each;have hlen:((List.range len).map F).length=len:=by simp
    refine⟨(List.range len).map F,some x,m,by rw[hlen],by rw[hlen];omega,?_⟩;rcases Nat.eq_zero_or_pos len with h0|h0
    · left;rw[h0];rfl
    · right
      obtain⟨b,off,spot⟩:=x;have hspot:spot=none:=by
        obtain⟨u,h0',_⟩:=hF 0 (by omega);simpa [Addr.add]using World.cell?_spot h0'
      subst hspot;refine⟨b,off,rfl,?_,fun j hj=> ?_⟩
      · obtain⟨u,h1,_⟩:=hF 0 (by omega)
        rw[Go.WideShapes.add_plain]at h1;exact block_lt_of_cell h1
      · rw[hlen]at hj
        obtain⟨u,h1,h2⟩:=hF j hj;rw[Go.WideShapes.add_plain,Nat.mul_one]at h1;rw[List.getElem_map,List.getElem_range];exact⟨u,h1,h2⟩
theorem bls_of_trod {H:Type} {enc:TypeId×Value->H} {W:World} {base:Nat} {v:Value} {d:DataW H} {ps:List MemPlace}
    (hv:Value.okWide Tryz.prog W .any base 53 v) (h:DataW.Trod enc Tryz.prog W 0 (fun _=>true) true 53 v d ps) (hw:∀n∈d.weights Tryz.prog 53,n≤reachBytes):∃l,BlsSeg W v l:=
  bls_of_trod' Tryz.underlying53 (by decide+kernel) (by decide+kernel)
    (fun fuel v x hf hw=>blks_of_cell Tryz.underlying22 Tryz.underlying70 (by kernel_rfl) (by decide+kernel) rfl rfl (by kernel_rfl) (by kernel_rfl) Tryz.underlying33 Tryz.underlying5 hf hw)
    hv h hw
theorem a17_much (a:Option Addr) (n c:Nat) (w:World):Calls Tryz.prog 18 #[.slice a n c] w fun e w'=>e=.returned (.bool (decide ((100:Int)<(n:Int))))/\w'=w:=by
  go_enter Tryz.func18,Tryz.ntmps18;go_wp2;go_ret;exact⟨rfl,rfl⟩
end
theorem lz_start {w0 w1 w4:World} {T1 T2:Nat->Nat} {A1 A2:Adr} {M C S ring ap1 ap2 st1 st2 gb:Nat} {s1 s2:BaySt} (hg:geoIs M C S=true) (h5:5≤ring) (h6:ring≤2048) (h1:MdAt w0 w1 T1 A1 ap1 st1 M C S ring false 5 s1) (hgb:gb=w1.heap.size) (h2:MdAt (w1.alloc (.cells #[.int .i64 M,.int .i64 C,.int .i64 S] 26)) w4 T2 A2 ap2 st2 M C S ring true 5 s2):
    Dub w0 w4 A1 A2 M C S ring false true (-1) (-1) zD zD 80000 80000 [arB ap1 st1 A1 M C S ring false 5 1 1,stB st1 (-1) M,arB ap2 st2 A2 M C S ring true 5 1 1,stB st2 (-1) M,(gb,#[.int .i64 M,.int .i64 C,.int .i64 S],26)]/\(w0.heap.size≤ap1/\w0.heap.size≤st1/\w0.heap.size≤gb/\ap1<gb/\st1<gb/\gb<ap2/\gb<st2):=by
  obtain⟨k1,k2⟩:=h1.ab hg h5 h6;obtain⟨k3,k4⟩:=h2.ab hg h5 h6;have k5:=k1.push #[.int .i64 M,.int .i64 C,.int .i64 S] 26 (by decide) (by decide) (by decide) (by decide);have hz:(w1.alloc (.cells #[.int .i64 M,.int .i64 C,.int .i64 S] 26)).heap.size=w1.heap.size+1:=Zaa _ _;have e1:=h2.hi.1;have e2:=h2.hi.2.1;rw[hz]at e1 e2;have e3:=h1.ar.lt;have e4:=h1.st.lt;have e5:=h1.bel.size;subst hgb;have hd:Dub w0 w4 A1 A2 M C S ring false true (-1) (-1) zD zD 80000 80000 (((w1.heap.size,#[.int .i64 M,.int .i64 C,.int .i64 S],26):: [arB ap1 st1 A1 M C S ring false 5 1 1,stB st1 (-1) M])++ [arB ap2 st2 A2 M C S ring true 5 1 1,stB st2 (-1) M]):=by
    refine⟨_,_,_,_,_,_,Twin.start k5 k3 (fun x hx=> ?_),k2,k4,fun k hk=>rfl,fun k hk=>rfl⟩;simp only [List.mem_cons,List.not_mem_nil,or_false]at hx;rcases hx with rfl|rfl
    · exact h2.hi.1
    · exact h2.hi.2.1
  refine⟨hd.sub fun x hx=> ?_,h1.hi.1,h1.hi.2.1,e5,e3,e4,by omega,by omega⟩;simp only [List.mem_cons,List.mem_append,List.not_mem_nil,or_false]at hx ⊢;rcases hx with e|e|e|e|e<;>simp[e]
theorem arrayLazy_main (mm ss rr gn fl:Nat) (v:Value) (l:List (List (Nat×UInt8))) (W:World) (hm:mm<256) (hs:ss<256) (hr:rr<256) (hgn:gn<256) (hfl:fl<256) (hv:BlsSeg W v l):
    Calls Tryz.prog 6 #[.int .u8 mm,.int .u8 ss,.int .u8 rr,v,.int .u8 gn,.int .u8 fl] W fun e w'=>e=.returned (.bool true)/\Below W.heap.size W w':=by
  have hg:=geo_made hm hs;have hR5:5≤5+rr%80:=by omega
  have hR6:5+rr%80≤2048:=by omega
  have HMD:Hid (∀w lz,Calls Tryz.prog 7 #[.int .u8 mm,.int .u8 ss,.int .u8 rr,.bool lz] w fun e w'=>∃ap stg A T s,e=.returned (.tuple #[.pointer (some ⟨A.b,0,none⟩),.pointer (some ⟨ap,0,none⟩),.agg #[.int .i64 (mm%6+3:Nat),.int .i64 (1+ss/128:Nat),.int .i64 (ss%5+1:Nat)]])/\MdAt w w' T A ap stg (mm%6+3) (1+ss/128) (ss%5+1) (5+rr%80) lz 5 s):=fun w lz=>a17_made mm ss rr lz w hm hs hr
  have hM17:mm%6+3≤8:=by omega
  have hC17:1+ss/128≤2:=by omega
  have hS17:ss%5+1≤5:=by omega
  generalize mm%6+3=M at*;generalize 1+ss/128=C at*;generalize ss%5+1=S at*;generalize 5+rr%80=ring at*;obtain⟨g1,g2,g3,g4⟩:=Zbe hg;obtain⟨n,hn⟩:∃n,n=S*C*(M-1):=⟨_,rfl⟩;have hn1:1≤n:=by rw[hn];exact Nat.mul_pos g3 (by omega)
  have hn2:n≤70:=by rw[hn];exact Nat.le_trans (Nat.mul_le_mul (Nat.mul_le_mul hS17 hC17) (show M-1≤7 by omega)) (by omega)
  have HKN:Hid (∀w,Calls Tryz.prog 8 #[] w fun e w'=>e=.returned (.bool true)/\Below w.heap.size w w'):=fun w=>a17_known w
  obtain⟨va,vc,rfl⟩:∃a c,v=.slice a l.length c:=by
    obtain⟨a,c,h1,-⟩:=hv;exact⟨a,c,h1⟩
  have HMU:=Lib.hid (a17_much va l.length vc W);by_cases h100:100<l.length
  · have hd:decide ((100:Int)<(l.length:Int))=true:=decide_eq_true (by omega)
    rw[hd]at HMU;clear hg hv hn hn1 hn2;go_enter Tryz.func6,Tryz.ntmps6;go_wp2_with (go_at_call 18;(with_reducible refine HMU.out.mono ?_);rintro e w1 ⟨rfl,hw1⟩;subst hw1);go_ret;exact⟨rfl,Below.refl _ _⟩
  have hd:decide ((100:Int)<(l.length:Int))=false:=decide_eq_false (by omega);rw[hd]at HMU;have HST:Hid (∀w1 w4 T1 T2 A1 A2 ap1 ap2 st1 st2 gb s1 s2,MdAt W w1 T1 A1 ap1 st1 M C S ring false 5 s1->gb=w1.heap.size->MdAt (w1.alloc (.cells #[.int .i64 M,.int .i64 C,.int .i64 S] 26)) w4 T2 A2 ap2 st2 M C S ring true 5 s2->Dub W w4 A1 A2 M C S ring false true (-1) (-1) zD zD 80000 80000 [arB ap1 st1 A1 M C S ring false 5 1 1,stB st1 (-1) M,arB ap2 st2 A2 M C S ring true 5 1 1,stB st2 (-1) M,(gb,#[.int .i64 M,.int .i64 C,.int .i64 S],26)]/\(W.heap.size≤ap1/\W.heap.size≤st1/\W.heap.size≤gb/\ap1<gb/\st1<gb/\gb<ap2/\gb<st2)):=fun w1 w4 T1 T2 A1 A2 ap1 ap2 st1 st2 gb s1 s2 h1 h2 h3=>lz_start hg hR5 hR6 h1 h2 h3
  have HPU0:Hid (∀w u bl,BlkSeg w u bl->Calls Tryz.prog 10 #[.agg #[.int .i64 M,.int .i64 C,.int .i64 S],u] w fun e w'=>∃pa pc PB,e=.returned (.slice pa (aPuts (S*C*(M-1)) bl).length pc)/\PuBox w' w.heap.size (.slice pa (aPuts (S*C*(M-1)) bl).length pc) (aPuts (S*C*(M-1)) bl) PB/\Below w.heap.size w w'):=fun w u bl hu=>a17_putsB M C S hg u bl w hu
  have HSB:Hid (∀u v w X,(∀k,k<n->(X k).length=128)->Seg w u (flatD X n)->Seg w v (flatD X n)->Calls Tryz.prog 13 #[u,v] w fun e w'=>e=.returned (.bool true)/\Below w.heap.size w w'):=fun u v w X hX h1 h2=>(Zyg u v _ _ w (by rw[Zxj hX];omega) (by rw[Zxj hX];omega) h1 h2).mono fun e w' ⟨x1,x2⟩=>⟨by rw[x1];simp,x2⟩
  have HLN:Hid (∀w A1 A2 l1 l2 g1 g2 X Y a b L,Dub W w A1 A2 M C S ring l1 l2 g1 g2 X Y a b L->∀k,k<n->(X k).length=128):=fun w A1 A2 l1 l2 g1 g2 X Y a b L h k hk=>h.len k (by rw[<-hn];exact hk)
  have HBK0:Hid (∀w A1 A2 l1 l2 g1 g2 X Y a b L ap st,Dub W w A1 A2 M C S ring l1 l2 g1 g2 X Y a b L->arB ap st A1 M C S ring l1 5 1 1∈L->Calls Tryz.prog 9 #[.pointer (some ⟨ap,0,none⟩)] w fun e w'=>e=.returned (.int .i64 n)/\Below w.heap.size w w'):=fun w A1 A2 l1 l2 g1 g2 X Y a b L ap st h1 h2=>by
    rw[hn];exact dub_blocks h1 h2 hg
  have HV:=Lib.hid hv;have hll:l.length≤100:=by omega
  have HG:=Lib.hid hg;have HN:=Lib.hid hn;clear hg hv hn h100 hd hm hs hr;go_enter Tryz.func6,Tryz.ntmps6
  go_wp2_with (first
    |(go_at_call 18;(with_reducible refine HMU.out.mono ?_);rintro e w0 ⟨rfl,hw0⟩;obtain rfl:W=w0:=hw0.symm)
    | (go_at_call 7; (with_reducible refine (HMD.out (w1.alloc (.cells #[.int .i64 M, .int .i64 C, .int .i64 S] 26)) true).mono ?_); rintro e w2 ⟨ap2, st2, A2, T2, s2, rfl, hm2⟩
       obtain⟨gb,hgb⟩:∃gb,gb=w1.heap.size:=⟨_,rfl⟩
       obtain⟨hd2,hh2⟩:=HST.out _ _ _ _ A1 A2 ap1 ap2 st1 st2 gb _ _ HM1.out hgb hm2
       have HD2:=Lib.hid (hd2.below ((Below.refl w2.heap.size w2).alloc (Nat.le_refl _) (.cells #[.int .i64 M,.int .i64 C,.int .i64 S] 26)))
       have HH:=Lib.hid hh2
       clear hm2 hd2 hh2)
    | (go_at_call 7; (with_reducible refine (HMD.out _ false).mono ?_); rintro e w1 ⟨ap1, st1, A1, T1, s1, rfl, hm1⟩
       have HM1:=Lib.hid hm1
       clear hm1)
    | (go_at_call 8; (with_reducible refine (HKN.out _).mono ?_); rintro e w3 ⟨rfl, hb3⟩
       have HD3:=Lib.hid (HD2.out.below hb3)
       clear hb3)
    | (go_at_call 9; (with_reducible refine (HBK0.out _ A1 A2 _ _ _ _ _ _ _ _ _ ap1 st1 HD3.out List.mem_cons_self).mono ?_); rintro e w4 ⟨rfl, hb4⟩
       have HD4:=Lib.hid (HD3.out.below hb4)
       clear hb4))
  rw[<-hgb];clear hgb HD2 HD3 HM1 HMD HKN HST HMU HBK0
  have HW1:Hid (∀w g ev X Y a b us (PB:List Bx) {pa pc},Dub W w A1 A2 M C S ring false true g g X Y a b (PB++ [arB ap1 st1 A1 M C S ring false 5 ev ev,stB st1 g M,arB ap2 st2 A2 M C S ring true 5 ev ev,stB st2 g M,(gb,#[.int .i64 M,.int .i64 C,.int .i64 S],26)])->(∀W',(∀x∈PB,At W' x.1 x.2.1 x.2.2)->PutSeg W' (.slice pa us.length pc) us)->(Within a b/\us.length≤30)->Calls Tryz.prog 11 #[.pointer (some ⟨ap1,0,none⟩),.slice pa us.length pc] w fun e w'=>e=.returned (.int .u16 (wcode M C S ring us:Nat))/\Dub W w' A1 A2 M C S ring false true g g (wLaid M C S ring us X) Y (a+1000000) (b+244) [arB ap1 st1 A1 M C S ring false 5 ev ev,stB st1 g M,arB ap2 st2 A2 M C S ring true 5 ev ev,stB st2 g M,(gb,#[.int .i64 M,.int .i64 C,.int .i64 S],26)]):=fun w g ev X Y a b us PB pa pc h hp hin=>(dub_write h (List.mem_append_right _ List.mem_cons_self) hin.1 _ us PB (fun x hx=>List.mem_append_left _ hx) hp hR5).mono fun e w' ⟨k1,k2⟩=>⟨k1,(k2.mono (by omega) (by have:=hin.2;omega)).sub fun x hx=>List.mem_append_right _ hx⟩
  have HW2:Hid (∀w g ev X Y a b us (PB:List Bx) {pa pc},Dub W w A1 A2 M C S ring false true g g X Y a b (PB++ [arB ap1 st1 A1 M C S ring false 5 ev ev,stB st1 g M,arB ap2 st2 A2 M C S ring true 5 ev ev,stB st2 g M,(gb,#[.int .i64 M,.int .i64 C,.int .i64 S],26)])->(∀W',(∀x∈PB,At W' x.1 x.2.1 x.2.2)->PutSeg W' (.slice pa us.length pc) us)->(Within a b/\us.length≤30)->Calls Tryz.prog 11 #[.pointer (some ⟨ap2,0,none⟩),.slice pa us.length pc] w fun e w'=>e=.returned (.int .u16 (wcode M C S ring us:Nat))/\Dub W w' A1 A2 M C S ring false true g g X (wLaid M C S ring us Y) (a+1000000) (b+244) [arB ap1 st1 A1 M C S ring false 5 ev ev,stB st1 g M,arB ap2 st2 A2 M C S ring true 5 ev ev,stB st2 g M,(gb,#[.int .i64 M,.int .i64 C,.int .i64 S],26)]):=fun w g ev X Y a b us PB pa pc h hp hin=>(dub_write h.swap (id:=5) (ev:=ev) (sf:=ev) (stg:=st2) (List.mem_append_right _ (by simp)) hin.1 _ us PB (fun x hx=>List.mem_append_left _ hx) hp hR5).mono fun e w' ⟨k1,k2⟩=>⟨k1,((k2.mono (by omega) (by have:=hin.2;omega)).sub fun x hx=>List.mem_append_right _ hx).swap⟩
  have HR1:Hid (∀w g ev X Y a b L,arB ap1 st1 A1 M C S ring false 5 ev ev∈L->Dub W w A1 A2 M C S ring false true g g X Y a b L->Within (a+2000000) b->Calls Tryz.prog 12 #[.pointer (some ⟨ap1,0,none⟩),.int .i64 0,.int .i64 n] w fun e w'=>∃v bx,e=.returned (.tuple #[v,.int .u16 0])/\(∀W',At W' bx.1 bx.2.1 bx.2.2->Seg W' v (flatD X n))/\Dub W w' A1 A2 M C S ring false true g g X Y (a+2000000) b (bx::L)):=fun w g ev X Y a b L hm h hin=>(dub_read h hm hin n HN.out).mono fun e w' ⟨v,bx,k1,k2,k3⟩=>⟨v,bx,k1,k2.2,k3⟩
  have HR2:Hid (∀w g ev X Y a b L,arB ap2 st2 A2 M C S ring true 5 ev ev∈L->Dub W w A1 A2 M C S ring false true g g X Y a b L->Within (a+2000000) b->Calls Tryz.prog 12 #[.pointer (some ⟨ap2,0,none⟩),.int .i64 0,.int .i64 n] w fun e w'=>∃v bx,e=.returned (.tuple #[v,.int .u16 0])/\(∀W',At W' bx.1 bx.2.1 bx.2.2->Seg W' v (flatD Y n))/\Dub W w' A1 A2 M C S ring false true g g X Y (a+2000000) b (bx::L)):=fun w g ev X Y a b L hm h hin=>(dub_read h.swap hm hin n HN.out).mono fun e w' ⟨v,bx,k1,k2,k3⟩=>⟨v,bx,k1,k2.2,k3.swap⟩
  have HF1:Hid (∀w g ev X Y a b,Dub W w A1 A2 M C S ring false true g g X Y a b [arB ap1 st1 A1 M C S ring false 5 ev ev,stB st1 g M,arB ap2 st2 A2 M C S ring true 5 ev ev,stB st2 g M,(gb,#[.int .i64 M,.int .i64 C,.int .i64 S],26)]->Within a b->Calls Tryz.prog 19 #[.pointer (some ⟨ap1,0,none⟩)] w fun e w'=>e=.returned (.int .u16 0)/\Dub W w' A1 A2 M C S ring false true g g X Y (a+1000) (b+1) [arB ap1 st1 A1 M C S ring false 5 ev ev,stB st1 g M,arB ap2 st2 A2 M C S ring true 5 ev ev,stB st2 g M,(gb,#[.int .i64 M,.int .i64 C,.int .i64 S],26)]):=fun w g ev X Y a b h hin=>dub_flush h List.mem_cons_self hin
  have HF2:Hid (∀w g ev X Y a b,Dub W w A1 A2 M C S ring false true g g X Y a b [arB ap1 st1 A1 M C S ring false 5 ev ev,stB st1 g M,arB ap2 st2 A2 M C S ring true 5 ev ev,stB st2 g M,(gb,#[.int .i64 M,.int .i64 C,.int .i64 S],26)]->Within a b->Calls Tryz.prog 19 #[.pointer (some ⟨ap2,0,none⟩)] w fun e w'=>e=.returned (.int .u16 0)/\Dub W w' A1 A2 M C S ring false true g g X Y (a+1000) (b+1) [arB ap1 st1 A1 M C S ring false 5 ev ev,stB st1 g M,arB ap2 st2 A2 M C S ring true 5 ev ev,stB st2 g M,(gb,#[.int .i64 M,.int .i64 C,.int .i64 S],26)]):=fun w g ev X Y a b h hin=>(dub_flush h.swap (id:=5) (ev:=ev) (sf:=ev) (stg:=st2) (by simp) hin).mono fun e w' ⟨k1,k2⟩=>⟨k1,k2.swap⟩
  have HX1 : Hid (∀ w X Y a b, Dub W w A1 A2 M C S ring false true (-1) (-1) X Y a b [arB ap1 st1 A1 M C S ring false 5 1 1, stB st1 (-1) M, arB ap2 st2 A2 M C S ring true 5 1 1, stB st2 (-1) M, (gb, #[.int .i64 M, .int .i64 C, .int .i64 S], 26)] -> Within a b -> Calls Tryz.prog 16 #[.pointer (some ⟨ap1, 0, none⟩), .int .i64 0] w fun e w' => e = .returned (.int .u16 0) /\ Dub W w' A1 A2 M C S ring false true 0 (-1) X Y (a + 50) (b + 50) [arB ap1 st1 A1 M C S ring false 5 2 2, stB st1 0 M, arB ap2 st2 A2 M C S ring true 5 1 1, stB st2 (-1) M, (gb, #[.int .i64 M, .int .i64 C, .int .i64 S], 26)]) := fun w X Y a b h hin => dub_fail (k := 0) h HH.out.1 HH.out.2.1 (fun x hx => by
    obtain⟨q1,q2,q3,q4,q5,q6,q7⟩:=HH.out
    simp only [List.mem_cons,List.not_mem_nil,or_false]at hx
    rcases hx with rfl|rfl|rfl<;>(dsimp only;omega)) (by omega) hin ⟨by omega,by omega⟩ ⟨hR5,hR6⟩ (by omega)
  have HX2:Hid (∀w X Y a b,Dub W w A1 A2 M C S ring false true 0 (-1) X Y a b [arB ap1 st1 A1 M C S ring false 5 2 2,stB st1 0 M,arB ap2 st2 A2 M C S ring true 5 1 1,stB st2 (-1) M,(gb,#[.int .i64 M,.int .i64 C,.int .i64 S],26)]->Within a b->Calls Tryz.prog 16 #[.pointer (some ⟨ap2,0,none⟩),.int .i64 0] w fun e w'=>e=.returned (.int .u16 0)/\Dub W w' A1 A2 M C S ring false true 0 0 X Y (a+50) (b+50) [arB ap1 st1 A1 M C S ring false 5 2 2,stB st1 0 M,arB ap2 st2 A2 M C S ring true 5 2 2,stB st2 0 M,(gb,#[.int .i64 M,.int .i64 C,.int .i64 S],26)]):=fun w X Y a b h hin=>by
    obtain⟨q1,q2,q3,q4,q5,q6,q7⟩:=HH.out;have h2:Dub W w A2 A1 M C S ring true false (-1) 0 Y X a b (arB ap2 st2 A2 M C S ring true 5 1 1::stB st2 (-1) M:: [arB ap1 st1 A1 M C S ring false 5 2 2,stB st1 0 M,(gb,#[.int .i64 M,.int .i64 C,.int .i64 S],26)]):=h.swap.sub fun x hx=>by
      simp only [List.mem_cons,List.not_mem_nil,or_false]at hx ⊢;rcases hx with e|e|e|e|e<;>simp[e]
    refine (dub_fail (k := 0) h2 (by omega) (by omega) (fun x hx => by
      simp only [List.mem_cons,List.not_mem_nil,or_false]at hx
      rcases hx with rfl|rfl|rfl<;>(dsimp only;omega)) (by omega) hin ⟨by omega,by omega⟩ ⟨hR5,hR6⟩ (by omega)).mono ?_
    rintro e w' ⟨k1,k2⟩;refine⟨k1,k2.swap.sub fun x hx=> ?_⟩;simp only [List.mem_cons,List.not_mem_nil,or_false]at hx ⊢;rcases hx with e|e|e|e|e<;>simp[e]
  go_loopw [20] (fun q wr=>∃i:Nat,i≤l.length/\q=.int .i64 i/\∃g ev X,Dub W wr A1 A2 M C S ring false true g g X X (80000+i*7000000) (80000+i*600) [arB ap1 st1 A1 M C S ring false 5 ev ev,stB st1 g M,arB ap2 st2 A2 M C S ring true 5 ev ev,stB st2 g M,(gb,#[.int .i64 M,.int .i64 C,.int .i64 S],26)]/\(i≤gn->g= -1/\ev=1)) (fun q _=>l.length-(intOf q).toNat);case atStart=>exact⟨0,Nat.zero_le _,rfl,-1,1,zD,HD4.out,fun _=>⟨rfl,rfl⟩⟩
  case round=>
    obtain⟨i,hi,rfl,g,ev,X,hdi,hcd⟩:=hrel;have HDI:=Lib.hid hdi;have HCD:=Lib.hid hcd;clear hdi hcd HD4;by_cases hil:i<l.length
    · obtain⟨lb,lo,rfl,hlb,hcl⟩:∃b o,va=some ⟨b,o,none⟩/\b<W.heap.size/\∀j (h:j<l.length),∃u,W.cell? ⟨b,o+j,none⟩=some u/\BlkSeg W u l[j]:=by
        obtain⟨a',c',h1,h2,h3⟩:=HV.out;simp only [Value.slice.injEq]at h1;obtain⟨rfl,-,rfl⟩:=h1;rcases h3 with e|e
        · rw[e]at hil;exact absurd hil (by simp)
        · exact e
      obtain⟨u,hu,hus⟩:=hcl i hil;generalize l[i]=bl at*;have hii:(i:Int)<(l.length:Int):=by omega
      have HPU:=Lib.hid (fun w u=>HPU0.out w u bl);have hul:=aPuts_length (S*C*(M-1)) bl;generalize aPuts (S*C*(M-1)) bl=us at*;have HUS:=Lib.hid hus;have HCX:Hid (∀w' X Y a b g' L,Dub W w' A1 A2 M C S ring false true g' g' X Y a b L->(gb,#[.int .i64 M,.int .i64 C,.int .i64 S],26)∈L->w'.cell? ⟨gb,0,none⟩=some (.int .i64 M)/\w'.cell? ⟨gb,1,none⟩=some (.int .i64 C)/\w'.cell? ⟨gb,2,none⟩=some (.int .i64 S)/\w'.cell? ⟨lb,lo+i,none⟩=some u):=fun w' X Y a b g' L h hm=>by
        have hb:=h.box _ hm;exact⟨hb.cell 0,hb.cell 1,hb.cell 2,(h.bel.cell (p:=⟨lb,lo+i,none⟩) hlb).trans hu⟩
      have HDa:=Lib.hid (HDI.out.below (Below.refl _ _).drew);have HBa:Hid (Within (80000+i*7000000) (80000+i*600)/\us.length≤30):=⟨⟨by omega,by omega⟩,hul⟩;have HBb:Hid (Within (80000+i*7000000+1000000) (80000+i*600+244)/\us.length≤30):=⟨⟨by omega,by omega⟩,hul⟩;have HBc:Hid (Within (80000+i*7000000+1000000+1000000+2000000) (80000+i*600+244+244)):=⟨by omega,by omega⟩;have HBd:Hid (Within (80000+i*7000000+1000000+1000000+2000000+2000000) (80000+i*600+244+244)):=⟨by omega,by omega⟩;have HBf:Hid (Within (80000+i*7000000+6000000) (80000+i*600+490)):=⟨by omega,by omega⟩;have HBg:Hid (Within (80000+i*7000000+6000000+1000) (80000+i*600+490+1)):=⟨by omega,by omega⟩;have K1:Hid (i+1≤l.length):=hil;clear hcl hu hus hlb hul;have HCa0:Hid (wr.drew.cell? ⟨gb,0,none⟩=some (.int .i64 M)/\wr.drew.cell? ⟨gb,1,none⟩=some (.int .i64 C)/\wr.drew.cell? ⟨gb,2,none⟩=some (.int .i64 S)/\wr.drew.cell? ⟨lb,lo+i,none⟩=some u):=HCX.out _ _ _ _ _ _ _ HDa.out (by simp);have HBSa:Hid (BlkSeg wr.drew u bl):=HUS.out.since HDa.out.bel;go_upto_region 11 with fail
      go_region_held3 (fun w'=>w'.cell? ⟨gb,0,none⟩=some (.int .i64 M)/\w'.cell? ⟨gb,1,none⟩=some (.int .i64 C)/\w'.cell? ⟨gb,2,none⟩=some (.int .i64 S)/\w'.cell? ⟨lb,lo+i,none⟩=some u)
        (first|with_reducible exact HCa0.out|with_reducible exact HCa5.out|with_reducible exact HCa6.out)
        (first
          | (go_at_call 10; (with_reducible refine (HPU.out _ u HBSa.out).mono ?_); rintro e wa5 ⟨paa, pca, PBa, rfl, hpu, hb5⟩
             have HPBa:=Lib.hid hpu
             have HSa5:=Lib.hid (HDa.out.grow hb5 PBa hpu.box)
             have HCa5:Hid (wa5.cell? ⟨gb,0,none⟩=some (.int .i64 M)/\wa5.cell? ⟨gb,1,none⟩=some (.int .i64 C)/\wa5.cell? ⟨gb,2,none⟩=some (.int .i64 S)/\wa5.cell? ⟨lb,lo+i,none⟩=some u):=HCX.out _ _ _ _ _ _ _ HSa5.out (by simp)
             clear hpu hb5)
          | (go_at_call 11; (with_reducible refine (HW1.out _ g ev _ _ _ _ _ PBa HSa5.out HPBa.out.seg HBa.out).mono ?_); rintro e wa6 ⟨rfl, hs6⟩
             have HSa6:=Lib.hid hs6
             have HCa6:Hid (wa6.cell? ⟨gb,0,none⟩=some (.int .i64 M)/\wa6.cell? ⟨gb,1,none⟩=some (.int .i64 C)/\wa6.cell? ⟨gb,2,none⟩=some (.int .i64 S)/\wa6.cell? ⟨lb,lo+i,none⟩=some u):=HCX.out _ _ _ _ _ _ _ HSa6.out (by simp)
             clear hs6))
      have HDb:=Lib.hid (HSa6.out.below (Below.refl _ _).drew);clear HSa6 HSa5 HPBa HCa0 HCa5 HCa6 HBSa HDa;have HCb0:Hid (wa6.drew.cell? ⟨gb,0,none⟩=some (.int .i64 M)/\wa6.drew.cell? ⟨gb,1,none⟩=some (.int .i64 C)/\wa6.drew.cell? ⟨gb,2,none⟩=some (.int .i64 S)/\wa6.drew.cell? ⟨lb,lo+i,none⟩=some u):=HCX.out _ _ _ _ _ _ _ HDb.out (by simp);have HBSb:Hid (BlkSeg wa6.drew u bl):=HUS.out.since HDb.out.bel;go_upto_region 12 with fail
      go_region_held3 (fun w'=>w'.cell? ⟨gb,0,none⟩=some (.int .i64 M)/\w'.cell? ⟨gb,1,none⟩=some (.int .i64 C)/\w'.cell? ⟨gb,2,none⟩=some (.int .i64 S)/\w'.cell? ⟨lb,lo+i,none⟩=some u)
        (first|with_reducible exact HCb0.out|with_reducible exact HCb5.out|with_reducible exact HCb6.out)
        (first
          | (go_at_call 10; (with_reducible refine (HPU.out _ u HBSb.out).mono ?_); rintro e wb5 ⟨pab, pcb, PBb, rfl, hpu, hb5⟩
             have HPBb:=Lib.hid hpu
             have HSb5:=Lib.hid (HDb.out.grow hb5 PBb hpu.box)
             have HCb5:Hid (wb5.cell? ⟨gb,0,none⟩=some (.int .i64 M)/\wb5.cell? ⟨gb,1,none⟩=some (.int .i64 C)/\wb5.cell? ⟨gb,2,none⟩=some (.int .i64 S)/\wb5.cell? ⟨lb,lo+i,none⟩=some u):=HCX.out _ _ _ _ _ _ _ HSb5.out (by simp)
             clear hpu hb5)
          | (go_at_call 11; (with_reducible refine (HW2.out _ g ev _ _ _ _ _ PBb HSb5.out HPBb.out.seg HBb.out).mono ?_); rintro e wb6 ⟨rfl, hs6⟩
             have HSb6:=Lib.hid hs6
             have HCb6:Hid (wb6.cell? ⟨gb,0,none⟩=some (.int .i64 M)/\wb6.cell? ⟨gb,1,none⟩=some (.int .i64 C)/\wb6.cell? ⟨gb,2,none⟩=some (.int .i64 S)/\wb6.cell? ⟨lb,lo+i,none⟩=some u):=HCX.out _ _ _ _ _ _ _ HSb6.out (by simp)
             clear hs6))
      have HDc:Hid (∃X1,Dub W wb6 A1 A2 M C S ring false true g g X1 X1 (80000+i*7000000+1000000+1000000) (80000+i*600+244+244) [arB ap1 st1 A1 M C S ring false 5 ev ev,stB st1 g M,arB ap2 st2 A2 M C S ring true 5 ev ev,stB st2 g M,(gb,#[.int .i64 M,.int .i64 C,.int .i64 S],26)]):=⟨_,HSb6.out⟩;generalize wcode M C S ring us=cd at*;clear HSb6 HSb5 HPBb HCb0 HCb5 HCb6 HBSb HDb HW1 HW2 HPU HPU0 HUS HCX;obtain⟨X1,hdc⟩:=HDc.out;have HDd:=Lib.hid hdc;have hX:=HLN.out _ _ _ _ _ _ _ _ _ _ _ _ hdc;have HX:=Lib.hid hX;have mA:arB ap1 st1 A1 M C S ring false 5 ev ev∈ [arB ap1 st1 A1 M C S ring false 5 ev ev,stB st1 g M,arB ap2 st2 A2 M C S ring true 5 ev ev,stB st2 g M,(gb,#[.int .i64 M,.int .i64 C,.int .i64 S],26)]:=by simp
      have mC:∀x:Bx,arB ap2 st2 A2 M C S ring true 5 ev ev∈x:: [arB ap1 st1 A1 M C S ring false 5 ev ev,stB st1 g M,arB ap2 st2 A2 M C S ring true 5 ev ev,stB st2 g M,(gb,#[.int .i64 M,.int .i64 C,.int .i64 S],26)]:=fun x=>by simp
      clear hdc hX HDc HDI
      go_upto_region 17 with (first
        |(go_at_call 12;(with_reducible refine(HR1.out _ g ev X1 X1 _ _ _ mA HDd.out HBc.out).mono ?_);rintro e w7 ⟨v7,bx7,rfl,hs7,hd7⟩;have HD7:=Lib.hid hd7;have HS7:=Lib.hid hs7;clear hd7 hs7)
        |(go_at_call 12;(with_reducible refine(HR2.out _ g ev X1 X1 _ _ _ (mC _) HD7.out HBd.out).mono ?_);rintro e w8 ⟨v8,bx8,rfl,hs8,hd8⟩;have HD8:=Lib.hid hd8;have HS8:=Lib.hid hs8;clear hd8 hs8)
        |(go_at_call 13;(have q7:=HS7.out _ (HD8.out.box bx7 (by simp)));(have q8:=HS8.out _ (HD8.out.box bx8 (by simp)));(with_reducible refine(HSB.out _ _ _ X1 HX.out q7 q8).mono ?_);rintro e w9 ⟨rfl,hb9⟩;have HD9:=Lib.hid (HD8.out.below hb9);clear hb9 q7 q8))
      have HDe:Hid (Dub W w9 A1 A2 M C S ring false true g g X1 X1 (80000+i*7000000+6000000) (80000+i*600+490) [arB ap1 st1 A1 M C S ring false 5 ev ev,stB st1 g M,arB ap2 st2 A2 M C S ring true 5 ev ev,stB st2 g M,(gb,#[.int .i64 M,.int .i64 C,.int .i64 S],26)]):=(HD9.out.sub fun x hx=>List.mem_cons_of_mem _ (List.mem_cons_of_mem _ hx)).mono (by omega) (by omega);clear HD7 HD8 HD9 HS7 HS8 HDd HBa HBb HBc HBd mA mC HX;have HW64:Hid (∀x:Nat,x<256->Go.RowKit.wrap64 (x:Int)=(x:Int)):=fun x hx=>IntWalk.wrap64_in _ ⟨by omega,by omega⟩
      have HFW:=Lib.hid (HW64.out fl hfl);have HGW:=Lib.hid (HW64.out gn hgn);have HFW':Hid (IntKind.i64.wrap (fl:Int)=(fl:Int)):=(IntWalk.i64_left _).trans HFW.out;have HGW':Hid (IntKind.i64.wrap (gn:Int)=(gn:Int)):=(IntWalk.i64_left _).trans HGW.out;have HI8:Hid ((i:Int)%8=((i%8:Nat):Int)):=(Int.natCast_emod i 8).symm;have HF8:Hid ((fl:Int)%8=((fl%8:Nat):Int)):=(Int.natCast_emod fl 8).symm;have HI8t:Hid ((i:Int).tmod 8=((i%8:Nat):Int)):=(Int.tmod_eq_emod_of_nonneg (Int.natCast_nonneg _)).trans HI8.out;have HF8t:Hid ((fl:Int).tmod 8=((fl%8:Nat):Int)):=(Int.tmod_eq_emod_of_nonneg (Int.natCast_nonneg _)).trans HF8.out;have hx8:i%8<8:=Nat.mod_lt _ (by omega);have hy8:fl%8<8:=Nat.mod_lt _ (by omega);have HWx:=Lib.hid (HW64.out (i%8) (by omega));have HWy:=Lib.hid (HW64.out (fl%8) (by omega));by_cases h8:i%8=fl%8;focus
        rw[h8]at HI8 HI8t HWx
        clear hx8 h8
        have HAB:Hid (80000+i*7000000+6000000+1000+1000≤80000+i*7000000+6010000/\80000+i*600+490+1+1≤80000+i*600+495):=⟨by omega,by omega⟩
        generalize fl%8=y8 at*
        have hi8:=HI8.out
        have hf8:=HF8.out
        have hi8t:=HI8t.out
        have hf8t:=HF8t.out
        have hfw:=HFW.out
        have hfw':=HFW'.out
        have hwy:=HWy.out
        go_upto_region 19 with (first
          |(go_at_call 19;(with_reducible refine(HF2.out w10 g ev X1 X1 _ _ HDf.out HBg.out).mono ?_);rintro e wz ⟨rfl,hdz⟩;have HDz:Hid (∃a b,a≤80000+i*7000000+6010000/\b≤80000+i*600+495/\Dub W wz A1 A2 M C S ring false true g g X1 X1 a b [arB ap1 st1 A1 M C S ring false 5 ev ev,stB st1 g M,arB ap2 st2 A2 M C S ring true 5 ev ev,stB st2 g M,(gb,#[.int .i64 M,.int .i64 C,.int .i64 S],26)]):=⟨_,_,HAB.out.1,HAB.out.2,hdz⟩;clear hdz)
          |(go_at_call 19;(with_reducible refine(HF1.out w9 g ev X1 X1 _ _ HDe.out HBf.out).mono ?_);rintro e w10 ⟨rfl,hd10⟩;have HDf:=Lib.hid hd10;clear hd10))
        clear hi8 hf8 hi8t hf8t hfw hfw' hwy
      rotate_left;focus
        have hne:¬((i%8:Nat):Int)=((fl%8:Nat):Int):=by omega
        have hne':¬i%8=fl%8:=h8
        clear h8
        generalize i%8=x8 at*
        generalize fl%8=y8 at*
        have hi8:=HI8.out
        have hf8:=HF8.out
        have hi8t:=HI8t.out
        have hf8t:=HF8t.out
        have hfw:=HFW.out
        have hfw':=HFW'.out
        have hwx:=HWx.out
        have hwy:=HWy.out
        go_upto_region 19 with fail
        obtain⟨wz,rfl⟩:∃wz:World,wz=w9:=⟨_,rfl⟩
        clear hi8 hf8 hi8t hf8t hfw hfw' hwx hwy
        have HDz:Hid (∃a b,a≤80000+i*7000000+6010000/\b≤80000+i*600+495/\Dub W wz A1 A2 M C S ring false true g g X1 X1 a b [arB ap1 st1 A1 M C S ring false 5 ev ev,stB st1 g M,arB ap2 st2 A2 M C S ring true 5 ev ev,stB st2 g M,(gb,#[.int .i64 M,.int .i64 C,.int .i64 S],26)]):=⟨_,_,by omega,by omega,HDe.out⟩
      all_goals
        obtain⟨az,bz,haz,hbz,hdz⟩:=HDz.out
        have HDy:=Lib.hid hdz
        have HBh:Hid (Within az bz):=⟨by omega,by omega⟩
        have HBi:Hid (Within (az+50) (bz+50)):=⟨by omega,by omega⟩
        have HAZ:Hid (az≤80000+i*7000000+6010000/\bz≤80000+i*600+495):=⟨haz,hbz⟩
        clear HDz hdz haz hbz HI8 HF8 HI8t HF8t HFW HFW' HWx HWy HW64 HDe
        by_cases hgo:i=gn
        · obtain⟨hg',hev'⟩:=HCD.out (by omega)
          subst hg'
          subst hev'
          subst hgo
          have hgw:=HGW.out
          have hgw':=HGW'.out
          go_upto_region 10 with (first
            |(go_at_call 16;(with_reducible refine(HX2.out w11 X1 X1 _ _ HDv.out HBi.out).mono ?_);rintro e w12 ⟨rfl,hd12⟩;have HDu:=Lib.hid hd12;clear hd12)
            |(go_at_call 16;(with_reducible refine(HX1.out wz X1 X1 _ _ HDy.out HBh.out).mono ?_);rintro e w11 ⟨rfl,hd11⟩;have HDv:=Lib.hid hd11;clear hd11))
          clear hgw hgw'
          have hi1:i≤100:=by omega
          go_wp2
          refine⟨⟨i+1,K1.out,by go_num,0,2,X1,HDu.out.mono (by have:=HAZ.out.1;omega) (by have:=HAZ.out.2;omega),fun h=>absurd h (by omega)⟩,by simp[intOf];omega⟩
        · have hq:¬(i:Int)=(gn:Int):=by omega
          have hq':¬i=gn:=hgo
          have hgw:=HGW.out
          have hgw':=HGW'.out
          go_upto_region 10 with fail
          clear hgw hgw'
          go_wp2
          refine⟨⟨i+1,K1.out,by go_num,g,ev,X1,HDy.out.mono (by have:=HAZ.out.1;omega) (by have:=HAZ.out.2;omega),fun h=>HCD.out (by omega)⟩,by simp[intOf];omega⟩
    · have hie:¬(i:Int)<(l.length:Int):=by omega
      go_wp2;go_ret;exact⟨rfl,HDI.out.bel⟩
section
open Go.RowKit Go.ChangeShapes Go.WideShapes Go.ChangeAt Go.Deep
theorem arrayLazy_walk {H:Type} (w:World) (a0:Int) (h0:(Lit.int .u8 a0).wf=true) (a1:Int) (h1:(Lit.int .u8 a1).wf=true) (a2:Int) (h2:(Lit.int .u8 a2).wf=true)
    (enc:TypeId×Value->H) (base:Nat) (v:Value) (d:DataW H) (ps:List MemPlace) (hok:Value.okWide Tryz.prog w .any base 53 v) (h:DataW.Trod enc Tryz.prog w 0 (fun _=>true) true 53 v d ps) (hw:∀n∈d.weights Tryz.prog 53,n≤reachBytes) (a4:Int) (h4:(Lit.int .u8 a4).wf=true) (a5:Int) (h5:(Lit.int .u8 a5).wf=true):
    Calls Tryz.prog 6 #[.int .u8 a0,.int .u8 a1,.int .u8 a2,v,.int .u8 a4,.int .u8 a5] w fun e w'=>e=.returned (.bool true)/\Below w.heap.size w w':=by
  obtain⟨mm,rfl,k0⟩:=u8_nat h0;obtain⟨ss,rfl,k1⟩:=u8_nat h1;obtain⟨rr,rfl,k2⟩:=u8_nat h2;obtain⟨gn,rfl,k4⟩:=u8_nat h4;obtain⟨fl,rfl,k5⟩:=u8_nat h5;obtain⟨l,hb⟩:=bls_of_trod hok h hw;exact arrayLazy_main mm ss rr gn fl v l w k0 k1 k2 k4 k5 hb
end
end Go.Proofs.YtmemlkmnhcealaaGreat
