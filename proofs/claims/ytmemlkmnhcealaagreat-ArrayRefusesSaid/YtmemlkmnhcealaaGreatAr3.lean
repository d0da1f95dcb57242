/- What the law wants besides. -/
import Derived.Test.YtmemlkmnhcealaaGreatAr2
import Derived.DataShut
import Derived.Deep.CutBlock
import Derived.Deep.CutRange
import Derived.Deep.RegionHeld3
set_option linter.unusedVariables false
set_option maxRecDepth 100000
set_option maxHeartbeats 16000000
namespace Go.Proofs.YtmemlkmnhcealaaGreat
open Go.RowKit
def secA (x:UInt8):List UInt8:=List.replicate 128 x
theorem secA_length (x:UInt8):(secA x).length=128:=by simp[secA]
theorem upV_put (v z:Value) {n M:Nat} (h:n<M):(upV v z n M).toArray.setIfInBounds n v=(upV v z (n+1) M).toArray:=by
  obtain⟨k,rfl⟩:∃k,M=n+1+k:=⟨M-n-1,by omega⟩;unfold upV;rw[show n+1+k-n=k+1 by omega,show n+1+k-(n+1)=k by omega,List.setIfInBounds_toArray,List.set_append_right _ _ (by simp),List.length_replicate,Nat.sub_self,List.replicate_succ (n:=k),List.set_cons_zero,List.replicate_succ' (n:=n),List.append_assoc];rfl
theorem upV_end (x:UInt8):upV (.int .u8 ((x.toNat:Nat):Int)) (.int .u8 0) 128 128=ucells (secA x):=by simp[upV,secA,ucells]
theorem a17_sector (x:UInt8) (w:World):
    Calls Tryz.prog 20 #[.int .u8 ((x.toNat:Nat):Int)] w fun e w'=>e=.returned (.slice (some ⟨w.heap.size,0,none⟩) 128 128)/\At w' w.heap.size (ucells (secA x)).toArray 5/\Below w.heap.size w w':=by
  have hend:=Lib.hid (upV_end x);generalize ((x.toNat:Nat):Int)=y at*;have hget:Hid (∀k:Nat,k<128->(upV (.int .u8 y) (.int .u8 0) k 128)[k]?=some (.int .u8 0)):=fun k hk=>by
    unfold upV;rw[List.getElem?_append_right (by simp),List.length_replicate,Nat.sub_self,List.getElem?_replicate,if_pos (by omega)]
  go_enter Tryz.func20,Tryz.ntmps20;go_wp2_with (refine Zaq rfl _ _ 36 5 1 1 rfl Zat (.int .u8 0) (by kernel_rfl) _ _ _ _ 128 rfl rfl rfl rfl (by omega) (by unfold maxLen;omega) ?_;intro w1 a1 b1;have A1:Hid (At w1 w.heap.size (upV (.int .u8 y) (.int .u8 0) 0 128).toArray 5):=a1;clear a1);go_loopw [4] (fun q wr=>∃k:Nat,k≤128/\q=.int .i64 k/\At wr w.heap.size (upV (.int .u8 y) (.int .u8 0) k 128).toArray 5/\Below w.heap.size w wr) (fun q _=>128-(intOf q).toNat);case atStart=>exact⟨0,by omega,rfl,A1.out,b1⟩
  case round=>
    obtain⟨k,hk,rfl,hA,hB⟩:=hrel;have HA:=Lib.hid hA;by_cases hkn:k<128
    · have f0:=hA.free k
      have d0:wr.cell? ⟨w.heap.size,k,none⟩=some (.int .u8 0):=(hA.cell k).trans ((List.getElem?_toArray).trans (hget.out k hkn));have K1:Hid (k+1≤128):=hkn;clear hA;go_wp2;refine⟨⟨k+1,K1.out,by go_num,?_,hB.setCell (p:=⟨w.heap.size,k,none⟩) (Nat.le_refl _) _⟩,by simp[intOf];omega⟩;rw[<-upV_put _ _ hkn];exact HA.out.set k _
    · obtain rfl:k=128:=by omega
      clear hA;go_wp2;go_ret;exact⟨rfl,by rw[<-hend.out];exact HA.out,hB⟩
abbrev putCells (p:Int×Nat×List UInt8):List Value:= [.int .i64 p.1,.slice (some ⟨p.2.1,0,none⟩) 128 128]
structure PutRow (w:World) (B:Nat) (v:Value) (ps:List (Int×Nat×List UInt8)):Prop where
  row:w.ownsRow B 60 2 v ps.length (ps.flatMap putCells)
  dat:∀p∈ps,At w p.2.1 (ucells p.2.2).toArray 5/\p.2.2.length=128/\B≤p.2.1
theorem puts_at (ps:List (Int×Nat×List UInt8)):∀(j i:Nat) (h:j<ps.length),i<2->(ps.flatMap putCells)[j*2+i]?=(putCells (ps[j]'h))[i]?:=by
  induction ps with
  |nil=>intro j i h;simp at h
  |cons p t ih=>
    intro j i h hi;rw[List.flatMap_cons];cases j with
    |zero=>
      rw[List.getElem?_append_left (by simp[putCells];omega)];simp
    |succ j=>
      rw[List.getElem?_append_right (by simp[putCells];omega)];have:=ih j i (by simpa using h) hi;rw[show(j+1)*2+i-(putCells p).length=j*2+i by simp[putCells];omega,this];rfl
section
structure MdAt (W w:World) (T:Nat->Nat) (A:Adr) (ap stg:Nat) (M C S ring:Nat) (lazy:Bool) (id:Nat) (s:BaySt):Prop where
  rw:RwIn w T A (RS.made M C S ring lazy s) none (.slice none 0 0) []
  ar:At w ap (arCells A.b stg (.pointer (some ⟨A.q,0,none⟩)) A.wp id 1 1 M C S ring lazy) 68
  st:At w stg (stCells (-1) M) 102
  ta:T ap=0
  ts:T stg=0
  blank:Blank M C S ring s (M*(S*C)+ring+1+(M+1)) (1+(M+1))
  hi:W.heap.size≤ap/\W.heap.size≤stg/\W.heap.size≤A.q/\W.heap.size≤A.wp/\W.heap.size≤A.rp/\W.heap.size≤A.fg
  old:∀q,q<W.heap.size->T q=0
  bel:Below W.heap.size W w
theorem CrPost.md {W W1 w':World} {T:Nat->Nat} {b id M C S ring:Nat} {lazy:Bool} {e:Ending} (h:CrPost W1 T b id M C S ring lazy e w') (hT:∀q,q<W.heap.size->T q=0) (hb:Below W.heap.size W W1):∃ap stg A T' s,e=.returned (.tuple #[.pointer (some ⟨ap,0,none⟩),.int .u16 0])/\A.b=b/\MdAt W w' T' A ap stg M C S ring lazy id s:=by
  obtain⟨ap,stg,A,T',s,rfl,hA,hr,ha,hs,ta,ts,hbl,hhi,htg,hch⟩:=h;have hz:=hb.size;refine⟨ap,stg,A,T',s,rfl,hA,⟨hr,by rw[hA];exact ha,hs,ta,ts,hbl,by omega,fun q hq=>(htg q (by omega)).trans (hT q hq),hb.trans (hch.below fun q hq=>⟨by omega,fun e=>e (hT q hq)⟩)⟩⟩
theorem MdAt.ab {W w:World} {T:Nat->Nat} {A:Adr} {ap stg M C S ring id:Nat} {lazy:Bool} {s:BaySt} (h:MdAt W w T A ap stg M C S ring lazy id s) (hg:geoIs M C S=true) (h5:5≤ring) (h6:ring≤2048):Ab W w T A (RS.made M C S ring lazy s) [arB ap stg A M C S ring lazy id 1 1,stB stg (-1) M]/\ArP (RS.made M C S ring lazy s) zeroV M C S ring lazy (-1) 80000 80000:=by
  obtain⟨g1,g2,g3,g4⟩:=Zbe hg;obtain⟨h1,h2,h3,h4,h7,h8⟩:=h.hi;have hm:=Nat.mul_le_mul g2 g4;have hbl:=h.blank;refine⟨⟨⟨⟨_,_,_,h.rw⟩,fun q hq=>⟨h.old q hq,?_⟩,h.bel⟩,fun x hx=> ?_⟩,good_blank hg h5 h6 hbl,.inr rfl,⟨?_,?_,?_,?_,?_⟩,rfl,rfl,rfl,rfl,rfl,?_⟩
  · rintro (e|e|e|e)<;>omega
  · simp only [List.mem_cons,List.not_mem_nil,or_false]at hx
    rcases hx with rfl|rfl
    · exact⟨h.ar,h.ta,by dsimp only;decide,by dsimp only;decide,by dsimp only;decide,by dsimp only;decide⟩
    · exact⟨h.st,h.ts,by dsimp only;decide,by dsimp only;decide,by dsimp only;decide,by dsimp only;decide⟩
  · show s.cnt 0≤_
    rw[hbl.c0];omega
  · show s.cnt 1≤_
    rw[hbl.c1];omega
  · show s.cnt 2≤_
    rw[hbl.c2];omega
  · show(1:Nat)≤_
    omega
  · exact⟨_,hbl.small,by show _+0≤_;omega⟩
  · rw[frOf_none]
    rfl
section
open Go.Proofs
end
end
section
theorem batch_split {M C S:Nat} {us:List (Int×List UInt8)} (ok:BatchOk M C S us):splitCode M C S us=0:=by
  unfold splitCode;rw[if_neg (by rw[ok.hg];simp),if_neg (by have:=ok.few;omega),if_neg,if_neg]
  · rw[Zew]
    rintro ⟨u,hu,h⟩;exact h (ok.len u hu)
  · rw[Zew]
    rintro ⟨u,hu,h⟩;exact h (ok.there u hu)
theorem wcode_one {M C S ring:Nat} {u:Int×List UInt8} (ok:BatchOk M C S [u]) (h:5≤ring):wcode M C S ring [u]=0:=by
  have h2:=Zf8 M C (S*C) [u] 1;unfold wcode;rw[if_neg (by rw[batch_split ok];simp),if_neg (by simp),if_neg];have:tabAll M C [u]=tabOf M C [u] 1:=rfl;rw[this];omega
theorem layK_way (us:List (Int×List UInt8)) (b:Nat):∀k,(∀D E:Nat->Sec,layK D us k b=layK E us k b)\/(∀D:Nat->Sec,layK D us k b=D b)
  |0=>.inr fun _=>rfl
  |k+1=>by
    by_cases e:(b:Int)=(us.getD k put0).1
    · left
      intro D E;show(if (b:Int)=(us.getD k put0).1 then _ else _)=(if (b:Int)=(us.getD k put0).1 then _ else _)
      rw[if_pos e,if_pos e]
    · have h1:∀D:Nat->Sec,layK D us (k+1) b=layK D us k b:=fun D=>if_neg e
      rcases layK_way us b k with h|h
      · left
        intro D E;rw[h1,h1,h D E]
      · right
        intro D;rw[h1,h D]
theorem wLaid_cong {D E:Nat->Sec} {M C S ring:Nat} (us:List (Int×List UInt8)) {b:Nat} (h:D b=E b):wLaid M C S ring us D b=wLaid M C S ring us E b:=by
  unfold wLaid;split
  · rcases layK_way us b us.length with k|k
    · exact k D E
    · rw[k D,k E,h]
  · exact h
abbrev Bx:=Nat×Array Value×TypeId
theorem row_boxN {w:World} {B n sz:Nat} {e:TypeId} {v:Value} {xs:List Value} (h:w.ownsRow B e sz v n xs) (hn:0<n):∃g cap cur,v=.slice (some ⟨g,0,none⟩) n cap/\n≤cap/\cap≤maxLen/\At w g cur e/\B≤g/\∀i:Nat,i<n*sz->cur[i]?=xs[i]?:=by
  rcases h.2 with ⟨rfl,h0⟩|⟨g',cap,cur,rfl,hb,hgt,hc,hm,hs,ht⟩
  · omega
  · refine⟨g',cap,cur,rfl,hc,hm,hgt,hb,fun i hi=> ?_⟩
    rw[<-ht,List.getElem?_take,if_pos (by omega)];simp
theorem puts_seg {w:World} {g c:Nat} {cur:Array Value} {ps:List (Int×Nat×List UInt8)} (hg:At w g cur 60) (hc:∀i:Nat,i<ps.length*2->cur[i]?=(ps.flatMap putCells)[i]?) (hd:∀p∈ps,At w p.2.1 (ucells p.2.2).toArray 5/\p.2.2.length=128) (k m:Nat) (hk:k+m≤ps.length) (hm:ps.length≤1000):PutSeg w (.slice (some ⟨g,k*2,none⟩) m c) (((ps.drop k).take m).map fun p=>(p.1,p.2.2)):=by
  have hl:(((ps.drop k).take m).map fun p=>(p.1,p.2.2)).length=m:=by simp;omega
  refine⟨some ⟨g,k*2,none⟩,c,by rw[hl],by rw[hl];omega,fun u hu=> ?_,.inr ⟨g,k*2,rfl,hg.lt,fun j hj=> ?_⟩⟩
  · obtain⟨p,hp,rfl⟩:=List.mem_map.1 hu
    have:=(hd p (List.mem_of_mem_drop (List.mem_of_mem_take hp))).2;show p.2.2.length≤_
    omega
  · rw[hl]at hj
    have hkj:k+j<ps.length:=by omega
    have e1:=(hg.cell ((k+j)*2)).trans ((hc ((k+j)*2) (by omega)).trans (puts_at ps (k+j) 0 hkj (by omega)));have e2:=(hg.cell ((k+j)*2+1)).trans ((hc ((k+j)*2+1) (by omega)).trans (puts_at ps (k+j) 1 hkj (by omega)));have hdd:=hd _ (List.getElem_mem hkj);have he:(((ps.drop k).take m).map fun p=>(p.1,p.2.2))[j]'(by rw[hl];exact hj)=((ps[k+j]'hkj).1,(ps[k+j]'hkj).2.2):=by simp
    rw[he];refine⟨by rw[<-Nat.add_mul];exact e1,_,by rw[<-Nat.add_mul];exact e2,Zk9 hdd.1 hdd.2⟩
section
variable {w0 W W':World} {T1 T2 T1':Nat->Nat} {A1 A2:Adr} {R1 R2 R1':RS} {L:List Bx}
end
end
section
def KnA (W w:World) (A:Adr) (L:List Bx) (D:RS->(Nat->Nat->Sec)->Prop):Prop:=∃T R V,Ab W w T A R L/\D R V
def offT (t:TypeId):Prop:=116≠t/\3≠t/\148≠t/\190≠t
instance (t:TypeId):Decidable (offT t):=inferInstanceAs (Decidable (_/\_))
section
variable {W w w':World} {A:Adr} {L:List Bx} {D E:RS->(Nat->Nat->Sec)->Prop}
theorem KnA.below (h:KnA W w A L D) (hb:Below w.heap.size w w'):KnA W w' A L D:=by
  obtain⟨T,R,V,h1,h2⟩:=h;exact⟨T,R,V,h1.below hb,h2⟩
theorem KnA.add (h:KnA W w A L D) (hb:Below w.heap.size w w') {g:Nat} {cs:Array Value} {t:TypeId} (ha:At w' g cs t) (hg:w.heap.size≤g) (ht:offT t):KnA W w' A ((g,cs,t)::L) D:=by
  obtain⟨T,R,V,h1,h2⟩:=h;exact⟨T,R,V,(h1.below hb).add ha (h1.ln.virg _ hg) ht.1 ht.2.1 ht.2.2.1 ht.2.2.2,h2⟩
theorem KnA.push (h:KnA W w A L D) (cs:Array Value) (t:TypeId) (ht:offT t):KnA W (w.alloc (.cells cs t)) A ((w.heap.size,cs,t)::L) D:=by
  obtain⟨T,R,V,h1,h2⟩:=h;exact⟨T,R,V,h1.push cs t ht.1 ht.2.1 ht.2.2.1 ht.2.2.2,h2⟩
theorem KnA.get (h:KnA W w A L D) (i:Nat) {g:Nat} {cs:Array Value} {t:TypeId} (hi:L[i]?=some (g,cs,t)):At w g cs t:=by
  obtain⟨T,R,V,h1,h2⟩:=h;exact h1.get i hi
theorem KnA.has (h:KnA W w A L D) {x:Bx} (hx:x∈L):At w x.1 x.2.1 x.2.2:=by
  obtain⟨T,R,V,h1,h2⟩:=h;exact(h1.box x hx).1
theorem KnA.bel (h:KnA W w A L D):Below W.heap.size W w:=by
  obtain⟨T,R,V,h1,h2⟩:=h;exact h1.ln.bel
theorem KnA.imp (h:KnA W w A L D) (hE:∀R V,D R V->E R V):KnA W w A L E:=by
  obtain⟨T,R,V,h1,h2⟩:=h;exact⟨T,R,V,h1,hE R V h2⟩
theorem KnA.sub {L':List Bx} (h:KnA W w A L D) (hs:∀x∈L',x∈L):KnA W w A L' D:=by
  obtain⟨T,R,V,h1,h2⟩:=h;exact⟨T,R,V,h1.sub hs,h2⟩
theorem kna_counts (h:KnA W w A L D) {c0 c1 c2:Int} (hD:∀R V,D R V->R.s.cnt 0=c0/\R.s.cnt 1=c1/\R.s.cnt 2=c2):
    Calls Tryz.prog 17 #[.pointer (some ⟨A.b,0,none⟩)] w fun e w'=>e=.returned (.agg #[.int .i64 c0,.int .i64 c1,.int .i64 c2])/\KnA W w' A L D:=by
  obtain⟨T,R,V,h1,h2⟩:=h;obtain⟨lg,vw,X,hr⟩:=h1.ln.rw;obtain⟨e0,e1,e2⟩:=hD R V h2;refine(Zp2 hr.bay).mono ?_;rintro e w' ⟨rfl,hb⟩;refine⟨?_,T,R,V,h1.below hb,h2⟩;unfold cntVal;rw[e0,e1,e2]
theorem kna_write {M C S ring a b:Nat} {lazy:Bool} {g:Int} (h:KnA W w A L D) {ap stg id ev sf:Nat} (hbx:arB ap stg A M C S ring lazy id ev sf∈L) (hD:∀R V,D R V->ArP R V M C S ring lazy g a b) (hin:Within a b) (pv:Value) (us:List (Int×List UInt8)) (PB:List Bx) (hP:∀x∈PB,x∈L) (hp:∀W',(∀x∈PB,At W' x.1 x.2.1 x.2.2)->PutSeg W' pv us) (h5:5≤ring):
    Calls Tryz.prog 11 #[.pointer (some ⟨ap,0,none⟩),pv] w fun e w'=>e=.returned (.int .u16 (wcode M C S ring us:Nat))/\KnA W w' A L fun R' V'=>ArP R' V' M C S ring lazy g (a+1000000) (b+8*us.length+4)/\∃R V,D R V/\(∀k,k<S*C*(M-1)->blkOf M C V' k=wLaid M C S ring us (blkOf M C V) k)/\(wcode M C S ring us≠0->R'=R)/\(us≠ []->wcode M C S ring us=0->∃ps R1 R4 sec,Batched R V us ps R1 R4 R' sec):=by
  obtain⟨T,R,V,h1,h2⟩:=h;obtain⟨lg,vw,X,hr⟩:=h1.ln.rw;refine(ar_write h1 hbx (hD R V h2) hin pv (us:=us) (fun W' hc=>hp W' fun x hx=>(h1.box x (hP x hx)).1.mod hc (fun e=>Zaw (h1.box x (hP x hx)).1 hr.rw (fun t=>(h1.box x (hP x hx)).2.2.1 t.symm) e)) h5).mono ?_;rintro e w' ⟨rfl,T',R',V',m1,m2,m3,m4,m5,m6⟩;exact⟨rfl,T',R',V',m1,m3,R,V,h2,m4,m5,m6⟩
theorem kna_read {M C S ring a b:Nat} {lazy:Bool} {g:Int} (h:KnA W w A L D) {ap stg id ev sf:Nat} (hbx:arB ap stg A M C S ring lazy id ev sf∈L) (hD:∀R V,D R V->ArP R V M C S ring lazy g a b) (hin:Within (a+2000000) b) (Y:Nat->Sec) (k n:Nat) (hn:0<n) (hk:k+n≤S*C*(M-1)) (hY:∀R V,D R V->∀i,i<n->blkOf M C V (k+i)=Y i):
    Calls Tryz.prog 12 #[.pointer (some ⟨ap,0,none⟩),.int .i64 k,.int .i64 n] w fun e w'=>∃v bx,e=.returned (.tuple #[v,.int .u16 0])/\(bx.2.2=5/\(∃gb cap,v=.slice (some ⟨gb,0,none⟩) (128*n) cap/\128*n≤cap)/\∀W',At W' bx.1 bx.2.1 bx.2.2->Seg W' v (flatD Y n))/\KnA W w' A (bx::L) fun R' V'=>ArP R' V' M C S ring lazy g (a+2000000) b/\∃R c,D R V'/\R'={R with s:=R.s.ticks 0 c}:=by
  obtain⟨T,R,V,h1,h2⟩:=h;have p:=hD R V h2;have hblk:=Zxp p.good.geo;have hbm:S*C*(M-1)≤61440:=by
    unfold RS.blocks at hblk;rw[p.M,p.C,p.S]at hblk;exact hblk
  have hlen:∀i,i<n->(Y i).length=128:=fun i hi=>by
    rw[<-hY R V h2 i hi];have:=Zxw p.good (k:=k+i) (by rw[p.M,p.C,p.S];omega);rw[p.M,p.C]at this;exact this
  refine(ar_read h1 hbx p hin k n hk).mono ?_;rintro e w' ⟨v,c,rfl,hc,m1,m2,m3⟩;rw[flatD_congr (hY R V h2)]at m1;have hfl:=Zxj hlen;obtain⟨gb,cap,cur,rfl,hcap,-,hat,hlo,hcur⟩:=row_boxN m1 (by omega);refine⟨_,(gb,cur,5),rfl,⟨rfl,⟨gb,cap,rfl,hcap⟩,fun W' hW'=> ?_⟩,T,_,V,m2.add hat (h1.ln.virg _ hlo) (by decide) (by decide) (by decide) (by decide),(p.ticks c).mono (by omega) (Nat.le_refl _),R,c,h2,rfl⟩;rw[<-hfl];refine Zea hW' ?_ fun j hj=> ?_
  · rw[hfl];exact hcap
  · rw[hcur j (by rw[Nat.mul_one,<-hfl];exact hj)]
    unfold ucells;rw[List.getElem?_map,List.getElem?_eq_getElem hj];rfl
theorem kna_blocks {M C S ring a b:Nat} {lazy:Bool} {g:Int} (h:KnA W w A L D) {ap stg id ev sf:Nat} (hbx:arB ap stg A M C S ring lazy id ev sf∈L) (hg:geoIs M C S=true):
    Calls Tryz.prog 9 #[.pointer (some ⟨ap,0,none⟩)] w fun e w'=>e=.returned (.int .i64 (S*C*(M-1):Nat))/\KnA W w' A L D:=by
  obtain⟨T,R,V,h1,h2⟩:=h;obtain⟨g1,g2,g3,g4⟩:=Zbe hg;refine(ar_blocks (h1.box _ hbx).1 hg).mono ?_;rintro e w' ⟨rfl,hb⟩;refine⟨?_,T,R,V,h1.below hb,h2⟩;rw[Int.natCast_mul,Int.natCast_mul,Int.natCast_sub (by omega)];rfl
end
def k4 (x:Sec):List (Int×List UInt8):= [(0,x),(1,x),(2,x),(3,x)]
theorem k4_most (x:Sec):mostIn 3 (2*1) (tabAll 3 1 (k4 x))=6:=by kernel_rfl
theorem k4_ok (x:Sec) (hx:x.length=128):BatchOk 3 1 2 (k4 x):=by
  refine⟨by decide,by show 4≤256;omega,fun u hu=> ?_,fun u hu=> ?_⟩
  · unfold k4 at hu
    simp only [List.mem_cons,List.not_mem_nil,or_false]at hu;rcases hu with rfl|rfl|rfl|rfl<;>(refine⟨?_,?_⟩<;>dsimp only<;>omega)
  · unfold k4 at hu
    simp only [List.mem_cons,List.not_mem_nil,or_false]at hu;rcases hu with rfl|rfl|rfl|rfl<;>exact hx
theorem k4_code (x:Sec) (hx:x.length=128):wcode 3 1 2 10 (k4 x)=122:=by
  unfold wcode;rw[if_neg (by rw[batch_split (k4_ok x hx)];simp),if_neg (by simp[k4]),if_pos (by rw[k4_most];omega)]
def kn0 (s:BaySt):RS->(Nat->Nat->Sec)->Prop:=fun R V=>R=kR s/\V=zeroV/\ArP R V 3 1 2 10 false (-1) 80000 80000/\Blank 3 1 2 10 s 21 5
def kn1:RS->(Nat->Nat->Sec)->Prop:=fun R V=>ArP R V 3 1 2 10 false (-1) 1080000 80012/\(R.s.cnt 0=1/\R.s.cnt 1=28/\R.s.cnt 2=7)/\blkOf 3 1 V 0=secA 97
def kn2:RS->(Nat->Nat->Sec)->Prop:=fun R V=>ArP R V 3 1 2 10 false (-1) 3080000 80012
end
structure KnownAt (R':RS) (n1 n2:Nat):Prop where
  c0:R'.s.cnt 0=1
  c1:R'.s.cnt 1=(n1:Int)+7
  c2:R'.s.cnt 2=(n2:Int)+2
  sealed:R'.sealed=true
  wait:R'.wait= []
  M:R'.M=3
  C:R'.C=1
  S:R'.S=2
  fr:R'.fr=fun _=> -1
  small:R'.s.small 100
  next:R'.next≤10
theorem known_at {s:BaySt} {x:Sec} {ps:List Pat} {R1 R4 R':RS} {sec:List UInt8} {n1 n2:Nat} (hm:Blank 3 1 2 10 s n1 n2) (hn1:n1≤90) (hx:x.length=128) (h:Batched (kR s) zeroV (kU x) ps R1 R4 R' sec):KnownAt R' n1 n2:=by
  have hg:Good (kR s) zeroV:=good_blank (by decide) (by omega) (by omega) hm;have ok:=Zgz x hx;have e1:R1=kR s:=by
    rcases h.room with ⟨-,e⟩|⟨hr,-⟩
    · exact e
    · exfalso
      have hr':10-0<2*mostIn 3 (2*1) (tabAll 3 1 (kU x))+1:=hr;rw[Zu9]at hr';omega
  obtain⟨-,hpats,hahead,hslen,hfin⟩:=h;subst e1;rw[Zjb]at hpats hahead;have hpats':ps.Perm (batAll (kR s) zeroV (kU x) 1):=hpats;have hahead':PlacedR (({kR s with s:=(kR s).s.ticks 0 (batCnt (kR s) (kU x) 1)}:RS).logged ps) R4:=hahead;obtain⟨newp,hall⟩:=Zxg s zeroV x;have hlen:ps.length=2:=by rw[hpats'.length_eq,hall];rfl
  have hlg:Loggable ps:=Zd7 hg ok (by rw[Zjb];simp) (by rw[Zjb];exact hpats');rw[Zxc]at hahead';have g2:=hg.ticks 1;obtain⟨g3,l0,l1,l2,l3,-⟩:=g2.logged hlg;have hw3:(({kR s with s:=(kR s).s.ticks 0 1}:RS).logged ps).wait= []:=rfl;have p1:=Zjr hahead' [] List.nodup_nil (fun k=>⟨fun e=>(by cases e),fun ⟨p,hp,_⟩=>(by rw[hw3]at hp;cases hp)⟩) (fun k hk=>by cases hk);obtain⟨g4,hw4⟩:=g3.placed hahead';obtain⟨-,p0,-,p2,p3,s4,e4⟩:=hahead'.facts g3.ready;have q0:({kR s with s:=(kR s).s.ticks 0 1}:RS).s.cnt 0=1:=by
    show(s.ticks 0 1).cnt 0=1
    rw[Zb7,hm.c0];rfl
  have q1:({kR s with s:=(kR s).s.ticks 0 1}:RS).s.cnt 1=(n1:Int):=by
    show(s.ticks 0 1).cnt 1=_
    rw[Zbo _ _ _ _ (by decide),hm.c1]
  have q2:({kR s with s:=(kR s).s.ticks 0 1}:RS).s.cnt 2=(n2:Int):=by
    show(s.ticks 0 1).cnt 2=_
    rw[Zbo _ _ _ _ (by decide),hm.c2]
  have r0:R4.s.cnt 0=1:=by rw[p0,l0,q0]
  have r1:R4.s.cnt 1=(n1:Int)+4:=by rw[p1,l1,q1,hlen];show(n1:Int)+((2*2:Nat):Int)+((0:Nat):Int)=_;omega
  have r2:R4.s.cnt 2=(n2:Int)+1:=by rw[p2,l2,q2]
  have hM4:R4.M=3:=by rw[e4];rfl
  have hC4:R4.C=1:=by rw[e4];rfl
  have hS4:R4.S=2:=by rw[e4];rfl
  have hfr4:R4.fr=fun _=> -1:=by rw[e4];rfl
  have hsz4:R4.size=10:=by rw[e4];rfl
  have hus4:R4.used=0:=by rw[e4];rfl
  have hnx4:R4.next=1:=by rw[e4];rfl
  have hlz4:R4.lazy=false:=by rw[e4];rfl
  have ok4:BatchOk (kR s).M (kR s).C (kR s).S (kU x):=ok;have hdn4:∀m r,R4.dn m r=(kR s).dn m r:=fun m r=>by unfold RS.dn;rw[hfr4];rfl
  have hperm:ps.Perm (batAll (kR s) zeroV (kU x) (batRows (kR s) (kU x)).length):=by rw[Zjb];exact hpats'
  obtain⟨g5,hp5⟩:=g4.seal (V':=vNext (kR s) zeroV (kU x)) hw4 hslen (cost:=2*ps.length+1) (ps:=ps) (by rw[hsz4,hus4];omega) (by rw[hnx4];omega)
    (fun m r hm' hr=>by rw[hM4]at hm';rw[hS4,hC4]at hr;exact Zfp hg ok4 hm' hr)
    (fun r hr i hi=>by rw[hM4];rw[hS4,hC4]at hr;exact Zf7 hg ok4 hr i hi)
    (fun p hp=>by rw[hM4,hS4,hC4];exact(Zcs hg ok4 (hperm.mem_iff.1 hp)).1)
    (fun p hp=>(Zcs hg ok4 (hperm.mem_iff.1 hp)).2)
    (fun m r hm' hr hw hd => by
      rw[hM4]at hm'
      rw[hS4,hC4]at hr
      rw[hdn4]at hd
      exact Zet hg ok4 hperm hm' hr hw hd)
    (by omega)
  have c5:=Zh3 hp5;obtain⟨g6,h61,h62,-,h64,-⟩:=g5.end' hfin;have hlz5:(R4.sealedR (2*ps.length+1) sec ps).lazy=false:=hlz4;rcases hfin with ⟨hl,-⟩|⟨-,hpl⟩
  · rw[hlz5]at hl
    cases hl
  have hsu5:(R4.sealedR (2*ps.length+1) sec ps).sure=false:=rfl;have hsyn:(R4.sealedR (2*ps.length+1) sec ps).synced={R4.sealedR (2*ps.length+1) sec ps with s:=(R4.sealedR (2*ps.length+1) sec ps).s.dried (R4.sealedR (2*ps.length+1) sec ps).M,sure:=true}:=by
    unfold RS.synced;rw[hsu5];rfl
  obtain⟨-,d2⟩:=Zbk g5.fit (R4.sealedR (2*ps.length+1) sec ps).M (by rw[g5.n];omega) (.inl rfl);have y0:(R4.sealedR (2*ps.length+1) sec ps).synced.s.cnt 0=1:=by
    rw[hsyn];show((R4.sealedR (2*ps.length+1) sec ps).s.dried _).cnt 0=1
    rw[d2.c0,hp5.c0,r0]
  have y1:(R4.sealedR (2*ps.length+1) sec ps).synced.s.cnt 1=(n1:Int)+5:=by
    rw[hsyn];show((R4.sealedR (2*ps.length+1) sec ps).s.dried _).cnt 1=_
    rw[d2.c1,hp5.c1,r1];omega
  have y2:(R4.sealedR (2*ps.length+1) sec ps).synced.s.cnt 2=(n2:Int)+2:=by
    rw[hsyn];show((R4.sealedR (2*ps.length+1) sec ps).s.dried _).cnt 2=_
    rw[d2.c2,hp5.c2,r2];omega
  have hws:(R4.sealedR (2*ps.length+1) sec ps).synced.wait=ps:=by rw[hsyn];rfl
  have hfs:(R4.sealedR (2*ps.length+1) sec ps).synced.fr=fun _=> -1:=by rw[hsyn];exact hfr4
  obtain⟨-,z0,-,z2,z3,s6,e6⟩:=hpl.facts g5.synced.ready
  have z1 := Zjr hpl [pkOf ⟨0, 0, x⟩, pkOf ⟨2, 0, newp⟩] (by rw [List.nodup_cons]; exact ⟨fun e => by rw [List.mem_singleton] at e; exact absurd (congrArg (fun k : PK => k.1.val) e) (by show ¬ (0 = 2); omega), List.nodup_cons.2 ⟨by simp, List.nodup_nil⟩⟩) (fun k => by
    rw[hws]
    constructor
    · intro hk
      rcases List.mem_cons.1 hk with e|hk
      · exact⟨⟨0,0,x⟩,hpats'.mem_iff.2 (by rw[hall];simp),e.symm⟩
      · rw[List.mem_singleton]at hk
        exact⟨⟨2,0,newp⟩,hpats'.mem_iff.2 (by rw[hall];simp),hk.symm⟩
    · rintro ⟨p,hp,rfl⟩
      have hp':=hpats'.mem_iff.1 hp
      rw[hall]at hp'
      rcases List.mem_cons.1 hp' with e|hp'
      · rw[e];exact List.mem_cons_self
      · rw[List.mem_singleton]at hp'
        rw[hp']
        exact List.mem_cons_of_mem _ List.mem_cons_self) (fun k _=>by
    unfold RS.upAt RS.dn
    rw[hfs]
    rfl)
  have hcs:Cost (kR s) R' 139264 2000 24 2000 1:=((((hg.cost_ticks 1).trans (g2.cost_logged hlg)).trans (g3.cost_placed hahead')).trans c5).trans (g5.cost_synced.trans (g5.synced.cost_placed hpl))|>.mono (by omega) (by rw[hw3,hws,hlen];show 0+2*2+0+1+(0+2)≤2000;omega) (by omega) (by rw[hw3,hws,hlen];show 0+2*2+0+1+(0+2)≤2000;omega) (by omega)
  have hcs2:∀m,(kR s).s.small m->R'.s.small (m+7):=fun m hm=>by
    have:=(((((hg.cost_ticks 1).trans (g2.cost_logged hlg)).trans (g3.cost_placed hahead')).trans c5).trans (g5.cost_synced.trans (g5.synced.cost_placed hpl))).small m hm;rw[hw3,hws,hlen]at this;exact this.mono (by show m+(0+2*2+0+1+(0+2))≤m+7;omega)
  refine⟨by rw[z0,y0],by rw[z1,y1];show(n1:Int)+5+((2:Nat):Int)=_;omega,by rw[z2,y2],by rw[<-h64];rfl,?_,?_,?_,?_,?_,?_,?_⟩
  · rw[e6]
  · exact hcs.M
  · exact hcs.C
  · exact hcs.S
  · exact hcs.fr
  · exact(hcs2 _ hm.small).mono (by omega)
  · have:=hcs.next
    have e:(kR s).next=1:=rfl;omega
theorem a17_known (W:World):Calls Tryz.prog 8 #[] W fun e w'=>e=.returned (.bool true)/\Below W.heap.size W w':=by
  have hg:geoIs ((3:Nat):Int) ((1:Nat):Int) ((2:Nat):Int)=true:=by decide
  have hB1:Below W.heap.size W (W.alloc (.cells #[.int .i64 3,.int .i64 3,.int .i64 3,.int .i64 12] 3)):=(Below.refl _ _).alloc (Nat.le_refl _) _;have hA1:=At.new W #[.int .i64 3,.int .i64 3,.int .i64 3,.int .i64 12] 3;have HBN:Hid (Calls Tryz.prog 14 #[.slice (some ⟨W.heap.size,0,none⟩) 4 4] (W.alloc (.cells #[.int .i64 3,.int .i64 3,.int .i64 3,.int .i64 12] 3)) fun e w'=>∃b T,e=.returned (.tuple #[.pointer (some ⟨b,0,none⟩),.int .u16 0])/\BayAt w' T b (rBay 3 (2*1) 10)/\Below W.heap.size W w'/\∀q,q<W.heap.size->T q=0):=by
    have hv:(W.alloc (.cells #[.int .i64 3,.int .i64 3,.int .i64 3,.int .i64 12] 3)).ownsRow W.heap.size 3 1 (.slice (some ⟨W.heap.size,0,none⟩) 4 4) (rszL 3 2 10).length (kcells (rszL 3 2 10)):=⟨rfl,.inr ⟨_,4,_,rfl,Nat.le_refl _,hA1,Nat.le_refl _,by unfold maxLen;omega,rfl,rfl⟩⟩;refine(Zvx (rszL 3 2 10) _ _ _ hv (by rw[Zby];omega) (by rw[Zby];omega) (fun x hx=>(Zq7 (by omega) (by omega) x hx).2)).mono ?_;rintro e w' ⟨b,rfl,T,k1,k2,k3,k4⟩;have hz:=hB1.size;exact⟨b,T,rfl,k1,hB1.trans (k4.mono hz),fun q hq=>k2 q (by omega)⟩
  have HCR:Hid (∀w T b,BayAt w T b (rBay 3 (2*1) 10)->Below W.heap.size W w->(∀q,q<W.heap.size->T q=0)->Calls Tryz.prog 15 #[.pointer (some ⟨b,0,none⟩),.int .u64 1,.agg #[.int .i64 3,.int .i64 1,.int .i64 2],.int .i64 10,.bool false] w fun e w'=>∃ap stg A s,e=.returned (.tuple #[.pointer (some ⟨ap,0,none⟩),.int .u16 0])/\A.b=b/\KnA W w' A [arB ap stg A 3 1 2 10 false 1 1 1,stB stg (-1) 3] (kn0 s)):=fun w T b h1 h2 h3=>(ar_create (M:=3) (C:=1) (S:=2) (ring:=10) h1 false hg (by omega) (by omega) (id:=1) (by omega)).mono fun e w' h=>by
    obtain⟨ap,stg,A,T',s,rfl,hA,hm⟩:=CrPost.md h h3 h2;obtain⟨k1,k2⟩:=hm.ab hg (by omega) (by omega);exact⟨ap,stg,A,s,rfl,hA,T',kR s,zeroV,k1,rfl,rfl,k2,hm.blank⟩
  have HC0:Hid (∀w A L s,KnA W w A L (kn0 s)->Calls Tryz.prog 17 #[.pointer (some ⟨A.b,0,none⟩)] w fun e w'=>e=.returned (.agg #[.int .i64 0,.int .i64 21,.int .i64 5])/\KnA W w' A L (kn0 s)):=fun w A L s h=>kna_counts h fun R V hD=>by
    obtain⟨rfl,rfl,-,hb⟩:=hD;exact⟨hb.c0,hb.c1,hb.c2⟩
  have HC1:Hid (∀w A L,KnA W w A L kn1->Calls Tryz.prog 17 #[.pointer (some ⟨A.b,0,none⟩)] w fun e w'=>e=.returned (.agg #[.int .i64 1,.int .i64 28,.int .i64 7])/\KnA W w' A L kn1):=fun w A L h=>kna_counts h fun R V hD=>hD.2.1
  have HSE:Hid (∀w,Calls Tryz.prog 20 #[.int .u8 97] w fun e w'=>e=.returned (.slice (some ⟨w.heap.size,0,none⟩) 128 128)/\At w' w.heap.size (ucells (secA 97)).toArray 5/\Below w.heap.size w w'):=fun w=>a17_sector 97 w
  have HS1:Hid (∀w,Calls Tryz.prog 20 #[.int .u8 1] w fun e w'=>e=.returned (.slice (some ⟨w.heap.size,0,none⟩) 128 128)/\At w' w.heap.size (ucells (secA 1)).toArray 5/\Below w.heap.size w w'):=fun w=>a17_sector 1 w
  have HW0:Hid (∀w A s ap stg g p x,KnA W w A [(p,#[.int .i64 0,.slice (some ⟨g,0,none⟩) 128 128],60),(g,(ucells (secA 97)).toArray,5),x,arB ap stg A 3 1 2 10 false 1 1 1,stB stg (-1) 3] (kn0 s)->Calls Tryz.prog 11 #[.pointer (some ⟨ap,0,none⟩),.slice (some ⟨p,0,none⟩) 1 1] w fun e w'=>e=.returned (.int .u16 0)/\KnA W w' A [(p,#[.int .i64 0,.slice (some ⟨g,0,none⟩) 128 128],60),(g,(ucells (secA 97)).toArray,5),x,arB ap stg A 3 1 2 10 false 1 1 1,stB stg (-1) 3] kn1):=fun w A s ap stg g p x0 h=>by
    have h1:arB ap stg A 3 1 2 10 false 1 1 1∈ [(p,#[.int .i64 0,.slice (some ⟨g,0,none⟩) 128 128],60),(g,(ucells (secA 97)).toArray,5),x0,arB ap stg A 3 1 2 10 false 1 1 1,stB stg (-1) 3]:=by simp
    have ok:=Zgz (secA 97) (secA_length 97);have hc:wcode 3 1 2 10 (kU (secA 97))=0:=wcode_one (u:=(0,secA 97)) ok (by omega);refine(kna_write h h1 (fun R V hD=>hD.2.2.1) ⟨by omega,by omega⟩ _ (kU (secA 97)) [(p,#[.int .i64 0,.slice (some ⟨g,0,none⟩) 128 128],60),(g,(ucells (secA 97)).toArray,5)] (fun x hx=> ?_) (fun W' hW'=>Zuh (hW' _ (List.mem_cons_self)) (hW' _ (List.mem_cons_of_mem _ List.mem_cons_self)) (secA_length 97)) (by omega)).mono ?_
    · simp only [List.mem_cons,List.not_mem_nil,or_false]at hx
      rcases hx with rfl|rfl<;>simp
    · rintro e w' ⟨rfl,hk⟩
      refine⟨by rw[hc];rfl,hk.imp ?_⟩;rintro R' V' ⟨m1,R,V,⟨rfl,rfl,-,hb⟩,m2,m3,m4⟩;obtain⟨ps,R1,R4,sec,hbt⟩:=m4 (by simp[kU]) hc;have hk:=known_at hb (by omega) (secA_length 97) hbt;refine⟨m1,⟨hk.c0,hk.c1,hk.c2⟩,?_⟩;rw[m2 0 (by omega)];unfold wLaid;rw[if_pos hc];rfl
  have HRD:Hid (∀w A ap stg x1 x2 x3 x4,KnA W w A [x1,x2,x3,x4,arB ap stg A 3 1 2 10 false 1 1 1,stB stg (-1) 3] kn1->Calls Tryz.prog 12 #[.pointer (some ⟨ap,0,none⟩),.int .i64 0,.int .i64 1] w fun e w'=>∃v bx,e=.returned (.tuple #[v,.int .u16 0])/\(bx.2.2=5/\∀W',At W' bx.1 bx.2.1 bx.2.2->Seg W' v (secA 97))/\KnA W w' A [bx,x1,x2,x3,x4,arB ap stg A 3 1 2 10 false 1 1 1,stB stg (-1) 3] kn2):=fun w A ap stg x1 x2 x3 x4 h=>by
    have h1:arB ap stg A 3 1 2 10 false 1 1 1∈ [x1,x2,x3,x4,arB ap stg A 3 1 2 10 false 1 1 1,stB stg (-1) 3]:=by simp
    refine(kna_read h h1 (fun R V hD=>hD.1) ⟨by omega,by omega⟩ (fun _=>secA 97) 0 1 (by omega) (by omega) (fun R V hD i hi=> ?_)).mono ?_
    · obtain rfl:i=0:=by omega
      exact hD.2.2
    · rintro e w' ⟨v,bx,rfl,⟨k1,-,k2⟩,k3⟩
      refine⟨v,bx,rfl,⟨k1,fun W' hW'=> ?_⟩,k3.imp fun R V hD=>hD.1⟩;have:=k2 W' hW';rw[show flatD (fun _=>secA 97) 1=secA 97 by simp[flatD]]at this;exact this
  have HW1:Hid (∀w A ap stg g1 g2 g3 g4 p y0 y1 y2 y3 y4,KnA W w A [(p,#[.int .i64 0,.slice (some ⟨g1,0,none⟩) 128 128,.int .i64 1,.slice (some ⟨g2,0,none⟩) 128 128,.int .i64 2,.slice (some ⟨g3,0,none⟩) 128 128,.int .i64 3,.slice (some ⟨g4,0,none⟩) 128 128],60),(g4,(ucells (secA 1)).toArray,5),(g3,(ucells (secA 1)).toArray,5),(g2,(ucells (secA 1)).toArray,5),(g1,(ucells (secA 1)).toArray,5),y0,y1,y2,y3,y4,arB ap stg A 3 1 2 10 false 1 1 1,stB stg (-1) 3] kn2->Calls Tryz.prog 11 #[.pointer (some ⟨ap,0,none⟩),.slice (some ⟨p,0,none⟩) 4 4] w fun e w'=>e=.returned (.int .u16 122)/\KnA W w' A [(p,#[.int .i64 0,.slice (some ⟨g1,0,none⟩) 128 128,.int .i64 1,.slice (some ⟨g2,0,none⟩) 128 128,.int .i64 2,.slice (some ⟨g3,0,none⟩) 128 128,.int .i64 3,.slice (some ⟨g4,0,none⟩) 128 128],60),(g4,(ucells (secA 1)).toArray,5),(g3,(ucells (secA 1)).toArray,5),(g2,(ucells (secA 1)).toArray,5),(g1,(ucells (secA 1)).toArray,5),y0,y1,y2,y3,y4,arB ap stg A 3 1 2 10 false 1 1 1,stB stg (-1) 3] (fun _ _=>True)):=fun w A ap stg g1 g2 g3 g4 p y0 y1 y2 y3 y4 h=>by
    have h1:arB ap stg A 3 1 2 10 false 1 1 1∈ [(p,#[.int .i64 0,.slice (some ⟨g1,0,none⟩) 128 128,.int .i64 1,.slice (some ⟨g2,0,none⟩) 128 128,.int .i64 2,.slice (some ⟨g3,0,none⟩) 128 128,.int .i64 3,.slice (some ⟨g4,0,none⟩) 128 128],60),(g4,(ucells (secA 1)).toArray,5),(g3,(ucells (secA 1)).toArray,5),(g2,(ucells (secA 1)).toArray,5),(g1,(ucells (secA 1)).toArray,5),y0,y1,y2,y3,y4,arB ap stg A 3 1 2 10 false 1 1 1,stB stg (-1) 3]:=by simp
    have hc:=k4_code (secA 1) (secA_length 1);refine(kna_write h h1 (fun R V hD=>hD) ⟨by omega,by omega⟩ _ (k4 (secA 1)) [(p,#[.int .i64 0,.slice (some ⟨g1,0,none⟩) 128 128,.int .i64 1,.slice (some ⟨g2,0,none⟩) 128 128,.int .i64 2,.slice (some ⟨g3,0,none⟩) 128 128,.int .i64 3,.slice (some ⟨g4,0,none⟩) 128 128],60),(g1,(ucells (secA 1)).toArray,5),(g2,(ucells (secA 1)).toArray,5),(g3,(ucells (secA 1)).toArray,5),(g4,(ucells (secA 1)).toArray,5)] (fun x hx=> ?_) (fun W' hW'=> ?_) (by omega)).mono ?_
    · simp only [List.mem_cons,List.not_mem_nil,or_false]at hx
      rcases hx with rfl|rfl|rfl|rfl|rfl<;>simp
    · have := puts_seg (w := W') (g := p) (c := 4) (ps := [(0, g1, secA 1), (1, g2, secA 1), (2, g3, secA 1), (3, g4, secA 1)]) (hW' _ List.mem_cons_self) (fun i _ => by
        rw[<-List.getElem?_toArray]
        rfl) (fun x hx=>by
        simp only [List.mem_cons,List.not_mem_nil,or_false]at hx
        rcases hx with rfl|rfl|rfl|rfl
        · exact⟨hW' (g1,(ucells (secA 1)).toArray,5) (by simp),secA_length 1⟩
        · exact⟨hW' (g2,(ucells (secA 1)).toArray,5) (by simp),secA_length 1⟩
        · exact⟨hW' (g3,(ucells (secA 1)).toArray,5) (by simp),secA_length 1⟩
        · exact⟨hW' (g4,(ucells (secA 1)).toArray,5) (by simp),secA_length 1⟩) 0 4 (by simp) (by simp)
      exact this
    · rintro e w' ⟨rfl,hk⟩
      exact⟨by rw[hc];rfl,hk.imp fun _ _ _=>trivial⟩
  have HBL:Hid (∀w A L ap stg,KnA W w A L (fun _ _=>True)->arB ap stg A 3 1 2 10 false 1 1 1∈L->Calls Tryz.prog 9 #[.pointer (some ⟨ap,0,none⟩)] w fun e w'=>e=.returned (.int .i64 4)/\KnA W w' A L (fun _ _=>True)):=fun w A L ap stg h h1=>kna_blocks (a:=0) (b:=0) (g:=0) h h1 hg
  have HSB:Hid (∀u v w,Seg w u (secA 97)->Seg w v (secA 97)->Calls Tryz.prog 13 #[u,v] w fun e w'=>e=.returned (.bool true)/\Below w.heap.size w w'):=fun u v w h1 h2=>(Zyg u v (secA 97) (secA 97) w (by rw[secA_length];omega) (by rw[secA_length];omega) h1 h2).mono fun e w' ⟨x1,x2⟩=>⟨by rw[x1];simp,x2⟩
  clear hB1 hA1 hg;go_enter Tryz.func8,Tryz.ntmps8
  go_wp2_with (first
    |(go_at_call 14;(with_reducible refine HBN.out.mono ?_);rintro e w2 ⟨b,T,rfl,hba,hbb,hbt⟩;have HBA:=Lib.hid hba;have HBB:=Lib.hid hbb;have HBT:=Lib.hid hbt;clear hba hbb hbt)
    |(go_at_call 15;(with_reducible refine(HCR.out _ T b HBA.out HBB.out HBT.out).mono ?_);rintro e w3 ⟨ap,stg,A,s,rfl,rfl,hk3⟩;have HK3:=Lib.hid hk3;clear hk3)
    |(go_at_call 17;(with_reducible refine(HC1.out _ A _ HK6.out).mono ?_);rintro e w7 ⟨rfl,hk7⟩;have HK7:=Lib.hid (hk7.push #[.int .i64 1,.int .i64 28,.int .i64 7] 50 (by decide));clear hk7)
    |(go_at_call 17;(with_reducible refine(HC0.out _ A _ s HK3.out).mono ?_);rintro e w4 ⟨rfl,hk4⟩;have HK4:=Lib.hid (hk4.push #[.int .i64 0,.int .i64 21,.int .i64 5] 50 (by decide));have hz4:(w4.alloc (.cells #[.int .i64 0,.int .i64 21,.int .i64 5] 50)).heap.size=w4.heap.size+1:=(Zaa _ _);clear hk4)
    |(go_at_call 20;(with_reducible refine(HSE.out w13).mono ?_);rintro e w14 ⟨rfl,hs14,hb14⟩;clear c0 c1 c2 d0 d1 d2;have HK14:=Lib.hid (HK13.out.below hb14);have HS14:=Lib.hid (Zk9 hs14 (secA_length 97));clear hs14 hb14)
    |(go_at_call 20;(with_reducible refine(HS1.out w11).mono ?_);rintro e w12 ⟨rfl,hs12,hb12⟩;have HK12:=Lib.hid ((HK11.out.add hb12 hs12 (Nat.le_refl _) (by decide)).push #[.int .i64 0,.slice (some ⟨w8.heap.size,0,none⟩) 128 128,.int .i64 1,.slice (some ⟨w9.heap.size,0,none⟩) 128 128,.int .i64 2,.slice (some ⟨w10.heap.size,0,none⟩) 128 128,.int .i64 3,.slice (some ⟨w11.heap.size,0,none⟩) 128 128] 60 (by decide));clear hs12 hb12)
    |(go_at_call 20;(with_reducible refine(HS1.out w10).mono ?_);rintro e w11 ⟨rfl,hs11,hb11⟩;have HK11:=Lib.hid (HK10.out.add hb11 hs11 (Nat.le_refl _) (by decide));clear hs11 hb11)
    |(go_at_call 20;(with_reducible refine(HS1.out w9).mono ?_);rintro e w10 ⟨rfl,hs10,hb10⟩;have HK10:=Lib.hid (HK9.out.add hb10 hs10 (Nat.le_refl _) (by decide));clear hs10 hb10)
    |(go_at_call 20;(with_reducible refine(HS1.out w8).mono ?_);rintro e w9 ⟨rfl,hs9,hb9⟩;have HK9:=Lib.hid (HK8.out.add hb9 hs9 (Nat.le_refl _) (by decide));clear hs9 hb9)
    |(go_at_call 20;(with_reducible refine(HSE.out (w4.alloc (.cells #[.int .i64 0,.int .i64 21,.int .i64 5] 50))).mono ?_);rintro e w5 ⟨rfl,hs5,hb5⟩;rw[hz4]at hs5;have HK5:=Lib.hid ((HK4.out.add hb5 hs5 (Nat.le_of_eq hz4) (by decide)).push #[.int .i64 0,.slice (some ⟨w4.heap.size+1,0,none⟩) 128 128] 60 (by decide));clear hs5 hb5)
    |(go_at_call 11;(with_reducible refine(HW1.out _ A ap stg _ _ _ _ _ _ _ _ _ _ HK12.out).mono ?_);rintro e w13 ⟨rfl,hk13⟩;have HK13:=Lib.hid hk13;have hc13:=hk13.get 9 rfl;have hd13:=hk13.get 6 rfl;have c0:=hc13.cell 0;have c1:=hc13.cell 1;have c2:=hc13.cell 2;have d0:=hd13.cell 0;have d1:=hd13.cell 1;have d2:=hd13.cell 2;clear hk13 hc13 hd13)
    |(go_at_call 11;(with_reducible refine(HW0.out _ A s ap stg _ _ _ HK5.out).mono ?_);rintro e w6 ⟨rfl,hk6⟩;have HK6:=Lib.hid hk6;clear hk6)
    |(go_at_call 12;(with_reducible refine(HRD.out _ A ap stg _ _ _ _ HK7.out).mono ?_);rintro e w8 ⟨v8,bx8,rfl,⟨hy8,hs8⟩,hk8⟩;have HK8:=Lib.hid hk8;have HS8:=Lib.hid hs8;clear hk8 hs8)
    |(go_at_call 13;(have hq:=HS8.out _ (HK14.out.get 5 rfl));(with_reducible refine(HSB.out _ _ _ hq HS14.out).mono ?_);rintro e w15 ⟨rfl,hb15⟩;have HK15:=Lib.hid (HK14.out.below hb15);clear hb15 hq)
    | (go_at_call 9; (with_reducible refine (HBL.out _ A _ ap stg HK15.out ?_).mono ?_); · simp
       rintro e w16 ⟨rfl,hk16⟩;have HK16:=Lib.hid hk16;clear hk16))
  go_ret;exact⟨rfl,HK16.out.bel⟩
section
def zD:Nat->Sec:=fun _=>zsec
section
variable {w0 w w':World} {A1 A2:Adr} {M C S ring a b:Nat} {lazy:Bool} {D1 D2:Nat->Sec} {Q L:List Bx}
end
end
section
theorem flat_at {D:Nat->Sec} {b:Nat}:∀{n:Nat},b<n->(∀k,k<n->(D k).length=128)->∀j,j<128->(flatD D n)[128*b+j]?=(D b)[j]?
  |0,hb,_,_,_=>by omega
  |n+1,hb,hl,j,hj=>by
    have h1:(flatD D n).length=128*n:=Zxj fun k hk=>hl k (by omega)
    rw[Zx3];by_cases e:b=n
    · subst e
      rw[List.getElem?_append_right (by omega)];congr 1;omega
    · rw[List.getElem?_append_left (by omega)]
      exact flat_at (by omega) (fun k hk=>hl k (by omega)) j hj
theorem seg_cut {w:World} {g cap:Nat} {D:Nat->Sec} {b n:Nat} (h:Seg w (.slice (some ⟨g,0,none⟩) (128*n) cap) (flatD D n)) (hb:b<n) (hl:∀k,k<n->(D k).length=128) (c:Nat) (hc:128≤c):Seg w (.slice (some ⟨g,128*b,none⟩) 128 c) (D b):=by
  have h1:(flatD D n).length=128*n:=Zxj hl;have hd:=hl b hb;obtain⟨b',off,cap',hv,hlt,hx⟩:=h.full (by omega);simp only [Value.slice.injEq,Option.some.injEq,Addr.mk.injEq,and_true]at hv;obtain⟨⟨rfl,rfl⟩,-,-⟩:=hv;refine⟨_,c,by rw[hd],⟨fun e=>(by cases e),(by omega)⟩,.inr ⟨g,128*b,rfl,hlt,fun j hj=> ?_⟩⟩;have hj':j<128:=by omega
  have e1:=flat_at hb hl j hj';rw[List.getElem?_eq_getElem (by omega),List.getElem?_eq_getElem hj]at e1;have e2:=hx (128*b+j) (by omega);rw[Option.some.inj e1,Nat.zero_add]at e2;exact e2
def So (w0 w:World) (A:Adr) (ap stg M C S ring:Nat) (lazy:Bool) (id:Nat) (g:Int) (ev:Nat) (X:Nat->Sec) (a b:Nat) (Q:BaySt->Prop) (L:List Bx):Prop:=
  KnA w0 w A (arB ap stg A M C S ring lazy id ev ev::stB stg g M::L) fun R V=>ArP R V M C S ring lazy g a b/\(∀k,k<S*C*(M-1)->blkOf M C V k=X k)/\Q R.s
def anyQ:BaySt->Prop:=fun _=>True
def cntQ (c0 c1 c2:Int):BaySt->Prop:=fun s=>s.cnt 0=c0/\s.cnt 1=c1/\s.cnt 2=c2
def wrQ (c1 c2:Int):BaySt->Prop:=fun s=>s.cnt 1=c1/\s.cnt 2=c2
section
variable {w0 w w':World} {A:Adr} {ap stg M C S ring id ev a b:Nat} {lazy:Bool} {g:Int} {X:Nat->Sec} {Q Q':BaySt->Prop} {L L':List Bx}
theorem So.below (h:So w0 w A ap stg M C S ring lazy id g ev X a b Q L) (hb:Below w.heap.size w w'):So w0 w' A ap stg M C S ring lazy id g ev X a b Q L:=KnA.below h hb
theorem So.bel (h:So w0 w A ap stg M C S ring lazy id g ev X a b Q L):Below w0.heap.size w0 w:=KnA.bel h
theorem So.has (h:So w0 w A ap stg M C S ring lazy id g ev X a b Q L) {x:Bx} (hx:x∈L):At w x.1 x.2.1 x.2.2:=KnA.has h (List.mem_cons_of_mem _ (List.mem_cons_of_mem _ hx))
theorem So.sub (h:So w0 w A ap stg M C S ring lazy id g ev X a b Q L) (hs:∀x∈L',x∈L):So w0 w A ap stg M C S ring lazy id g ev X a b Q L':=KnA.sub h fun x hx=>by
  simp only [List.mem_cons]at hx ⊢;rcases hx with e|e|e
  · exact .inl e
  · exact .inr (.inl e)
  · exact .inr (.inr (hs x e))
theorem So.imp (h:So w0 w A ap stg M C S ring lazy id g ev X a b Q L) (hq:∀s,Q s->Q' s):So w0 w A ap stg M C S ring lazy id g ev X a b Q' L:=KnA.imp h fun R V h=>⟨h.1,h.2.1,hq _ h.2.2⟩
theorem So.mono (h:So w0 w A ap stg M C S ring lazy id g ev X a b Q L) {a' b':Nat} (ha:a≤a') (hb:b≤b'):So w0 w A ap stg M C S ring lazy id g ev X a' b' Q L:=KnA.imp h fun R V h=>⟨h.1.mono ha hb,h.2⟩
theorem So.grow (h:So w0 w A ap stg M C S ring lazy id g ev X a b Q L) (hb:Below w.heap.size w w') (B:List Bx) (hB:∀x∈B,At w' x.1 x.2.1 x.2.2/\w.heap.size≤x.1/\offT x.2.2):So w0 w' A ap stg M C S ring lazy id g ev X a b Q (B++L):=by
  obtain⟨T,R,V,h1,h2⟩:=h;have h3:=h1.below hb;refine⟨T,R,V,⟨h3.ln,fun x hx=> ?_⟩,h2⟩;simp only [List.mem_cons,List.mem_append]at hx;have hk:∀x,x∈B->At w' x.1 x.2.1 x.2.2/\T x.1=0/\116≠x.2.2/\3≠x.2.2/\148≠x.2.2/\190≠x.2.2:=fun x e=>by
    obtain⟨k1,k2,k3⟩:=hB x e;exact⟨k1,h1.ln.virg _ k2,k3⟩
  rcases hx with e|e|e|e
  · exact h3.box x (by rw[e];exact List.mem_cons_self)
  · exact h3.box x (by rw[e];exact List.mem_cons_of_mem _ List.mem_cons_self)
  · exact hk x e
  · exact h3.box x (List.mem_cons_of_mem _ (List.mem_cons_of_mem _ e))
theorem So.push (h:So w0 w A ap stg M C S ring lazy id g ev X a b Q L) (cs:Array Value) (t:TypeId) (ht:offT t):So w0 (w.alloc (.cells cs t)) A ap stg M C S ring lazy id g ev X a b Q ((w.heap.size,cs,t)::L):=
  h.grow ((Below.refl _ _).alloc (Nat.le_refl _) _) [(w.heap.size,cs,t)] fun x hx=>by
    rw[List.mem_singleton]at hx;subst hx;exact⟨At.new _ _ _,Nat.le_refl _,ht⟩
theorem So.geo (h:So w0 w A ap stg M C S ring lazy id g ev X a b Q L):geoIs M C S=true:=by
  obtain⟨T,R,V,h1,h2⟩:=h;exact h2.1.geo
theorem So.len (h:So w0 w A ap stg M C S ring lazy id g ev X a b Q L):∀k,k<S*C*(M-1)->(X k).length=128:=by
  obtain⟨T,R,V,h1,h2,h3,h4⟩:=h;intro k hk;rw[<-h3 k hk];have:=Zxw h2.good (k:=k) (by rw[h2.M,h2.C,h2.S];exact hk);rw[h2.M,h2.C]at this;exact this
theorem so_start {T:Nat->Nat} {s:BaySt} (hg:geoIs M C S=true) (h5:5≤ring) (h6:ring≤2048) (h:MdAt w0 w T A ap stg M C S ring lazy id s):So w0 w A ap stg M C S ring lazy id (-1) 1 zD 80000 80000 anyQ []:=by
  obtain⟨k1,k2⟩:=h.ab hg h5 h6;exact⟨T,_,_,k1,k2,fun _ _=>rfl,trivial⟩
theorem so_blocks (h:So w0 w A ap stg M C S ring lazy id g ev X a b Q L):
    Calls Tryz.prog 9 #[.pointer (some ⟨ap,0,none⟩)] w fun e w'=>e=.returned (.int .i64 (S*C*(M-1):Nat))/\Below w.heap.size w w':=by
  have hg:=h.geo;obtain⟨T,R,V,h1,h2⟩:=h;obtain⟨g1,g2,g3,g4⟩:=Zbe hg;refine(ar_blocks (h1.box _ List.mem_cons_self).1 hg).mono ?_;rintro e w' ⟨rfl,hb⟩;refine⟨?_,hb⟩;rw[Int.natCast_mul,Int.natCast_mul,Int.natCast_sub (by omega)];rfl
theorem so_counts (h:So w0 w A ap stg M C S ring lazy id g ev X a b Q L):
    Calls Tryz.prog 17 #[.pointer (some ⟨A.b,0,none⟩)] w fun e w'=>∃c0 c1 c2,e=.returned (.agg #[.int .i64 c0,.int .i64 c1,.int .i64 c2])/\So w0 w' A ap stg M C S ring lazy id g ev X a b (fun s=>Q s/\cntQ c0 c1 c2 s) L:=by
  obtain⟨T,R,V,h1,h2,h3,h4⟩:=h;obtain⟨lg,vw,Y,hr⟩:=h1.ln.rw;refine(Zp2 hr.bay).mono ?_;rintro e w' ⟨rfl,hb⟩;exact⟨_,_,_,rfl,T,R,V,h1.below hb,h2,h3,h4,rfl,rfl,rfl⟩
theorem so_write (h:So w0 w A ap stg M C S ring lazy id g ev X a b Q L) (hin:Within a b) (pv:Value) (us:List (Int×List UInt8)) (hp:(∃PB:List Bx,(∀x∈PB,x∈L)/\∀W',(∀x∈PB,At W' x.1 x.2.1 x.2.2)->PutSeg W' pv us)\/PutSeg w0 pv us) (h5:5≤ring):
    Calls Tryz.prog 11 #[.pointer (some ⟨ap,0,none⟩),pv] w fun e w'=>e=.returned (.int .u16 (wcode M C S ring us:Nat))/\So w0 w' A ap stg M C S ring lazy id g ev (wLaid M C S ring us X) (a+1000000) (b+8*us.length+4) (fun s=>wcode M C S ring us≠0->Q s) L:=by
  obtain⟨T,R,V,h1,h2,h3,h4⟩:=h;obtain⟨lg,vw,Y,hr⟩:=h1.ln.rw;have hq:¬A.q<w0.heap.size:=fun e=>(h1.ln.old _ e).2 (.inl rfl)
  refine(ar_write h1 List.mem_cons_self h2 hin pv (us:=us) (fun W' hc=> ?_) h5).mono ?_
  · rcases hp with ⟨PB,hP,hp⟩|hp
    · refine hp W' fun x hx=> ?_
      have hb:=h1.box x (List.mem_cons_of_mem _ (List.mem_cons_of_mem _ (hP x hx)));exact hb.1.mod hc (fun e=>Zaw hb.1 hr.rw (fun t=>hb.2.2.1 t.symm) e)
    · refine hp.below (h1.ln.bel.trans (hc.below fun q hq2=>⟨?_,fun e=>hq (e ▸ hq2)⟩))
      have:=h1.ln.bel.size;omega
  · rintro e w' ⟨rfl,T',R',V',m1,m2,m3,m4,m5,m6⟩
    exact⟨rfl,T',R',V',m1,m3,fun k hk=>(m4 k hk).trans (wLaid_cong us (h3 k hk)),fun hc=>by rw[m5 hc];exact h4⟩
theorem so_read (h:So w0 w A ap stg M C S ring lazy id g ev X a b Q L) (hin:Within (a+2000000) b) (k n:Nat) (hn:0<n) (hk:k+n≤S*C*(M-1)) (hQ:∀s c,Q s->Q (s.ticks 0 c)):
    Calls Tryz.prog 12 #[.pointer (some ⟨ap,0,none⟩),.int .i64 k,.int .i64 n] w fun e w'=>∃gb cap bx,e=.returned (.tuple #[.slice (some ⟨gb,0,none⟩) (128*n) cap,.int .u16 0])/\128*n≤cap/\(∀W',At W' bx.1 bx.2.1 bx.2.2->Seg W' (.slice (some ⟨gb,0,none⟩) (128*n) cap) (flatD (fun i=>X (k+i)) n))/\So w0 w' A ap stg M C S ring lazy id g ev X (a+2000000) b Q (bx::L):=by
  refine(kna_read h List.mem_cons_self (fun R V hD=>hD.1) hin (fun i=>X (k+i)) k n hn hk (fun R V hD i hi=>hD.2.1 (k+i) (by omega))).mono ?_;rintro e w' ⟨v,bx,rfl,⟨k1,⟨gb,cap,rfl,hcap⟩,k2⟩,k3⟩;refine⟨gb,cap,bx,rfl,hcap,k2,?_⟩
  have k4 : KnA w0 w' A (arB ap stg A M C S ring lazy id ev ev :: stB stg g M :: bx :: L) fun R V => ArP R V M C S ring lazy g (a + 2000000) b /\ (∀ k, k < S * C * (M - 1) -> blkOf M C V k = X k) /\ Q R.s := (k3.sub (L' := arB ap stg A M C S ring lazy id ev ev :: stB stg g M :: bx :: L) fun x hx => by
    simp only [List.mem_cons]at hx ⊢
    rcases hx with e|e|e|e
    · exact .inr (.inl e)
    · exact .inr (.inr (.inl e))
    · exact .inl e
    · exact .inr (.inr (.inr e))).imp fun R V ⟨m1,R1,c,m2,m3⟩=>⟨m1,m2.2.1,by rw[m3];exact hQ _ _ m2.2.2⟩
  exact k4
theorem so_fail {k:Nat} (h:So w0 w A ap stg M C S ring lazy id (-1) ev X a b Q L) (hlo:w0.heap.size≤ap) (hlo2:w0.heap.size≤stg) (hL:∀x∈L,x.1≠ap/\x.1≠stg) (hk:k<M) (hin:Within a b) (hev:1≤ev/\ev<1000000) (h5:5≤ring/\ring≤2048) (hid:id<18446744073709551616):
    Calls Tryz.prog 16 #[.pointer (some ⟨ap,0,none⟩),.int .i64 k] w fun e w'=>e=.returned (.int .u16 0)/\So w0 w' A ap stg M C S ring lazy id (k:Int) (ev+1) X (a+50) (b+50) anyQ L:=by
  obtain⟨T,R,V,h1,h2,h3,h4⟩:=h;refine(ar_fail h1 hlo hlo2 hL hk h2 hin hev h5 hid).mono ?_;rintro e w' ⟨rfl,R',⟨T',k1,-,-⟩,k2⟩;exact⟨rfl,T',R',V,k1,k2,h3,trivial⟩
end
end
section
open Go.RowKit Go.ChangeShapes Go.WideShapes Go.ChangeAt Go.Deep
theorem u8_nat {z:Int} (h:(Lit.int .u8 z).wf=true):∃n:Nat,z=n/\n<256:=by
  have b1:0≤z/\z≤255:=(Lit.wf_int_iff _ _).1 h;obtain⟨n,rfl⟩:=Int.eq_ofNat_of_zero_le b1.1;exact⟨n,rfl,by omega⟩
end
section
theorem MdAt.wide {W0 W w:World} {T:Nat->Nat} {A:Adr} {ap stg M C S ring id:Nat} {lazy:Bool} {s:BaySt} (h:MdAt W w T A ap stg M C S ring lazy id s) (hb:Below W0.heap.size W0 W):MdAt W0 w T A ap stg M C S ring lazy id s:=by
  have hz:=hb.size;obtain⟨x1,x2,x3,x4,x5,x6⟩:=h.hi;exact⟨h.rw,h.ar,h.st,h.ta,h.ts,h.blank,⟨by omega,by omega,by omega,by omega,by omega,by omega⟩,fun q hq=>h.old q (by omega),hb.trans (h.bel.mono hz)⟩
theorem slice_errs:SliceOf Tryz.prog 42 34 1 2:=SliceOf.mk' (z:=.int .u16 0) Tryz.underlying42 (by decide) (by kernel_rfl) rfl
structure SdAt (B:Nat) (w:World) (u:Value) (k cd:Nat) (sb:List Bx):Prop where
  box:∀x∈sb,At w x.1 x.2.1 x.2.2/\B≤x.1/\x.2.2=34/\u.ownBlock=some x.1
  row:∀W',(∀x∈sb,At W' x.1 x.2.1 x.2.2)->W'.ownsRow B 34 1 u k (List.replicate k (.int .u16 cd))
  own:∀q,u.ownBlock=some q->∃x∈sb,x.1=q
theorem sd_of {B:Nat} {w:World} {u:Value} {k cd:Nat} (h:w.ownsRow B 34 1 u k (List.replicate k (.int .u16 cd))):∃sb,SdAt B w u k cd sb:=by
  rcases h.2 with ⟨rfl,h0⟩|⟨g,cap,cur,rfl,hb,hgt,hc,hm,hs,ht⟩
  · exact⟨[],fun x hx=>by simp at hx,fun W' _=>⟨h.1,.inl ⟨rfl,h0⟩⟩,fun q hq=>by simp[Value.ownBlock]at hq⟩
  · refine⟨[(g,cur,34)],fun x hx=> ?_,fun W' hW=>⟨h.1,.inr ⟨g,cap,cur,rfl,hb,hW _ List.mem_cons_self,hc,hm,hs,ht⟩⟩,fun q hq=>⟨_,List.mem_cons_self,Option.some.inj hq⟩⟩
    rw[List.mem_singleton]at hx;subst hx;exact⟨hgt,hb,rfl,rfl⟩
section
variable {W0 W2 w w':World} {A:Adr} {ap stg M C S ring id ev a b k cd:Nat} {lazy:Bool} {g:Int} {X:Nat->Sec} {Q:BaySt->Prop} {L1 sb:List Bx} {u u':Value} {T:Nat->Nat} {s:BaySt}
theorem SdAt.below {B:Nat} (h:SdAt B w u k cd sb) (hb:Below w.heap.size w w'):SdAt B w' u k cd sb:=
  ⟨fun x hx=>⟨(h.box x hx).1.below hb (h.box x hx).1.lt,(h.box x hx).2⟩,h.row,h.own⟩
theorem so_begin (hg:geoIs M C S=true) (h5:5≤ring) (h6:ring≤2048) (h:MdAt W2 w T A ap stg M C S ring lazy id s) (hb:Below W0.heap.size W0 W2) (sd:SdAt W0.heap.size W2 u k cd sb):So W0 w A ap stg M C S ring lazy id (-1) 1 zD 80000 80000 anyQ sb/\W0.heap.size≤ap/\W0.heap.size≤stg/\∀x∈sb,x.1≠ap/\x.1≠stg:=by
  obtain⟨k1,k2⟩:=(h.wide hb).ab hg h5 h6;have hz:=hb.size;obtain⟨x1,x2,x3,x4,x5,x6⟩:=h.hi;refine⟨⟨T,_,_,⟨k1.ln,fun x hx=> ?_⟩,k2,fun _ _=>rfl,trivial⟩,by omega,by omega,fun x hx=> ?_⟩
  · simp only [List.mem_cons]at hx
    rcases hx with e|e|e
    · exact k1.box x (by rw[e];exact List.mem_cons_self)
    · exact k1.box x (by rw[e];exact List.mem_cons_of_mem _ List.mem_cons_self)
    · obtain⟨m1,m2,m3,m4⟩:=sd.box x e
      exact⟨m1.below h.bel m1.lt,h.old _ m1.lt,by rw[m3];decide,by rw[m3];decide,by rw[m3];decide,by rw[m3];decide⟩
  · have:=(sd.box x hx).1.lt
    omega
theorem So.said (h:So W0 w A ap stg M C S ring lazy id g ev X a b Q (L1++sb)) (sd:SdAt W0.heap.size w u k cd sb) (h1:∀x∈L1,x.2.2≠34)
    (hr:w'.ownsRow W0.heap.size 34 1 u' (k+1) (List.replicate k (.int .u16 cd)++ [.int .u16 cd])) (hv:u'.ownBlock=u.ownBlock\/u'.ownBlock=some w.heap.size) (hc:Chg (fun q=>u.ownBlock=some q) w w'):∃sb',SdAt W0.heap.size w' u' (k+1) cd sb'/\So W0 w' A ap stg M C S ring lazy id g ev X a b Q (L1++sb'):=by
  rw[<-List.replicate_succ']at hr;obtain⟨sb',sd'⟩:=sd_of hr;obtain⟨T,R,V,h2,h3⟩:=h;have hS:∀q,u.ownBlock=some q->∃cs,At w q cs 34/\T q=0/\W0.heap.size≤q:=fun q hq=>by
    obtain⟨x,hx,rfl⟩:=sd.own q hq;obtain⟨m1,m2,m3,m4⟩:=sd.box x hx;rw[m3]at m1;exact⟨_,m1,(h2.box x (List.mem_cons_of_mem _ (List.mem_cons_of_mem _ (List.mem_append_right _ hx)))).2.1,m2⟩
  obtain⟨lg,vw,Y,hrw⟩:=h2.ln.rw;have hr':RwIn w' T A R lg vw Y:=hrw.keepS hc (fun q hq=>by obtain⟨cs,m1,m2,m3⟩:=hS q hq;exact m2) (fun q hq=>by obtain⟨cs,m1,m2,m3⟩:=hS q hq;exact hrw.offAt m1 (by decide) (by decide) (by decide) (by decide)) (fun q hq=>by obtain⟨cs,m1,m2,m3⟩:=hS q hq;exact hrw.wOff m1 (by decide)) (fun x hx q hq=>by obtain⟨cs,m1,m2,m3⟩:=hS q hq;exact hrw.xOff m1 (by decide) x hx);have hz:=h2.ln.bel.size;have hln:Ln W0 w' T A R:=⟨⟨lg,vw,Y,hr'⟩,h2.ln.old,h2.ln.bel.trans (hc.below fun q hq=>⟨by omega,fun e=>by obtain⟨cs,m1,m2,m3⟩:=hS q e;omega⟩)⟩;refine⟨sb',sd',T,R,V,⟨hln,fun x hx=> ?_⟩,h3⟩;have hold:∀x,x∈arB ap stg A M C S ring lazy id ev ev::stB stg g M::(L1++sb)->x.2.2≠34->At w' x.1 x.2.1 x.2.2/\T x.1=0/\116≠x.2.2/\3≠x.2.2/\148≠x.2.2/\190≠x.2.2:=fun x hx ht=>by
    obtain⟨m1,m2⟩:=h2.box x hx;refine⟨m1.mod hc (fun e=> ?_),m2⟩;obtain⟨cs,q1,q2,q3⟩:=hS _ e;exact ht (at_type m1 q1)
  simp only [List.mem_cons,List.mem_append]at hx;rcases hx with e|e|e|e
  · exact hold x (by rw[e];exact List.mem_cons_self) (by rw[e];dsimp only;decide)
  · exact hold x (by rw[e];exact List.mem_cons_of_mem _ List.mem_cons_self) (by rw[e];dsimp only;decide)
  · exact hold x (List.mem_cons_of_mem _ (List.mem_cons_of_mem _ (List.mem_append_left _ e))) (h1 x e)
  · obtain⟨m1,m2,m3,m4⟩:=sd'.box x e
    refine⟨m1,?_,by rw[m3];decide,by rw[m3];decide,by rw[m3];decide,by rw[m3];decide⟩;rcases hv with hv|hv
    · rw[hv]at m4
      obtain⟨y,hy,he⟩:=sd.own _ m4;rw[<-he];exact(h2.box y (List.mem_cons_of_mem _ (List.mem_cons_of_mem _ (List.mem_append_right _ hy)))).2.1
    · rw[hv]at m4
      exact h2.ln.virg _ (by rw[<-Option.some.inj m4];exact Nat.le_refl _)
end
end
theorem arrayRefuses_main (mm rr fl:Nat) (vl va:Value) (us us2:List (Int×List UInt8)) (W:World) (hm:mm<256) (hr:rr<256) (hfl:fl<256) (hvl:PutSeg W vl us) (hva:PutSeg W va us2):
    Calls Tryz.prog 4 #[.int .u8 mm,.int .u8 rr,vl,va,.int .u8 fl] W fun e w'=>e=.returned (.bool true)/\Below W.heap.size W w':=by
  have eM:(mm:Int)%6+3=((mm%6+3:Nat):Int):=by omega
  have eR:(rr:Int)%60+5=((rr%60+5:Nat):Int):=by omega
  have hM3:3≤mm%6+3/\mm%6+3≤8:=by omega
  have hR5:5≤rr%60+5/\rr%60+5≤64:=by omega
  generalize mm%6+3=M at*;generalize rr%60+5=ring at*;have hg:geoIs (M:Int) ((2:Nat):Int) ((3:Nat):Int)=true:=(Zam _ _ _).2 ⟨by omega,by omega,by omega,by omega,by omega,by omega⟩;obtain⟨n,hn⟩:∃n,n=3*2*(M-1):=⟨_,rfl⟩;have hn1:1≤n/\n≤70:=by omega
  have HKN:Hid (∀w,Calls Tryz.prog 8 #[] w fun e w'=>e=.returned (.bool true)/\Below w.heap.size w w'):=fun w=>a17_known w
  obtain⟨pa,pc,rfl⟩:=hvl.shape;obtain⟨qa,qc,rfl⟩:=hva.shape;have hB1:Below W.heap.size W (W.alloc (.cells #[.int .i64 M,.int .i64 2,.int .i64 3] 26)):=(Below.refl _ _).alloc (Nat.le_refl _) _;have HB1:=Lib.hid hB1;have HG1:=Lib.hid (At.new W #[.int .i64 M,.int .i64 2,.int .i64 3] 26);have hsz1:(W.alloc (.cells #[.int .i64 M,.int .i64 2,.int .i64 3] 26)).heap.size=W.heap.size+1:=Zaa _ _;have HSZ1:=Lib.hid hsz1;clear hB1 hsz1;by_cases h300:300<us.length\/300<us2.length
  · have hd:decide ((300:Int)<(us.length:Int))=true\/decide ((300:Int)<(us.length:Int))=false/\decide ((300:Int)<(us2.length:Int))=true:=by
      by_cases e:300<us.length
      · exact .inl (decide_eq_true (by omega))
      · exact .inr ⟨decide_eq_false (by omega),decide_eq_true (by omega)⟩
    clear hg hvl hva hn hn1 h300;rcases hd with hd|⟨hd,hd2⟩
    all_goals
      go_enter Tryz.func4,Tryz.ntmps4
      go_wp2_with (go_at_call 8;(with_reducible refine(HKN.out _).mono ?_);rintro e w1 ⟨rfl,hb1⟩;have HB2:=Lib.hid (HB1.out.trans (hb1.mono HB1.out.size));clear hb1)
      go_ret
      exact⟨rfl,HB2.out⟩
  have hu1:us.length≤300:=by omega
  have hu2:us2.length≤300:=by omega
  have hd:decide ((300:Int)<(us.length:Int))=false:=decide_eq_false (by omega);have hd2:decide ((300:Int)<(us2.length:Int))=false:=decide_eq_false (by omega);have HBN:Hid (∀w v B,w.ownsRow B 3 1 v (rszL M 6 ring).length (kcells (rszL M 6 ring))->Calls Tryz.prog 14 #[v] w fun e w'=>∃b T,e=.returned (.tuple #[.pointer (some ⟨b,0,none⟩),.int .u16 0])/\BayAt w' T b (rBay M (3*2) ring)/\Below w.heap.size w w'/\∀q,q<w.heap.size->T q=0):=fun w v B hv=>(Zvx (rszL M 6 ring) v B w hv (by rw[Zby];omega) (by rw[Zby];omega) (fun x hx=>(Zq7 (by omega) (by omega) x hx).2)).mono fun e w' ⟨b,k1,T,k2,k3,k4,k5⟩=>⟨b,T,k1,k2,k5,k3⟩
  have HCR:Hid (∀w0 w T b lz,BayAt w T b (rBay M (3*2) ring)->Below w0.heap.size w0 w->(∀q,q<w0.heap.size->T q=0)->Calls Tryz.prog 15 #[.pointer (some ⟨b,0,none⟩),.int .u64 1,.agg #[.int .i64 M,.int .i64 2,.int .i64 3],.int .i64 ring,.bool lz] w fun e w'=>∃ap stg A T' s,e=.returned (.tuple #[.pointer (some ⟨ap,0,none⟩),.int .u16 0])/\A.b=b/\MdAt w0 w' T' A ap stg M 2 3 ring lz 1 s):=fun w0 w T b lz h1 h2 h3=>(ar_create (M:=M) (C:=2) (S:=3) (ring:=ring) h1 lz hg hR5.1 (by omega) (id:=1) (by omega)).mono fun e w' h=>CrPost.md h h3 h2
  obtain⟨cd,hcd⟩:∃cd,wcode M 2 3 ring us=cd:=⟨_,rfl⟩;have HBG:Hid (∀W0 W2 w T A ap stg lz s u k sb,MdAt W2 w T A ap stg M 2 3 ring lz 1 s->Below W0.heap.size W0 W2->SdAt W0.heap.size W2 u k cd sb->So W0 w A ap stg M 2 3 ring lz 1 (-1) 1 zD 80000 80000 anyQ sb/\W0.heap.size≤ap/\W0.heap.size≤stg/\∀x∈sb,x.1≠ap/\x.1≠stg):=fun W0 W2 w T A ap stg lz s u k sb h1 h2 h3=>so_begin hg hR5.1 (by omega) h1 h2 h3
  have HWA:Hid (∀W0 w A ap stg lz g ev X L,PutSeg W0 (.slice qa us2.length qc) us2->So W0 w A ap stg M 2 3 ring lz 1 g ev X 80000 80000 anyQ L->Calls Tryz.prog 11 #[.pointer (some ⟨ap,0,none⟩),.slice qa us2.length qc] w fun e w'=>∃c X',e=.returned (.int .u16 c)/\So W0 w' A ap stg M 2 3 ring lz 1 g ev X' 1080000 90000 anyQ L):=fun W0 w A ap stg lz g ev X L hp h=>(so_write h ⟨by omega,by omega⟩ _ us2 (.inr hp) hR5.1).mono fun e w' ⟨k1,k2⟩=>⟨_,_,k1,(k2.imp fun _ _=>trivial).mono (by omega) (by omega)⟩
  have HFA:Hid (∀W0 w A ap stg lz X L k,k<M->W0.heap.size≤ap->W0.heap.size≤stg->(∀x∈L,x.1≠ap/\x.1≠stg)->So W0 w A ap stg M 2 3 ring lz 1 (-1) 1 X 1080000 90000 anyQ L->Calls Tryz.prog 16 #[.pointer (some ⟨ap,0,none⟩),.int .i64 (k:Nat)] w fun e w'=>e=.returned (.int .u16 0)/\So W0 w' A ap stg M 2 3 ring lz 1 (k:Int) 2 X 2000000 100000 anyQ L):=fun W0 w A ap stg lz X L k hk h1 h2 h3 h=>(so_fail h h1 h2 h3 hk ⟨by omega,by omega⟩ ⟨by omega,by omega⟩ ⟨hR5.1,by omega⟩ (by omega)).mono fun e w' ⟨k1,k2⟩=>⟨k1,k2.mono (by omega) (by omega)⟩
  have HC1:Hid (∀W0 w A ap stg lz g ev X L,So W0 w A ap stg M 2 3 ring lz 1 g ev X 2000000 100000 anyQ L->Calls Tryz.prog 17 #[.pointer (some ⟨A.b,0,none⟩)] w fun e w'=>∃c0 c1 c2,e=.returned (.agg #[.int .i64 c0,.int .i64 c1,.int .i64 c2])/\So W0 w' A ap stg M 2 3 ring lz 1 g ev X 2000000 100000 (wrQ c1 c2) L):=fun W0 w A ap stg lz g ev X L h=>(so_counts h).mono fun e w' ⟨c0,c1,c2,k1,k2⟩=>⟨c0,c1,c2,k1,k2.imp fun s hs=>⟨hs.2.2.1,hs.2.2.2⟩⟩
  have HC2:Hid (∀W0 w A ap stg lz g ev X a b L c1 c2,So W0 w A ap stg M 2 3 ring lz 1 g ev X a b (wrQ c1 c2) L->Calls Tryz.prog 17 #[.pointer (some ⟨A.b,0,none⟩)] w fun e w'=>∃c0,e=.returned (.agg #[.int .i64 c0,.int .i64 c1,.int .i64 c2])/\So W0 w' A ap stg M 2 3 ring lz 1 g ev X a b (cntQ c0 c1 c2) L):=fun W0 w A ap stg lz g ev X a b L c1 c2 h=>(so_counts h).mono fun e w' ⟨c0,d1,d2,k1,k2⟩=>by
    obtain⟨T,R,V,h1,h2,h3,h4,h5⟩:=k2;obtain⟨q1,q2⟩:=h4;obtain⟨p0,p1,p2⟩:=h5;rw[q1]at p1;rw[q2]at p2;subst p1;subst p2;exact⟨c0,k1,T,R,V,h1,h2,h3,p0,q1,q2⟩
  have HC3:Hid (∀W0 w A ap stg lz g ev X a b L c0 c1 c2,So W0 w A ap stg M 2 3 ring lz 1 g ev X a b (cntQ c0 c1 c2) L->Calls Tryz.prog 17 #[.pointer (some ⟨A.b,0,none⟩)] w fun e w'=>e=.returned (.agg #[.int .i64 c0,.int .i64 c1,.int .i64 c2])/\So W0 w' A ap stg M 2 3 ring lz 1 g ev X a b (cntQ c0 c1 c2) L):=fun W0 w A ap stg lz g ev X a b L c0 c1 c2 h=>(so_counts h).mono fun e w' ⟨d0,d1,d2,k1,k2⟩=>by
    obtain⟨T,R,V,h1,h2,h3,h4,h5⟩:=k2;obtain⟨q0,q1,q2⟩:=h4;obtain⟨p0,p1,p2⟩:=h5;rw[q0]at p0;rw[q1]at p1;rw[q2]at p2;subst p0;subst p1;subst p2;exact⟨k1,T,R,V,h1,h2,h3,q0,q1,q2⟩
  have HBK:Hid (∀W0 w A ap stg lz g ev X a b Q L,So W0 w A ap stg M 2 3 ring lz 1 g ev X a b Q L->Calls Tryz.prog 9 #[.pointer (some ⟨ap,0,none⟩)] w fun e w'=>e=.returned (.int .i64 n)/\So W0 w' A ap stg M 2 3 ring lz 1 g ev X a b Q L):=fun W0 w A ap stg lz g ev X a b Q L h=>(so_blocks h).mono fun e w' ⟨k1,k2⟩=>⟨by rw[k1,hn],h.below k2⟩
  have HRA:Hid (∀W0 w A ap stg lz g ev X a b Q L,(∀s c,Q s->Q (s.ticks 0 c))->a≤10000000->b≤200000->So W0 w A ap stg M 2 3 ring lz 1 g ev X a b Q L->Calls Tryz.prog 12 #[.pointer (some ⟨ap,0,none⟩),.int .i64 0,.int .i64 n] w fun e w'=>∃v bx,e=.returned (.tuple #[v,.int .u16 0])/\(∀W',At W' bx.1 bx.2.1 bx.2.2->Seg W' v (flatD X n))/\So W0 w' A ap stg M 2 3 ring lz 1 g ev X (a+2000000) b Q (bx::L)/\bx.2.2≠34):=fun W0 w A ap stg lz g ev X a b Q L hQ ha hb h=>by
    refine(kna_read h List.mem_cons_self (fun R V hD=>hD.1) ⟨by omega,by omega⟩ (fun i=>X (0+i)) 0 n (by omega) (by omega) (fun R V hD i hi=>hD.2.1 (0+i) (by omega))).mono ?_;rintro e w' ⟨v,bx,rfl,⟨k1,-,k2⟩,k3⟩;have hx0:(fun i=>X (0+i))=X:=funext fun i=>by rw[Nat.zero_add]
    rw[hx0]at k2;refine⟨v,bx,rfl,k2,?_,by rw[k1];decide⟩
    exact (k3.sub (L' := arB ap stg A M 2 3 ring lz 1 ev ev :: stB stg g M :: bx :: L) fun x hx => by
      simp only [List.mem_cons]at hx ⊢
      rcases hx with e|e|e|e
      · exact .inr (.inl e)
      · exact .inr (.inr (.inl e))
      · exact .inl e
      · exact .inr (.inr (.inr e))).imp fun R V ⟨m1,R1,c,m2,m3⟩=>⟨m1,m2.2.1,by rw[m3];exact hQ _ _ m2.2.2⟩
  have HWL:Hid (∀W0 w A ap stg lz g ev X a b Q L,PutSeg W0 (.slice pa us.length pc) us->a≤10000000->b≤200000->So W0 w A ap stg M 2 3 ring lz 1 g ev X a b Q L->Calls Tryz.prog 11 #[.pointer (some ⟨ap,0,none⟩),.slice pa us.length pc] w fun e w'=>e=.returned (.int .u16 cd)/\∃X',(cd≠0->X'=X)/\So W0 w' A ap stg M 2 3 ring lz 1 g ev X' (a+1000000) (b+10000) (fun s=>cd≠0->Q s) L):=fun W0 w A ap stg lz g ev X a b Q L hp ha hb h=>(so_write h ⟨by omega,by omega⟩ _ us (.inr hp) hR5.1).mono fun e w' ⟨k1,k2⟩=>by
    rw[hcd]at k1 k2;refine⟨k1,_,fun hc=> ?_,k2.mono (by omega) (by omega)⟩;unfold wLaid;rw[if_neg (by rw[hcd];exact hc)]
  have HLN:Hid (∀W0 w A ap stg lz g ev X a b Q L,So W0 w A ap stg M 2 3 ring lz 1 g ev X a b Q L->∀k,k<n->(X k).length=128):=fun W0 w A ap stg lz g ev X a b Q L h k hk=>h.len k (by omega)
  have HSB:Hid (∀u v w X,(∀k,k<n->(X k).length=128)->Seg w u (flatD X n)->Seg w v (flatD X n)->Calls Tryz.prog 13 #[u,v] w fun e w'=>e=.returned (.bool true)/\Below w.heap.size w w'):=fun u v w X hX h1 h2=>(Zyg u v _ _ w (by rw[Zxj hX];omega) (by rw[Zxj hX];omega) h1 h2).mono fun e w' ⟨x1,x2⟩=>⟨by rw[x1];simp,x2⟩
  have HVL:=Lib.hid hvl;have HVA:=Lib.hid hva;have hM8:M≤8:=hM3.2;clear hg hvl hva hn h300 hcd;go_enter Tryz.func4,Tryz.ntmps4;go_wp2_with (go_at_call 8;(with_reducible refine(HKN.out _).mono ?_);rintro e w1 ⟨rfl,hb1⟩;have HBK1:=Lib.hid (HB1.out.trans (hb1.mono HB1.out.size));have HGK1:=Lib.hid (HG1.out.below hb1 HG1.out.lt);have HSK1:Hid (W.heap.size+1≤w1.heap.size):=(by have h1:=HSZ1.out;have h2:=hb1.size;exact h1 ▸ h2);clear hb1);clear HKN HB1 HG1 HSZ1;go_loopw [13,14] (fun v q wr=>∃k:Nat,k≤M/\q=.int .i64 k/\wr.ownsRow w1.heap.size 3 1 v k (kcells (List.replicate k (1+6)))/\Below w1.heap.size w1 wr) (fun _ q _=>M-(intOf q).toNat);case atStart=>exact⟨0,by omega,rfl,World.ownsRow_nil _ _ _ _,Below.refl _ _⟩
  case round=>
    obtain⟨k,hk,rfl,hown,hbel⟩:=hrel;have HO:=Lib.hid hown;have HB:=Lib.hid hbel;have hA:=HGK1.out.below hbel HGK1.out.lt;have g0:=hA.cell 0;have hwz:w1.heap.size≤wr.heap.size:=hbel.size;clear hA hown hbel;by_cases hkM:k<M
    · have K1:Hid (k+1≤M):=hkM
      have hkm:(k:Int)<(M:Int):=by omega
      go_wp2_with (refine Zay rfl _ _ 41 3 8 rfl slice_intsC w1.heap.size _ k _ rfl HO.out _ rfl rfl (by unfold maxLen;omega) (by omega) hwz ?_;intro v' w5 hown5 hb5 hgr5);refine⟨⟨k+1,K1.out,by go_num,?_,HB.out.trans hb5⟩,by simp[intOf];omega⟩;rw[List.replicate_succ',Zhe];exact hown5
    · obtain rfl:M=k:=by omega
      have hkm:¬(M:Int)<(M:Int):=by omega
      go_upto_region 13 with (first
        | (refine Zay rfl _ _ 41 3 8 rfl slice_intsC w1.heap.size _ M _ rfl HO.out _ rfl rfl (by unfold maxLen; omega) (by omega) hwz ?_; intro vz w2 hown5 hb5 hgr5
           have HVZ:Hid (w2.ownsRow w1.heap.size 3 1 vz (rszL M 6 ring).length (kcells (rszL M 6 ring))):=(by rw[Zby];unfold rszL;rw[Zhe,show(((2+ring:Nat)):Int)=2+(ring:Int) by omega];exact hown5)
           have HB2:Hid (Below w1.heap.size w1 w2):=HB.out.trans hb5
           clear hown5 hb5 hgr5))
      have HG2:=Lib.hid (HGK1.out.below HB2.out HGK1.out.lt);have HBW:Hid (Below W.heap.size W w2):=HBK1.out.trans (HB2.out.mono HBK1.out.size);have HVL2:=Lib.hid (HVL.out.below HBW.out);have HVA2:=Lib.hid (HVA.out.below HBW.out);have HW12:Hid (w1.heap.size≤w2.heap.size):=HB2.out.size;have HW64:Hid (∀x:Nat,x<256->Go.RowKit.wrap64 (x:Int)=(x:Int)):=fun x hx=>IntWalk.wrap64_in _ ⟨by omega,by omega⟩
      have HFW:=Lib.hid (HW64.out fl hfl);have HFW':Hid (IntKind.i64.wrap (fl:Int)=(fl:Int)):=(IntWalk.i64_left _).trans HFW.out;have hMz:¬(M:Int)=0:=by omega
      have hMz':¬M=0:=by omega
      have HGN:Hid (fl%M<M):=Nat.mod_lt _ (by omega);have HKW:Hid (Go.RowKit.wrap64 ((fl%M:Nat):Int)=((fl%M:Nat):Int)):=by
        have hkn:fl%M<M:=HGN.out;generalize fl%M=kk at hkn ⊢;exact IntWalk.wrap64_in _ ⟨by omega,by omega⟩
      have HGT:Hid ((fl:Int).tmod (M:Int)=((fl%M:Nat):Int)):=(Int.tmod_eq_emod_of_nonneg (Int.natCast_nonneg _)).trans (Int.natCast_emod fl M).symm;clear HGK1 HBK1 HSK1 HB HO g0 hwz hkM hk hkm HB2 hm hr eM eR;go_loopw [15,16] (fun u q wr=>∃k:Nat,k≤3/\q=.int .i64 k/\wr.ownsRow w2.heap.size 34 1 u k (List.replicate k (.int .u16 cd))/\Below w2.heap.size w2 wr) (fun _ q _=>3-(intOf q).toNat);case atStart=>exact⟨0,by omega,rfl,World.ownsRow_nil _ _ _ _,Below.refl _ _⟩
      case round=>
        obtain⟨k,hk,rfl,hown,hbel⟩:=hrel;obtain⟨sb,hsd⟩:=sd_of hown;have HSD:=Lib.hid hsd;have HB:=Lib.hid hbel;have HVR:Hid (wr.ownsRow w1.heap.size 3 1 vz (rszL M 6 ring).length (kcells (rszL M 6 ring))):=Zaf HVZ.out hbel (Nat.le_refl _);have HGR:=Lib.hid (HG2.out.below hbel HG2.out.lt);have HGX:Hid (∀w,Below w2.heap.size w2 w->w.cell? ⟨W.heap.size,0,none⟩=some (.int .i64 M)/\w.cell? ⟨W.heap.size,1,none⟩=some (.int .i64 2)/\w.cell? ⟨W.heap.size,2,none⟩=some (.int .i64 3)):=fun w h=>by
          have h:=HG2.out.below h HG2.out.lt;exact⟨h.cell 0,h.cell 1,h.cell 2⟩
        have HRW:=Lib.hid hown;clear hown hbel hsd;rcases (show k=0\/k=1\/k=2\/k=3 by omega)with rfl|rfl|rfl|rfl
        focus
          rw[show((0:Nat):Int)=0 from rfl]
          go_upto_region 27 with (first
            | (go_at_call 14; (with_reducible refine (HBN.out wr vz w1.heap.size HVR.out).mono ?_); rintro e w3 ⟨b, T, rfl, hba, hbb, hbt⟩
               have HBA:=Lib.hid hba
               have HBB:=Lib.hid hbb
               have HBT:=Lib.hid hbt
               obtain⟨c0,c1,c2⟩:=HGX.out w3 (HB.out.trans (hbb.mono HB.out.size))
               clear hba hbb hbt)
            | (go_at_call 15; (with_reducible refine (HCR.out wr w3 T b false HBA.out HBB.out HBT.out).mono ?_); rintro e w4 ⟨ap, stg, A, T', s, rfl, rfl, hmd⟩
               obtain⟨hs4,hh1,hh2,hh3⟩:=HBG.out w2 wr w4 T' A ap stg false s _ _ sb hmd HB.out HSD.out
               have HS4:=Lib.hid hs4
               have HHI:Hid (w2.heap.size≤ap/\w2.heap.size≤stg/\∀x∈sb,x.1≠ap/\x.1≠stg):=⟨hh1,hh2,hh3⟩
               clear hmd hs4 hh1 hh2 hh3))
          obtain⟨wz,rfl⟩:∃wz,wz=w4:=⟨_,rfl⟩
          have HZ:Hid (∃lz g ev X,So w2 wz A ap stg M 2 3 ring lz 1 g ev X 2000000 100000 anyQ sb):=⟨_,_,_,_,HS4.out.mono (by omega) (by omega)⟩
          have HKN1:Hid (∃kk:Nat,kk=0+1/\kk≤3):=⟨1,rfl,by omega⟩
          clear c0 c1 c2
        rotate_left;focus
          rw[show((1:Nat):Int)=1 from rfl]
          go_upto_region 27 with (first
            | (go_at_call 14; (with_reducible refine (HBN.out wr vz w1.heap.size HVR.out).mono ?_); rintro e w3 ⟨b, T, rfl, hba, hbb, hbt⟩
               have HBA:=Lib.hid hba
               have HBB:=Lib.hid hbb
               have HBT:=Lib.hid hbt
               obtain⟨c0,c1,c2⟩:=HGX.out w3 (HB.out.trans (hbb.mono HB.out.size))
               clear hba hbb hbt)
            | (go_at_call 15; (with_reducible refine (HCR.out wr w3 T b true HBA.out HBB.out HBT.out).mono ?_); rintro e w4 ⟨ap, stg, A, T', s, rfl, rfl, hmd⟩
               obtain⟨hs4,hh1,hh2,hh3⟩:=HBG.out w2 wr w4 T' A ap stg true s _ _ sb hmd HB.out HSD.out
               have HS4:=Lib.hid hs4
               have HHI:Hid (w2.heap.size≤ap/\w2.heap.size≤stg/\∀x∈sb,x.1≠ap/\x.1≠stg):=⟨hh1,hh2,hh3⟩
               clear hmd hs4 hh1 hh2 hh3)
            |(go_at_call 11;(with_reducible refine(HWA.out w2 _ A ap stg _ _ _ _ _ HVA2.out HS4.out).mono ?_);rintro e w5 ⟨cc,X5,rfl,hs5⟩;have HS5:=Lib.hid hs5;clear hs5))
          obtain⟨wz,rfl⟩:∃wz,wz=w5:=⟨_,rfl⟩
          have HZ:Hid (∃lz g ev X,So w2 wz A ap stg M 2 3 ring lz 1 g ev X 2000000 100000 anyQ sb):=⟨_,_,_,_,HS5.out.mono (by omega) (by omega)⟩
          clear c0 c1 c2
        rotate_left;focus
          rw[show((2:Nat):Int)=2 from rfl]
          go_upto_region 24 with (first
            | (go_at_call 14; (with_reducible refine (HBN.out wr vz w1.heap.size HVR.out).mono ?_); rintro e w3 ⟨b, T, rfl, hba, hbb, hbt⟩
               have HBA:=Lib.hid hba
               have HBB:=Lib.hid hbb
               have HBT:=Lib.hid hbt
               obtain⟨c0,c1,c2⟩:=HGX.out w3 (HB.out.trans (hbb.mono HB.out.size))
               clear hba hbb hbt)
            | (go_at_call 15; (with_reducible refine (HCR.out wr w3 T b false HBA.out HBB.out HBT.out).mono ?_); rintro e w4 ⟨ap, stg, A, T', s, rfl, rfl, hmd⟩
               obtain⟨hs4,hh1,hh2,hh3⟩:=HBG.out w2 wr w4 T' A ap stg false s _ _ sb hmd HB.out HSD.out
               have HS4:=Lib.hid hs4
               have HHI:Hid (w2.heap.size≤ap/\w2.heap.size≤stg/\∀x∈sb,x.1≠ap/\x.1≠stg):=⟨hh1,hh2,hh3⟩
               clear hmd hs4 hh1 hh2 hh3)
            |(go_at_call 11;(with_reducible refine(HWA.out w2 _ A ap stg _ _ _ _ _ HVA2.out HS4.out).mono ?_);rintro e w5 ⟨cc,X5,rfl,hs5⟩;have HS5:=Lib.hid hs5;clear hs5))
          clear c0 c1 c2
          have c0:w5.cell? ⟨W.heap.size,0,none⟩=some (.int .i64 M):=(HGX.out w5 HS5.out.bel).1
          have HFK:=Lib.hid (HFA.out w2 w5 A ap stg false _ sb (fl%M) HGN.out HHI.out.1 HHI.out.2.1 HHI.out.2.2 HS5.out)
          have hgt:=HGT.out
          have hkw:=HKW.out
          have hfw:=HFW.out
          have hfw':=HFW'.out
          generalize fl%M=kk at*
          go_upto_region 25 with (go_at_call 16;(with_reducible refine HFK.out.mono ?_);rintro e w6 ⟨rfl,hs6⟩;have HS6:=Lib.hid hs6;clear hs6 c0)
          clear hgt hkw hfw hfw'
          go_upto_region 27 with fail
          obtain⟨wz,rfl⟩:∃wz,wz=w6:=⟨_,rfl⟩
          have HZ:Hid (∃lz g ev X,So w2 wz A ap stg M 2 3 ring lz 1 g ev X 2000000 100000 anyQ sb):=⟨_,_,_,_,HS6.out⟩
        rotate_left
        · rw[show((3:Nat):Int)=3 from rfl]
          obtain⟨g3,cp3,rfl,-,-⟩:=Zas HRW.out (by omega);have e0:wr.cell? ⟨g3,0,none⟩=some (.int .u16 cd):=HRW.out.cellAt 0 (by omega);have e1:wr.cell? ⟨g3,1,none⟩=some (.int .u16 cd):=HRW.out.cellAt 1 (by omega);have e2:wr.cell? ⟨g3,2,none⟩=some (.int .u16 cd):=HRW.out.cellAt 2 (by omega);go_upto_region 37 with fail
          go_quiet (fail);go_wp2;go_ret;exact⟨rfl,below_drewN (HBW.out.trans (HB.out.mono HBW.out.size)) _⟩
        all_goals
          obtain⟨lz,g,ev,X,hz⟩:=HZ.out
          have HZ0:=Lib.hid hz
          have hX:=HLN.out _ _ _ _ _ _ _ _ _ _ _ _ _ hz
          have HX:=Lib.hid hX
          have HQW:Hid (∀c1 c2 s c,wrQ c1 c2 s->wrQ c1 c2 (s.ticks 0 c)):=fun c1 c2 s c hq=>⟨by rw[Zbo _ _ _ _ (by decide)];exact hq.1,by rw[Zbo _ _ _ _ (by decide)];exact hq.2⟩
          have HAB:Hid (2000000≤10000000/\100000≤200000):=⟨by omega,by omega⟩
          clear hz HZ hX HBN HCR HBG HWA HFA HLN HVA2 HGN HKW HGT HFW HFW' HW64 HGX HGR HVR HBA HBB HBT HS4
          try clear HS5
          try clear HS6
          go_upto_region 29 with (first
            | (go_at_call 17; (with_reducible refine (HC1.out w2 wz A ap _ _ _ _ _ _ HZ0.out).mono ?_); rintro e w11 ⟨c0, c1, c2, rfl, hs11⟩
               have HS11:=Lib.hid (hs11.push #[.int .i64 c0,.int .i64 c1,.int .i64 c2] 50 (by decide))
               clear hs11)
            |(go_at_call 9;(with_reducible refine(HBK.out w2 _ A ap _ _ _ _ _ _ _ _ _ HS11.out).mono ?_);rintro e w12 ⟨rfl,hs12⟩;have HS12:=Lib.hid hs12;clear hs12)
            |(go_at_call 12;(with_reducible refine(HRA.out w2 _ A ap _ _ _ _ _ _ _ _ _ (HQW.out c1 c2) HAB.out.1 HAB.out.2 HS12.out).mono ?_);rintro e w13 ⟨v13,bx,rfl,hsg,hs13,hbe⟩;have HS13:=Lib.hid hs13;have HSG:=Lib.hid hsg;have HBE:=Lib.hid hbe;clear hs13 hsg hbe))
          obtain⟨ca,hca⟩:∃ca,ca=w11.heap.size:=⟨_,rfl⟩
          rw[<-hca]at HS11 HS12 HS13 ⊢
          clear hca HS11 HS12 HZ0
          have HWL1:=Lib.hid (fun w a b Q L=>HWL.out w2 w A ap stg lz g ev X a b Q L HVL2.out)
          have HAB2:Hid (2000000+2000000≤10000000/\100000≤200000):=⟨by omega,by omega⟩
          have HAB3:Hid (2000000+2000000+1000000≤10000000/\100000+10000≤200000):=⟨by omega,by omega⟩
          have hlen3:sb.length+0=sb.length:=rfl
          go_upto_region 31 with (first
            | (go_at_call 17; (with_reducible refine (HC2.out w2 w13 A ap _ _ _ _ _ _ _ _ c1 c2 HS13.out).mono ?_); rintro e w14 ⟨d0, rfl, hs14⟩
               have HS14:=Lib.hid (hs14.push #[.int .i64 d0,.int .i64 c1,.int .i64 c2] 50 (by decide))
               clear hs14)
            |(go_at_call 11;(with_reducible refine(HWL1.out _ _ _ _ _ HAB2.out.1 HAB2.out.2 HS14.out).mono ?_);rintro e w15 ⟨rfl,X',hx',hs15⟩;have HS15:=Lib.hid hs15;have HXX:=Lib.hid hx';clear hs15 hx'))
          obtain⟨cb,hcb⟩:∃cb,cb=w14.heap.size:=⟨_,rfl⟩
          rw[<-hcb]at HS14 HS15 ⊢
          clear hcb HS14
          have HSA:=Lib.hid (HS15.out.below ((Below.refl w15.heap.size w15).alloc (Nat.le_refl _) (.cells #[.int .u16 cd] 34)))
          have HSDA:Hid (SdAt w2.heap.size (w15.alloc (.cells #[.int .u16 cd] 34)) _ _ cd sb):=⟨fun x hx=>⟨HSA.out.has (by simp[hx]),(HSD.out.box x hx).2⟩,HSD.out.row,HSD.out.own⟩
          have HRWA:=Lib.hid (HSD.out.row (w15.alloc (.cells #[.int .u16 cd] 34)) (fun x hx=>(HSDA.out.box x hx).1))
          have HSZ:Hid (w2.heap.size≤(w15.alloc (.cells #[.int .u16 cd] 34)).heap.size):=HSA.out.bel.size
          have HL1:Hid (∀x∈ [(cb,#[.int .i64 d0,.int .i64 c1,.int .i64 c2],50),bx,(ca,#[.int .i64 c0,.int .i64 c1,.int .i64 c2],50)],x.2.2≠34):=fun x hx=>by
            simp only [List.mem_cons,List.not_mem_nil,or_false]at hx;rcases hx with rfl|rfl|rfl
            · dsimp only;decide
            · exact HBE.out
            · dsimp only;decide
          go_upto_region 32 with (first
            | (refine Zar rfl _ _ 42 34 1 2 rfl slice_errs w2.heap.size _ _ _ rfl HRWA.out ⟨w15.heap.size, 0, none⟩ 1 1 [.int .u16 cd] rfl rfl (Zvn _ _ _ _ (by first | rfl | simp)) (by intro u hu; simp at hu; subst hu; rfl) (by unfold maxLen; omega) (by omega) HSZ.out (by omega) ?_; intro uN w16 hrow hvb hch hkk
               obtain⟨sb',hsd',hs16⟩:=So.said (L1:= [(cb,#[.int .i64 d0,.int .i64 c1,.int .i64 c2],50),bx,(ca,#[.int .i64 c0,.int .i64 c1,.int .i64 c2],50)]) HSA.out HSDA.out HL1.out hrow hvb hch
               have HSD':=Lib.hid hsd'
               have HS16:=Lib.hid hs16
               clear hrow hvb hch hkk hsd' hs16))
          clear HSA HSDA HRWA HSZ HL1 HS15 HWL1 HAB2 HRW HSD
          have HQI:Hid (∀s c,(cd≠0->cntQ d0 c1 c2 s)->(cd≠0->cntQ d0 c1 c2 (s.ticks 0 c))\/True):=fun _ _ _=>.inr trivial
          by_cases hc0:cd=0
          · have hcz:(cd:Int)=0:=by omega
            have hcb:((cd:Int) !=0)=false:=by rw[hcz];rfl
            go_quiet (fail)
            clear hcz hcb
            have HS17:=Lib.hid ((HS16.out.below (below_drewN (Below.refl _ _) nq)).imp (Q':=anyQ) fun _ _=>trivial)
            generalize w16.drewN nq=w17 at*
            have HRD:=Lib.hid (fun w Q L hQ=>HRA.out w2 w A ap stg lz g ev X' _ _ Q L hQ HAB3.out.1 HAB3.out.2)
            have HAQ:Hid (∀s c,anyQ s->anyQ (s.ticks 0 c)):=fun _ _ _=>trivial
            go_upto_region 35 with (first
              |(go_at_call 9;(with_reducible refine(HBK.out w2 _ A ap _ _ _ _ _ _ _ _ _ HS17.out).mono ?_);rintro e w18 ⟨rfl,hs18⟩;have HS18:=Lib.hid hs18;clear hs18)
              |(go_at_call 12;(with_reducible refine(HRD.out _ _ _ HAQ.out HS18.out).mono ?_);rintro e w19 ⟨v19,by19,rfl,hsg,hs19,hbe⟩;have HS19:=Lib.hid hs19;clear hs19 hsg hbe))
            have hka:=HS19.out.has (x:=(ca,#[.int .i64 c0,.int .i64 c1,.int .i64 c2],50)) (by simp)
            have hkb:=HS19.out.has (x:=(cb,#[.int .i64 d0,.int .i64 c1,.int .i64 c2],50)) (by simp)
            have k1:=hka.cell 1
            have k2:=hkb.cell 1
            have hcz:(cd:Int)=0:=by omega
            have hrow:=HSD'.out.row w19 (fun x hx=>HS19.out.has (by simp[hx]))
            have HROW:=Lib.hid hrow
            have HBE19:=Lib.hid HS19.out.bel
            clear hka hkb hrow
            go_wp2
            clear k1 k2 hcz
            first
              |exact⟨⟨1,by omega,rfl,HROW.out,HBE19.out⟩,by simp[intOf]⟩
              |exact⟨⟨2,by omega,rfl,HROW.out,HBE19.out⟩,by simp[intOf]⟩
              |exact⟨⟨3,by omega,rfl,HROW.out,HBE19.out⟩,by simp[intOf]⟩
          · have hcb:((cd:Int) !=0)=true:=by simp;omega
            have hcz:¬(cd:Int)=0:=by omega
            have HS17:=Lib.hid (HS16.out.imp (Q':=cntQ d0 c1 c2) fun s hs=>hs hc0)
            have hxe:=HXX.out hc0
            subst hxe
            have HD17:=Lib.hid (HS17.out.below (Below.refl _ _).drew)
            have HCB:Hid (∀w a b Q,So w2 w A ap stg M 2 3 ring lz 1 g ev X' a b Q ([(cb,#[.int .i64 d0,.int .i64 c1,.int .i64 c2],50),bx,(ca,#[.int .i64 c0,.int .i64 c1,.int .i64 c2],50)]++sb')->w.cell? ⟨cb,0,none⟩=some (.int .i64 d0)/\w.cell? ⟨cb,1,none⟩=some (.int .i64 c1)/\w.cell? ⟨cb,2,none⟩=some (.int .i64 c2)):=fun w a b Q h=>by
              have hb:=h.has (x:=(cb,#[.int .i64 d0,.int .i64 c1,.int .i64 c2],50)) (by simp);exact⟨hb.cell 0,hb.cell 1,hb.cell 2⟩
            have HCB0:=Lib.hid (HCB.out _ _ _ _ HD17.out)
            go_region_held3 (fun w'=>w'.cell? ⟨cb,0,none⟩=some (.int .i64 d0)/\w'.cell? ⟨cb,1,none⟩=some (.int .i64 c1)/\w'.cell? ⟨cb,2,none⟩=some (.int .i64 c2))
              (first|with_reducible exact HCB0.out|with_reducible exact HCB1.out)
              (first
                | (go_at_call 17; (with_reducible refine (HC3.out w2 _ A ap _ _ _ _ _ _ _ _ d0 c1 c2 HD17.out).mono ?_); rintro e w17 ⟨rfl, hs17⟩
                   have HE17:=Lib.hid hs17
                   have HCB1:=Lib.hid (HCB.out _ _ _ _ hs17)
                   clear hs17))
            clear HCB HCB0 HCB1 HD17 HS17
            have HRD:=Lib.hid (fun w Q L hQ=>HRA.out w2 w A ap stg lz g ev X' _ _ Q L hQ HAB3.out.1 HAB3.out.2)
            have HQ3:Hid (∀s c,wrQ c1 c2 s->wrQ c1 c2 (s.ticks 0 c)):=HQW.out c1 c2
            have HF17:=Lib.hid (HE17.out.imp (Q':=wrQ c1 c2) fun s hs=>⟨hs.2.1,hs.2.2⟩)
            clear HE17
            go_upto_region 35 with (first
              |(go_at_call 9;(with_reducible refine(HBK.out w2 _ A ap _ _ _ _ _ _ _ _ _ HF17.out).mono ?_);rintro e w18 ⟨rfl,hs18⟩;have HS18:=Lib.hid hs18;clear hs18)
              |(go_at_call 12;(with_reducible refine(HRD.out _ _ _ HQ3.out HS18.out).mono ?_);rintro e w19 ⟨v19,by19,rfl,hsg,hs19,hbe⟩;have HS19:=Lib.hid hs19;have HSG19:=Lib.hid hsg;clear hs19 hsg hbe))
            have HS20:Hid (∀w,Below w19.heap.size w19 w->So w2 w A ap stg M 2 3 ring lz 1 g ev X' (2000000+2000000+1000000+2000000) (100000+10000) (wrQ c1 c2) (by19::([(cb,#[.int .i64 d0,.int .i64 c1,.int .i64 c2],50),bx,(ca,#[.int .i64 c0,.int .i64 c1,.int .i64 c2],50)]++sb'))):=fun w hb=>HS19.out.below hb
            have HC20:Hid (∀w,Below w19.heap.size w19 w->w.cell? ⟨ca,1,none⟩=some (.int .i64 c1)/\w.cell? ⟨cb,1,none⟩=some (.int .i64 c1)):=fun w hb=>by
              have h:=HS20.out w hb;exact⟨(h.has (x:=(ca,#[.int .i64 c0,.int .i64 c1,.int .i64 c2],50)) (by simp)).cell 1,(h.has (x:=(cb,#[.int .i64 d0,.int .i64 c1,.int .i64 c2],50)) (by simp)).cell 1⟩
            have q1:=HSG.out _ (HS19.out.has (x:=bx) (by simp))
            have q2:=HSG19.out _ (HS19.out.has (x:=by19) (by simp))
            have HSBX:=Lib.hid (HSB.out _ _ _ X' HX.out q1 q2)
            clear q1 q2
            go_wp2_with (go_at_call 13;(with_reducible refine HSBX.out.mono ?_);rintro e w20 ⟨rfl,hb20⟩;have HB20:=Lib.hid hb20;obtain⟨k1,k2⟩:=HC20.out _ hb20;clear hb20)
            clear k1 k2 hcz hcb
            have hrow:=HSD'.out.row w20 (fun x hx=>(HS20.out w20 HB20.out).has (by simp[hx]))
            have HROW:=Lib.hid hrow
            have HBE20:=Lib.hid (HS20.out w20 HB20.out).bel
            first
              |exact⟨⟨1,by omega,rfl,HROW.out,HBE20.out⟩,by simp[intOf]⟩
              |exact⟨⟨2,by omega,rfl,HROW.out,HBE20.out⟩,by simp[intOf]⟩
              |exact⟨⟨3,by omega,rfl,HROW.out,HBE20.out⟩,by simp[intOf]⟩
section
open Go.RowKit Go.ChangeShapes Go.WideShapes Go.ChangeAt Go.Deep
theorem aputs_of_trod {H:Type} {enc:TypeId×Value->H} {W:World} {base:Nat} {v:Value} {d:DataW H} {ps:List MemPlace}
    (hv:Value.okWide Tryz.prog W .any base 31 v) (h:DataW.Trod enc Tryz.prog W 0 (fun _=>true) true 31 v d ps) (hw:∀n∈d.weights Tryz.prog 31,n≤reachBytes):∃us,PutSeg W v us:=by
  obtain⟨a,len,cap,rfl⟩:=Go.WideShapes.okWide_slice Tryz.underlying31 hv;obtain⟨fuel,hf⟩:=h;exact Zi0 Tryz.underlying31 Tryz.underlying60 (by kernel_rfl) (by decide+kernel) rfl rfl (by kernel_rfl) (by kernel_rfl) Tryz.underlying3 Tryz.underlying36 Tryz.underlying5 (by kernel_rfl) (by kernel_rfl) (by simpa [Value.cells]using hf) hw
theorem arrayRefuses_walk {H:Type} (w:World) (a0:Int) (h0:(Lit.int .u8 a0).wf=true) (a1:Int) (h1:(Lit.int .u8 a1).wf=true)
    (enc:TypeId×Value->H) (base:Nat) (v:Value) (d:DataW H) (ps:List MemPlace) (hok:Value.okWide Tryz.prog w .any base 31 v) (h:DataW.Trod enc Tryz.prog w 0 (fun _=>true) true 31 v d ps) (hw:∀n∈d.weights Tryz.prog 31,n≤reachBytes)
    (enc':TypeId×Value->H) (base':Nat) (v':Value) (d':DataW H) (ps':List MemPlace) (hok':Value.okWide Tryz.prog w .any base' 31 v') (h':DataW.Trod enc' Tryz.prog w 0 (fun _=>true) true 31 v' d' ps') (hw':∀n∈d'.weights Tryz.prog 31,n≤reachBytes) (a4:Int) (h4:(Lit.int .u8 a4).wf=true):
    Calls Tryz.prog 4 #[.int .u8 a0,.int .u8 a1,v,v',.int .u8 a4] w fun e w'=>e=.returned (.bool true)/\Below w.heap.size w w':=by
  obtain⟨mm,rfl,k0⟩:=u8_nat h0;obtain⟨rr,rfl,k1⟩:=u8_nat h1;obtain⟨fl,rfl,k4⟩:=u8_nat h4;obtain⟨us,hb⟩:=aputs_of_trod hok h hw;obtain⟨us2,hb2⟩:=aputs_of_trod hok' h' hw';exact arrayRefuses_main mm rr fl v v' us us2 w k0 k1 k4 hb hb2
end
end Go.Proofs.YtmemlkmnhcealaaGreat
