
/- The walks of the ring: its iterator over spans, what collects it. -/
import Derived.Test.YtmemlkmnhcealaaGreatMrg9
import Derived.Shelf.Abstract
import Derived.Shelf.RegionOpen
import Derived.WalkSpells
import Derived.WalkLawsBesides
import Derived.OwnWalkIn
import Derived.TacticsInMore
import Derived.LoopNIn
import Derived.LoopIn
import Derived.RegionIn
import Derived.Lib.Hide
import Derived.Deep.QuietTactic
import Derived.BigQuiet
set_option linter.unusedVariables false
set_option maxRecDepth 100000
set_option maxHeartbeats 2000000
namespace Go.Proofs.YtmemlkmnhcealaaGreat
open Value renaming int→O
open IntKind renaming i64→Z
open Go.RowKit Go.Shelf
attribute [local go_sem] Oper.semAt_some
def spansL(size start n:Nat):List (Nat×Nat):=
 if n=0 then []else if n≤size-start then [(start,n)]else [(start,size-start),(0,n-(size-start))]
def encSpan(x:Nat×Nat):Value:=.agg #[O Z (x.1:Int),O Z (x.2:Int)]
theorem Zkj(W:World)(Bf Bn:Nat)(u v:Value):Chg (fun k=>k=Bf\/k=Bn) W ((W.setCell ⟨Bf,0,none⟩ u).setCell ⟨Bn,0,none⟩ v).drew:=
 (Zk (S:=fun k=>k=Bf\/k=Bn) (Zk (S:=fun k=>k=Bf\/k=Bn) (Zl _ _) ⟨Bf,0,none⟩ (.inl (.inl rfl)) _) ⟨Bn,0,none⟩ (.inl (.inr rfl)) _).drew
theorem Zq0(m gr B Br Bf Bn size start n:Nat)(tail used:Int)(w0:World)(hm:1≤m)(hsz:size≤2048)(hst:start<size)(hn:n≤size)
  (hgr:At w0 gr #[O Z size,O Z tail,O Z used] 190) (hr:At w0 Br #[.pointer (some ⟨gr,0,none⟩)] 143) (hf:At w0 Bf #[O Z start] 3) (hnn:At w0 Bn #[O Z n] 3)
  (lgr:gr<B) (lr:Br<B) (lf:Bf<B) (ln:Bn<B) (h1:gr≠Bf) (h2:gr≠Bn) (h3:Br≠Bf) (h4:Br≠Bn) (h5:Bf≠Bn):
  SeqW m Tryz.prog 274 #[.pointer (some ⟨Bn,0,none⟩),.pointer (some ⟨Br,0,none⟩),.pointer (some ⟨Bf,0,none⟩)] (fun x=> #[encSpan x]) (fun k=>k=Bf\/k=Bn) B (spansL size start n) w0:=by
 intro l J Jx W hW hJ hJx hY h0;have agr:=hgr.below hW lgr;have ar:=hr.below hW lr;have af:=hf.below hW lf;have an:=hnn.below hW ln;have cn:W.cell? ⟨Bn,0,none⟩=some (O Z n):=an.cell 0;have cr:W.cell? ⟨Br,0,none⟩=some (.pointer (some ⟨gr,0,none⟩)):=ar.cell 0;have cf:W.cell? ⟨Bf,0,none⟩=some (O Z start):=af.cell 0;have cs:W.cell? ⟨gr,0,none⟩=some (O Z size):=agr.cell 0;refine callsIn_of_wp Tryz.func274 rfl trivial ?_ rfl;simp only [Tryz.ntmps274,List.size_toArray,List.length_cons,List.length_nil,Nat.reduceAdd,Nat.reduceSub,Array.replicate_succ,Array.replicate_zero,List.push_toArray,List.append_toArray,List.nil_append,List.cons_append];rcases Nat.eq_zero_or_pos n with hz|hpos
 ·subst hz
  gi_wp2;refine wpIn_loop_rounds 1 ?_;rw[roundsIn_succ];gi_wp2;go_end0;exact⟨⟨_,rfl⟩,.inl h0⟩
 ·by_cases hone:n≤size-start
  ·have hsp:spansL size start n= [(start,n)]:=by unfold spansL;rw[Ze (by omega),Zf hone]
   obtain⟨fn,tmps,assign,body,hy,hR⟩:=hY [] (start,n) W.drew (by rw[hsp];exact List.prefix_refl _) (hJ _ _ _ h0 (Zl _ _).drew);simp only [encSpan]at hy;gi_wp2;refine wpIn_loop_rounds 2 ?_;rw[roundsIn_succ];gi_wp2;gi_region;gi_wp2;refine hR.mono ?_;rintro e W' (⟨rfl,hJ',hb'⟩|⟨rfl,hJx'⟩)
   ·have an':=an.drew.below hb' ln
    have af':=af.drew.below hb' lf;have cn':W'.cell? ⟨Bn,0,none⟩=some (O Z n):=an'.cell 0;have cf':W'.cell? ⟨Bf,0,none⟩=some (O Z start):=af'.cell 0;have fn':=an'.free 0;have ff':=af'.free 0;gi_wp2;gi_region;gi_wp2;rw[roundsIn_succ];gi_wp2;go_end0;refine⟨⟨_,rfl⟩,.inl ?_⟩;rw[hsp];exact hJ _ _ _ hJ' (Zkj _ _ _ _ _)
   ·gi_wp2
    exact bodyPost_ret (results_none rfl _ _ _) rfl ⟨⟨_,rfl⟩,.inr ⟨_,hJx'⟩⟩
  ·obtain⟨k1,hk1⟩:∃k1:Nat,k1=size-start:=⟨_,rfl⟩
   obtain⟨r,hr1⟩:∃r:Nat,r=n-k1:=⟨_,rfl⟩;have e1:(size:Int)-(start:Int)=(k1:Int):=by omega
   have e2:(n:Int)-(k1:Int)=(r:Int):=by omega
   have e3:k1<n:=by omega
   have e4:0<r:=by omega
   have e5:r≤size:=by omega
   have hsp:spansL size start n= [(start,k1),(0,r)]:=by unfold spansL;rw[Ze (by omega),Ze hone,hr1,hk1]
   have Hsp:=Lib.hid hsp;obtain⟨fn,tmps,assign,body,hy,hR⟩:=hY [] (start,k1) W.drew (by rw[hsp];exact⟨[(0,r)],rfl⟩) (hJ _ _ _ h0 (Zl _ _).drew);clear hsp hk1 hr1;simp only [encSpan]at hy;gi_wp2;refine wpIn_loop_rounds 3 ?_;rw[roundsIn_succ];gi_wp2;gi_region;gi_wp2;refine hR.mono ?_;rintro e W' (⟨rfl,hJ',hb'⟩|⟨rfl,hJx'⟩)
   ·have an':=an.drew.below hb' ln
    have af':=af.drew.below hb' lf;have cn':W'.cell? ⟨Bn,0,none⟩=some (O Z n):=an'.cell 0;have cf':W'.cell? ⟨Bf,0,none⟩=some (O Z start):=af'.cell 0;have fn':=an'.free 0;have ff':=af'.free 0;gi_wp2;gi_region;gi_wp2;have ar':=ar.drew.below hb' lr;have agr':=agr.drew.below hb' lgr;obtain⟨Wm,hWm⟩:∃Wm,Wm=((W'.setCell ⟨Bf,0,none⟩ (O Z 0)).setCell ⟨Bn,0,none⟩ (O Z (r:Int))).drew:=⟨_,rfl⟩;have hcm:Chg (fun k=>k=Bf\/k=Bn) W' Wm:=by rw[hWm];exact Zkj _ _ _ _ _
    have cnm:Wm.cell? ⟨Bn,0,none⟩=some (O Z (r:Int)):=by
     have h:At Wm Bn #[O Z (r:Int)] 3:=by rw[hWm];exact((an'.setOther (fun e=>h5 e.symm) _).set 0 _).drew
     exact h.cell 0
    have cfm:Wm.cell? ⟨Bf,0,none⟩=some (O Z 0):=by
     have h:At Wm Bf #[O Z 0] 3:=by rw[hWm];exact((af'.set 0 _).setOther h5 _).drew
     exact h.cell 0
    have fnm:Wm.frozen? ⟨Bn,0,none⟩=false:=by
     have h:At Wm Bn #[O Z (r:Int)] 3:=by rw[hWm];exact((an'.setOther (fun e=>h5 e.symm) _).set 0 _).drew
     exact h.free 0
    have ffm:Wm.frozen? ⟨Bf,0,none⟩=false:=by
     have h:At Wm Bf #[O Z 0] 3:=by rw[hWm];exact((af'.set 0 _).setOther h5 _).drew
     exact h.free 0
    have crm:Wm.cell? ⟨Br,0,none⟩=some (.pointer (some ⟨gr,0,none⟩)):=(ar'.mod hcm (by omega)).cell 0;have csm:Wm.cell? ⟨gr,0,none⟩=some (O Z size):=(agr'.mod hcm (by omega)).cell 0;have anm:At Wm Bn #[O Z (r:Int)] 3:=by rw[hWm];exact((an'.setOther (fun e=>h5 e.symm) _).set 0 _).drew
    have afm:At Wm Bf #[O Z 0] 3:=by rw[hWm];exact((af'.set 0 _).setOther h5 _).drew
    rw[<-hWm];clear hWm hy hR cn cf cr cs cn' cf' fn' ff' hb';have hJm:=hJ _ _ _ hJ' hcm;obtain⟨fn,tmps,assign,body,hy,hR⟩:=hY [(start,k1)] (0,r) Wm.drew (by rw[Hsp.out];exact List.prefix_refl _) (hJ _ _ _ hJm (Zl _ _).drew);simp only [encSpan,Int.natCast_zero]at hy;rw[roundsIn_succ];gi_wp2;gi_region;gi_wp2;refine hR.mono ?_;rintro e W'' (⟨rfl,hJ'',hb''⟩|⟨rfl,hJx''⟩)
    ·have an2:=anm.drew.below hb'' ln
     have af2:=afm.drew.below hb'' lf;have cn2:W''.cell? ⟨Bn,0,none⟩=some (O Z (r:Int)):=an2.cell 0;have cf2:W''.cell? ⟨Bf,0,none⟩=some (O Z 0):=af2.cell 0;have fn2:=an2.free 0;have ff2:=af2.free 0;gi_wp2;gi_region;gi_wp2;rw[roundsIn_succ];gi_wp2;go_end0;refine⟨⟨_,rfl⟩,.inl ?_⟩;rw[Hsp.out];exact hJ _ _ _ hJ'' (Zkj _ _ _ _ _)
    ·gi_wp2
     exact bodyPost_ret (results_none rfl _ _ _) rfl ⟨⟨_,rfl⟩,.inr ⟨_,hJx''⟩⟩
   ·gi_wp2
    exact bodyPost_ret (results_none rfl _ _ _) rfl ⟨⟨_,rfl⟩,.inr ⟨_,hJx'⟩⟩
end Go.Proofs.YtmemlkmnhcealaaGreat
