/- Parts of the proof, merged: Us1, Us7, Us8, Us11. -/
import Derived.Deep.RegionLaw
import Derived.Deep.RegionHeld3
import Derived.Test.YtkikkfjmggobpaaGreatDt15
namespace Go.Proofs.YtkikkfjmggobpaaGreat
open Go.RowKit
set_option maxRecDepth 100000
set_option maxHeartbeats 16000000
set_option linter.unusedVariables false
set_option linter.unusedSimpArgs false
attribute [local go_sem] Ext.cell
theorem ret_ty {fn:Func} {tmps:Array Value} {a g:Nat} {v0:Value} {w:World} (hf:fn.results = #[.cell a 33]) (hp:tmps.getD a undef=.pointer (some ⟨g,0,none⟩)) (h:RowAt w g 0 [v0]) :
  (results fn tmps).run Tryz.prog w=.ok (.agg #[v0]) w:=by
 have hp' : tmps[a]?.getD undef=.pointer (some ⟨g,0,none⟩):=by simpa using hp
 have h0:=h.box1
 simp[results,hf,go_sem,hp',h0]
def TyPost (l:List GTyItem) (w:World) (e:Ending) (w' : World):Prop:=∃v,e=.returned (.agg #[v])/\OwnT w.heap.size w' v l/\Below w.heap.size w w'
theorem flatY_wf {lo:Nat} {w:World} {v:Value} {l:List GTyItem} (h:Sl GTyItem.R 3 lo w v l):∀x∈l,x.wf:=flatTyItem.wfs h
theorem app_step {B1 ob rb xb g2 cap2 vn mn:Nat} {w w4 w6:World} {xr M:List Value} {ov:Value} {Pi Mi:List GTyItem} (hvn:vn=Pi.length) (hmn:mn=Mi.length)
  (O:RowAt w4 ob 0 [ov]) (OW:Wr w4 ob 0 1) (T:OwnT B1 w4 ov Pi) (X:RowAt w4 xb 0 xr) (hx0:0<xr.length) (R:RowAt w4 rb 0 [.slice none 0 0]) (RW:Wr w4 rb 0 1) (hw:Below w.heap.size w w4) (hox:∀g,ov.ownBlock=some g->g≠xb)
  (h1:ob<B1) (h2:rb<B1) (h3:ob≠rb) (h4:w.heap.size<=ob) (h5:B1<=xb) (h6:B1<=w4.heap.size)
  (hwf:∀y∈Mi,y.wf) (hM:M=rowsOf tyRow Mi)
  (hown:w6.ownsRow B1 107 3 (.slice (some ⟨g2,0,none⟩) (vn+mn) cap2) (vn+mn) (rowsOf tyRow Pi++M)) (hgrow:w4.grownBy w6 ov.ownBlock) (hat:ov.ownBlock=some g2\/w4.heap.size<=g2) :
  RowAt (w6.setCell ⟨ob,0,none⟩ (.slice (some ⟨g2,0,none⟩) (vn+mn) cap2)) ob 0 [.slice (some ⟨g2,0,none⟩) (vn+mn) cap2]/\Wr (w6.setCell ⟨ob,0,none⟩ (.slice (some ⟨g2,0,none⟩) (vn+mn) cap2)) ob 0 1/\
  OwnT B1 (w6.setCell ⟨ob,0,none⟩ (.slice (some ⟨g2,0,none⟩) (vn+mn) cap2)) (.slice (some ⟨g2,0,none⟩) (vn+mn) cap2) (Pi++Mi)/\
  RowAt (w6.setCell ⟨ob,0,none⟩ (.slice (some ⟨g2,0,none⟩) (vn+mn) cap2)) xb 0 xr/\RowAt (w6.setCell ⟨ob,0,none⟩ (.slice (some ⟨g2,0,none⟩) (vn+mn) cap2)) rb 0 [.slice none 0 0]/\Wr (w6.setCell ⟨ob,0,none⟩ (.slice (some ⟨g2,0,none⟩) (vn+mn) cap2)) rb 0 1/\
  Below w.heap.size w (w6.setCell ⟨ob,0,none⟩ (.slice (some ⟨g2,0,none⟩) (vn+mn) cap2))/\w4.heap.size<=(w6.setCell ⟨ob,0,none⟩ (.slice (some ⟨g2,0,none⟩) (vn+mn) cap2)).heap.size/\(xb<w4.heap.size->∀g,(Value.slice (some ⟨g2,0,none⟩) (vn+mn) cap2).ownBlock=some g->g≠xb):=by
 have k6:=kept_of hgrow (Below.refl _ w4)
 have hb:=own_base T.1
 have hne:∀b,b<B1->¬ some b=ov.ownBlock:=fun b h e=>by have:=hb b e.symm;omega
 have KS:Kept (fun k=>k=ob\/some k=ov.ownBlock) w4 (w6.setCell ⟨ob,0,none⟩ (.slice (some ⟨g2,0,none⟩) (vn+mn) cap2)):=
  Kept.set (p:=⟨ob,0,none⟩) (fun k h1 h2=>k6 k h1 (fun e=>h2 (.inr e))) (.inl rfl) _
 have hgs:=hgrow.size
 refine⟨(O.kept k6 (hne ob h1)).putAt (j:=0) (by simp) _,(OW.kept k6 (hne ob h1)).set 0 _,⟨?_,fun y hy=>?_⟩,X.kept KS (fun h=>?_),R.kept KS (fun h=>?_),RW.kept KS (fun h=>?_),?_,by simp[World.setCell];omega,fun hx g hg=>?_⟩
 ·rw[List.length_append,<- hvn,<- hmn,rowsOf_append,<- hM]
  exact own_kept hown ((Kept.refl (· = ob) w6).set (p:=⟨ob,0,none⟩) rfl _) (fun g' hg' e=>by
   obtain rfl:g2=g':=by simpa [Value.ownBlock] using hg'
   rcases hat with h|h
   ·have:=hb g2 h;omega
   ·omega)
 ·rcases List.mem_append.1 hy with h|h
  ·exact T.2 y h
  ·exact hwf y h
 ·rcases h with h|h
  ·omega
  ·exact hox xb h.symm rfl
 ·rcases h with h|h
  ·omega
  ·exact hne rb h2 h
 ·rcases h with h|h
  ·omega
  ·exact hne rb h2 h
 ·exact(below_grown2 (wr:=w4) (base:=w.heap.size) hgrow (Below.refl _ w4) hw (by omega) (own_lo T.1 (by omega))).setCell (p:=⟨ob,0,none⟩) h4 _
 ·obtain rfl:g2=g:=by simpa [Value.ownBlock] using hg
  rcases hat with h|h
  ·exact hox g2 h
  ·omega
theorem l05Apply_c (l:List GTyItem) (σ:Sbs) (hk:KeysD σ) (hB:(putL σ l).length<=1000000000) (tv sv:Value) (w:World) (ht:Sl GTyItem.R 3 0 w tv l) (hσ:Sl SubR 2 0 w sv σ) :
  Calls Tryz.prog 24 #[.agg #[tv],sv] w (TyPost (putL σ l) w):=by
 have hpost:∀W v B,OwnT B W v (putL σ l)->w.heap.size<=B->Below w.heap.size w W->TyPost (putL σ l) w (.returned (.agg #[v])) W:=fun W v B h1 h2 h3=>⟨v,rfl,h1.mono h2,h3⟩
 generalize TyPost (putL σ l) w=Q at *
 obtain⟨ta,tc,rfl,tl,tm,t0⟩:=ht
 obtain⟨sa,sc,rfl,sl,sm,s0⟩:=hσ
 obtain⟨n,hn⟩ : ∃n,n=l.length:=⟨_,rfl⟩
 obtain⟨m,hm⟩ : ∃m,m=σ.length:=⟨_,rfl⟩
 rw[<- hn]at tl ⊢
 rw[<- hm]at sl ⊢
 have tK:∀W,Below w.heap.size w W->SlAt GTyItem.R 3 0 W ta l:=fun W hW=>t0.below GTyItem.good hW
 have sK:∀W,Below w.heap.size w W->SlAt SubR 2 0 W sa σ:=fun W hW=>s0.below SubR.good hW
 replace tK:=kH tK;replace sK:=kH sK;replace hn:=kH hn;replace hm:=kH hm;replace hpost:=kH hpost;replace hk:=kH hk;replace hB:=kH hB
 clear t0 s0
 obtain⟨iI,hi0,hz0,hz1,hz2⟩:=info_parts info_TyItemS;have II:=kH hi0;have II0:=kH hz0;have II1:=kH hz1;have II2:=kH hz2;clear hi0 hz0 hz1 hz2
 go_enter Tryz.func24,Tryz.ntmps24
 go_upto_region 1 with fail
 have B:RowAt (w.alloc (.cells #[.slice ta n tc] 33)) (w.heap.size) 0 [.slice ta n tc]:=RowAt.box w #[.slice ta n tc] 33
 have B:=B.below (show Below (w.alloc (.cells #[.slice ta n tc] 33)).heap.size (w.alloc (.cells #[.slice ta n tc] 33)) ((w.alloc (.cells #[.slice ta n tc] 33)).alloc (.cells #[.slice none 0 0] 33)) by go_grown)
 have R:RowAt ((w.alloc (.cells #[.slice ta n tc] 33)).alloc (.cells #[.slice none 0 0] 33)) (w.heap.size+1) 0 [.slice none 0 0]:=by have h:=RowAt.box (w.alloc (.cells #[.slice ta n tc] 33)) #[.slice none 0 0] 33;simp only[World.size_alloc]at h;exact h
 have RW:Wr ((w.alloc (.cells #[.slice ta n tc] 33)).alloc (.cells #[.slice none 0 0] 33)) (w.heap.size+1) 0 1:=by have h:=Wr.box (w.alloc (.cells #[.slice ta n tc] 33)) #[.slice none 0 0] 33;simp only[World.size_alloc]at h;exact h
 have hw:Below w.heap.size w ((w.alloc (.cells #[.slice ta n tc] 33)).alloc (.cells #[.slice none 0 0] 33)):=by go_grown
 generalize ((w.alloc (.cells #[.slice ta n tc] 33)).alloc (.cells #[.slice none 0 0] 33))=w0 at *
 have b_0:=B.box1;have hsB:=bLt b_0;have rf_0:=RW.frz 0 (by omega);have r_0:=R.box1;have hsR:=bLt r_0
 have hz0:w.heap.size+1<w0.heap.size:=hsR
 go_upto_region 2 with fail
 obtain⟨w1,hW1⟩ : ∃W,W=w0.alloc (.cells #[.slice none 0 0] 33):=⟨_,rfl⟩
 rw[<- hW1]
 have hb1:Below w0.heap.size w0 w1:=by rw[hW1];go_grown
 have O:RowAt w1 w0.heap.size 0 [.slice none 0 0]:=by rw[hW1];exact RowAt.box w0 #[_] _
 have OW:Wr w1 w0.heap.size 0 1:=by rw[hW1];exact Wr.box w0 #[_] _
 have hz1:w1.heap.size=w0.heap.size+1:=by rw[hW1];simp
 obtain⟨ob,hob⟩ : ∃x,x=w0.heap.size:=⟨_,rfl⟩
 obtain⟨B1,hB1⟩ : ∃x,x=w1.heap.size:=⟨_,rfl⟩
 rw[<- hob]at O OW hz1 hz0 ⊢
 have R1:=R.below hb1
 have R1W:=RW.below hb1
 have B1_:=B.below hb1
 have hw1:=hw.trans (hb1.mono hw.size)
 have O1:OwnT B1 w1 (.slice none 0 0) (putL σ (l.take 0)):=by rw[List.take_zero];exact OwnF.empty
 replace hob:=kH hob;replace O1:=kH O1
 clear hW1 b_0 hsB r_0 rf_0 hsR R RW B hw hb1
 have b1__0:=B1_.box1;have hsB1_:=bLt b1__0
 go_wp2_with fail
 go_loopw [15] (fun ii wr=>∃ (i:Nat) (ov:Value),i<=n/\ii=.int .i64 i/\RowAt wr ob 0 [ov]/\Wr wr ob 0 1/\Hid (OwnT B1 wr ov (putL σ (l.take i)))/\RowAt wr (w.heap.size+1) 0 [.slice none 0 0]/\Wr wr (w.heap.size+1) 0 1/\Below w.heap.size w wr/\B1<=wr.heap.size) (fun ii _=>n-(intOf ii).toNat)
 case atStart=>exact⟨0,_,by omega,rfl,O,OW,O1,R1,R1W,hw1,by omega⟩
 case round=>
  clear O OW O1 R1 R1W hw1 b1__0 hsB1_ B1_
  obtain⟨i,ov,hi,rfl,O,OW,OT,R,RW,hw,hz⟩:=hrel
  by_cases hlt:i<n
  ·obtain⟨b1,o1,x,r,_,rfl,P1,⟨rfl,hwf⟩,r1⟩:=(tK.out _ hw).get hn.out hlt
   have hstep:=putL_take (σ:=σ) P1.out
   rw[putX_found]at hstep
   have hle:=putL_le (σ:=σ) (l:=l) (i+1)
   have hB':=hB.out
   have hf0:foundS (σ.take 0) x=none:=by unfold foundS;split<;>rfl
   have hhit:∀j p,σ[j]? = some p->x.name.toList.isEmpty=true->p.1=x.var->foundS (σ.take j) x=none/\foundS (σ.take (j+1)) x=some p.2:=fun j p h1 h2 h3=>found_snoc_hit hk.out h1 h2 h3
   have hmiss:∀j p,σ[j]? = some p->¬ (x.name.toList.isEmpty=true/\p.1=x.var)->foundS (σ.take (j+1)) x=foundS (σ.take j) x:=fun j p h1 h2=>found_snoc_miss h1 h2
   have hall:foundS σ x=foundS (σ.take m) x:=by rw[List.take_of_length_le (by have:=hm.out;omega)]
   have hlim:∀j t,foundS (σ.take j) x=some t->(putL σ (l.take i)).length+(flatY t).length<=1000000000:=fun j t h=>by
    have h2:foundS σ x=some t:=found_pre h
    rw[h2]at hstep
    dsimp only at hstep
    rw[hstep,List.length_append]at hle
    omega
   have hlim1:foundS σ x=none->(putL σ (l.take i)).length+1<=1000000000:=fun h=>by
    rw[h]at hstep
    dsimp only at hstep
    rw[hstep,List.length_append]at hle
    simp only[List.length_singleton]at hle
    omega
   obtain⟨va,nm,ar⟩:=x
   dsimp only[tyRow]at r1
   have e_0:wr.cell? ⟨b1,o1+i*3,none⟩=some (.int .i64 va):=by simpa using r1 0 _ rfl
   have e_1:wr.cell? ⟨b1,o1+i*3+1,none⟩=some (.string nm):=r1 1 _ rfl
   have e_2:wr.cell? ⟨b1,o1+i*3+2,none⟩=some (.int .i64 ar):=r1 2 _ rfl
   have hbb1:=World.block_lt_of_cell? _ _ e_0;dsimp only at hbb1
   obtain⟨q,hq⟩ : ∃q,nm.toList.isEmpty=q:=⟨_,rfl⟩
   have hq2:(nm.toList == [])=q:=by rw[<- hq];cases nm.toList<;>rfl
   dsimp only at hhit hmiss
   rw[hq]at hhit hmiss
   generalize hPi:putL σ (l.take i)=Pi at *
   generalize hPn:putL σ (l.take (i+1))=Pn at *
   clear r1 P1 hle hf0
   replace hq:=kH hq;replace hhit:=kH hhit;replace hmiss:=kH hmiss;replace hall:=kH hall;replace hlim:=kH hlim;replace hlim1:=kH hlim1;replace hstep:=kH hstep;replace hPi:=kH hPi;replace hPn:=kH hPn;replace hwf:=kH hwf
   go_upto_region 5 with fail
   obtain⟨w2,hW2⟩ : ∃W,W=wr.alloc (.cells #[.int .i64 va,.string nm,.int .i64 ar] 107):=⟨_,rfl⟩
   rw[<- hW2]
   have hb2:Below wr.heap.size wr w2:=by rw[hW2];go_grown
   have X:RowAt w2 wr.heap.size 0 [.int .i64 va,.string nm,.int .i64 ar]:=by rw[hW2];exact RowAt.box wr #[_,_,_] _
   have hz2:w2.heap.size=wr.heap.size+1:=by rw[hW2];simp
   obtain⟨xb,hxb⟩ : ∃x,x=wr.heap.size:=⟨_,rfl⟩
   rw[<- hxb]at X ⊢
   have O2:=O.below hb2
   have O2W:=OW.below hb2
   have R2:=R.below hb2
   have R2W:=RW.below hb2
   have T2:=kH (OT.out.below hb2)
   have hw2:=hw.trans (hb2.mono hw.size)
   have hzw2:B1<=xb:=by omega
   have hb2x:xb<w2.heap.size:=by omega
   have hox2:∀g,ov.ownBlock=some g->g≠xb:=fun g hg=>by have:=OT.out.base g hg;omega
   replace hxb:=kH hxb
   clear hW2 hb2 e_0 e_1 e_2 hbb1 O OW R RW OT hz2
   have F0:Hid ((none:Option TyT)=foundS (σ.take 0) ⟨va,nm,ar⟩):=kH (by unfold foundS;split<;>rfl)
   go_wp2_with fail
   go_loopw [8,21] (fun pv jj wq=>∃ (j:Nat) (fd:Option TyT) (ov:Value) (pb:Bool),j<=m/\jj=.int .i64 j/\pv=.bool pb/\Hid (pb=fd.isSome)/\Hid (fd=foundS (σ.take j) ⟨va,nm,ar⟩)/\RowAt wq ob 0 [ov]/\Wr wq ob 0 1/\Hid (OwnT B1 wq ov (Pi++flO fd))/\RowAt wq xb 0 [.int .i64 va,.string nm,.int .i64 ar]/\RowAt wq (w.heap.size+1) 0 [.slice none 0 0]/\Wr wq (w.heap.size+1) 0 1/\Below w.heap.size w wq/\xb<wq.heap.size/\Hid (∀g,ov.ownBlock=some g->g≠xb)) (fun _ jj _=>m-(intOf jj).toNat)
   case atStart=>exact⟨0,none,ov,false,by omega,rfl,rfl,kH rfl,F0,O2,O2W,kH (by simpa [flO] using T2.out),X,R2,R2W,hw2,hb2x,kH hox2⟩
   case round=>
    clear F0 O2 O2W T2 X R2 R2W hw2 hb2x hox2
    obtain⟨j,fd,ov,pb,hj,rfl,rfl,hpb,hfd,O,OW,OT,X,R,RW,hw,hxl,hox⟩:=hrel
    have hzq:B1<=wr.heap.size:=by omega
    by_cases hlt2:j<m
    ·obtain⟨b3,o3,p,r3,_,rfl,P3,⟨u,rfl,hp64,hu⟩,r3'⟩:=(sK.out _ hw).get hm.out hlt2
     obtain⟨k,t⟩:=p
     obtain⟨ua,uc,rfl⟩:=hu.form
     have hh:=fun h1 h2=>hhit.out j (k,t) P3.out h1 h2
     have hmi:=fun h1=>hmiss.out j (k,t) P3.out h1
     have hli:=fun h1=>hlim.out (j+1) t h1
     dsimp only at hh hmi
     have g_0:wr.cell? ⟨b3,o3+j*2,none⟩=some (.int .i64 k):=by simpa using r3' 0 _ rfl
     have g_1:wr.cell? ⟨b3,o3+j*2+1,none⟩=some (.slice ua (flatY t).length uc):=r3' 1 _ rfl
     have hbb3:=World.block_lt_of_cell? _ _ g_0;dsimp only at hbb3
     have htl:(flatY t).length=szY t:=flatY_len t
     have htp:=szY_pos t
     obtain⟨tn,htn⟩ : ∃x,x=(flatY t).length:=⟨_,rfl⟩
     rw[<- htn]at g_1
     replace hu:Sl GTyItem.R 3 0 wr (.slice ua tn uc) (flatY t):=by rw[htn];exact hu
     replace htn:=kH htn;replace htl:=kH htl
     clear r3' P3
     replace hh:=kH hh;replace hmi:=kH hmi;replace hli:=kH hli;replace hu:=kH hu
     go_upto_region 9 with fail
     obtain⟨w4,hW4⟩ : ∃W,W=wr.alloc (.cells #[.int .i64 k,.slice ua tn uc] 119):=⟨_,rfl⟩
     rw[<- hW4]
     have hb4:Below wr.heap.size wr w4:=by rw[hW4];go_grown
     have S:RowAt w4 wr.heap.size 0 [.int .i64 k,.slice ua tn uc]:=by rw[hW4];exact RowAt.box wr #[_,_] _
     have hz4:w4.heap.size=wr.heap.size+1:=by rw[hW4];simp
     have O4:=O.below hb4
     have O4W:=OW.below hb4
     have R4:=R.below hb4
     have R4W:=RW.below hb4
     have X4:=X.below hb4
     have T4:=OT.out.below hb4
     have hu4:=kH (hu.out.below GTyItem.good hb4)
     have hw4:=hw.trans (hb4.mono hw.size)
     have hoz:=OT.out.base
     obtain⟨sb,hsb⟩ : ∃x,x=wr.heap.size:=⟨_,rfl⟩
     rw[<- hsb]at S hz4 hoz ⊢
     replace hsb:=kH hsb;replace hoz:=kH hoz
     clear hW4 hb4 g_0 g_1 hbb3 O OW R RW X OT
     have o4_0:=O4.box1;have hsO4:=bLt o4_0;obtain⟨x4_0,x4_1,x4_2⟩:=X4.box3;have hsX4:=bLt x4_0;obtain⟨s_0,s_1⟩:=S.box2;have hsS:=bLt s_0
     have of4:=O4W.frz 0 (by omega)
     by_cases hit:q=true/\k=va
     ·obtain⟨rfl,hkv⟩:=hit
      have dk:(k == va)=true:=by rw[hkv];simp
      obtain⟨f1,f2⟩:=hh.out rfl hkv
      have hfn:fd=none:=hfd.out.trans f1
      subst hfn
      have hlen:=hli.out f2
      rw[<- htn.out]at hlen
      have T5:OwnT B1 w4 ov Pi:=by simpa [flO] using T4
      obtain⟨va',vc',rfl⟩:=T5.form
      have hown:=T5.1
      have hTw:=kH T5.2
      obtain⟨vn,hvn⟩ : ∃y,y=Pi.length:=⟨_,rfl⟩
      rw[<- hvn]at hown hlen hox hoz o4_0 O4 T5
      replace hvn:=kH hvn;replace hown:=kH hown;replace f2:=kH f2
      replace hkv:=kH hkv;replace T5:=kH T5
      clear f1 T4
      go_wp2_with (at_builtin;go_loud (refine wpList_append_ne _ flatTyItem rfl _ _ _ rfl B1 107 iI _ 32 Tryz.underlying31 II.out II0.out II1.out II2.out rfl _ vn (rowsOf tyRow Pi) rfl hown.out 0 _ (flatY t) rfl (by have h1:=htn.out;have h2:=htl.out;omega) hu4.out (by have h1:=htn.out;unfold maxLen;omega) (by have h1:=htn.out;omega) (by omega) sb.succ (by omega) ?_;(try rw[<- htn.out]);intro g2 cap2 w6 hown6 hgrow hat);have k6:=kept_of hgrow (w:=w4) (by go_grown);have hgs:=hgrow.size;have O6:=O4.kept k6 (fun e=>by have:=hoz.out ob e.symm;omega);have O6W:=O4W.kept k6 (fun e=>by have:=hoz.out ob e.symm;omega);have o6_0:=O6.box1;have of6:=O6W.frz 0 (by omega);have hsO6:=bLt o6_0)
      obtain⟨y1,y2,y3,y4,y5,y6,y7,y8,y9⟩:=app_step (w:=w) (rb:=w.heap.size+1) (xb:=xb) (xr:=[.int .i64 va,.string nm,.int .i64 ar]) hvn.out htn.out O4 O4W T5.out X4 (by simp) R4 R4W hw4 hox (by omega) (by omega) (by omega) (by omega) hzw2 (by omega) (flatY_wf hu4.out) rfl hown6 hgrow (by rcases hat with h|h;exact .inl h;exact .inr (by omega))
      go_roundw
      case rel=>exact⟨j+1,some t,_,true,by omega,by go_num,rfl,kH rfl,kH f2.out.symm,y1,y2,kH y3,y4,y5,y6,y7,by omega,kH (y9 (by omega))⟩
      case measure=>simp[intOf];omega
     ·have hmm:=hmi.out hit
      have hrel1:∃ (j' : Nat) (fd' : Option TyT) (ov' : Value) (pb' : Bool),j'<=m/\(Value.int .i64 ((j:Int)+1))=.int .i64 j'/\(Value.bool pb)=.bool pb'/\Hid (pb' = fd'.isSome)/\Hid (fd' = foundS (σ.take j') ⟨va,nm,ar⟩)/\RowAt w4 ob 0 [ov']/\Wr w4 ob 0 1/\Hid (OwnT B1 w4 ov' (Pi++flO fd'))/\RowAt w4 xb 0 [.int .i64 va,.string nm,.int .i64 ar]/\RowAt w4 (w.heap.size+1) 0 [.slice none 0 0]/\Wr w4 (w.heap.size+1) 0 1/\Below w.heap.size w w4/\xb<w4.heap.size/\Hid (∀g,ov'.ownBlock=some g->g≠xb):=
       ⟨j+1,fd,ov,pb,by omega,by go_num,rfl,hpb,kH (by rw[hmm];exact hfd.out),O4,O4W,kH T4,X4,R4,R4W,hw4,by omega,hox⟩
      replace hrel1:=kH hrel1
      clear T4 hh hmi hli hu hu4 O4 O4W R4 R4W X4 hmm o4_0 hsO4 of4
      cases q
      ·go_wp2_with fail
       go_roundw
       case rel=>exact hrel1.out
       case measure=>simp[intOf];omega
      ·have dk:(k == va)=false:=beq_eq_false_iff_ne.2 (fun e=>hit ⟨rfl,e⟩)
       go_wp2_with fail
       go_roundw
       case rel=>exact hrel1.out
       case measure=>simp[intOf];omega
    ·obtain rfl:j=m:=by omega
     have hfd2:fd=foundS σ ⟨va,nm,ar⟩:=hfd.out.trans hall.out.symm
     have hstep':=hstep.out
     rw[<- hfd2]at hstep'
     have o_0:=O.box1;have hsO:=bLt o_0;obtain⟨x_0,x_1,x_2⟩:=X.box3;have hsX:=bLt x_0
     have of_0:=OW.frz 0 (by omega)
     cases fd with
     |some t=>
      obtain rfl:pb=true:=hpb.out
      have OT' : OwnT B1 wr ov Pn:=by rw[hstep'];exact OT.out
      replace OT':=kH OT'
      clear OT
      go_wp2_with fail
      go_roundw
      case rel=>exact⟨i+1,ov,by omega,by go_num,O,OW,by rw[hPn.out];exact OT',R,RW,hw,by omega⟩
      case measure=>simp[intOf];omega
     |none=>
      obtain rfl:pb=false:=hpb.out
      have OT' : OwnT B1 wr ov Pi:=by simpa [flO] using OT.out
      have hl1:=hlim1.out hfd2.symm
      obtain⟨va',vc',rfl⟩:=OT'.form
      obtain⟨vn,hvn⟩ : ∃y,y=Pi.length:=⟨_,rfl⟩
      have hown:=OT'.1
      have hbs:=OT'.base
      rw[<- hvn]at hown hl1 hox o_0 O hbs OT'
      replace hvn:=kH hvn;replace hown:=kH hown;replace hbs:=kH hbs;replace OT':=kH OT';replace hstep':=kH hstep'
      clear OT
      go_wp2_with ((at_builtin;refine wpList_append_lies _ rfl _ _ _ rfl (B1) 107 iI _ 3 32 Tryz.underlying31 II.out II0.out II1.out II2.out rfl (by omega) (.slice va' vn vc') (vn) (rowsOf tyRow Pi) rfl (own_below hown.out (by go_grown)) ⟨wr.heap.size,0,none⟩ 1 1 [.int .i64 va,.string nm,.int .i64 ar] rfl rfl (World.news_of_block (cs:=#[.int .i64 va,.string nm,.int .i64 ar]) (t:=107) (fr:=(0,0)) (heap_alloc_new' _ _ _ (by simp))) (by intro u hu;simp at hu;repeat' first|(subst hu;rfl)|rcases hu with hu|hu) (by omega) (by unfold maxLen;omega) (by omega) (by simp;omega) _ rfl ?_;intro g2 cap2 w6 hown6 hgrow hat hlt2);have k6:=kept_of hgrow (w:=wr) (by go_grown);have hgs:=hgrow.size;have O6:=O.kept k6 (fun e=>by have:=hbs.out ob e.symm;omega);have O6W:=OW.kept k6 (fun e=>by have:=hbs.out ob e.symm;omega);have o6_0:=O6.box1;have of6:=O6W.frz 0 (by omega);have hsO6:=bLt o6_0)
      have hbA:Below wr.heap.size wr (wr.alloc (.cells #[.int .i64 va,.string nm,.int .i64 ar] 107)):=by go_grown
      have hzA:(wr.alloc (.cells #[.int .i64 va,.string nm,.int .i64 ar] 107)).heap.size=wr.heap.size+1:=by simp
      have hzB:B1<=wr.heap.size:=by omega
      obtain⟨y1,y2,y3,y4,y5,y6,y7,y8,y9⟩:=app_step (w:=w) (rb:=w.heap.size+1) (xb:=xb) (xr:=[.int .i64 va,.string nm,.int .i64 ar]) (Mi:=[⟨va,nm,ar⟩]) hvn.out rfl (O.below hbA) (OW.below hbA) (OT'.out.below hbA) (X.below hbA) (by simp) (R.below hbA) (RW.below hbA) (hw.trans (hbA.mono hw.size)) hox.out (by omega) (by omega) (by omega) (by omega) hzw2 (by omega) (fun y hy=>by simp only[List.mem_singleton]at hy;subst hy;exact hwf.out) (by rw[rowsOf_one];rfl) hown6 hgrow (by rcases hat with h|h;exact .inl h;exact .inr (by omega))
      go_roundw
      case rel=>exact⟨i+1,_,by omega,by go_num,y1,y2,kH (by rw[hPn.out,hstep'.out];exact y3),y5,y6,y7,Nat.le_trans (Nat.le_trans hzB (by simp)) y8⟩
      case measure=>simp[intOf];omega
  ·obtain rfl:i=n:=by omega
   have OT':=OT.out
   rw[List.take_of_length_le (by have:=hn.out;omega)]at OT'
   replace OT':=kH OT'
   have hbase:=kH OT'.out.base
   obtain⟨xa,xc,rfl⟩:=OT'.out.form
   generalize (putL σ l).length=pn at *
   have o_0:=O.box1;have hsO:=bLt o_0;have r_0:=R.box1;have hsR:=bLt r_0
   have rf_0:=RW.frz 0 (by omega)
   go_wp2_with fail
   refine bodyPost_ret (ret_ty (a:=4) Tryz.results24 rfl (R.putAt (j:=0) (by simp) (.slice xa pn xc))) rfl ?_
   exact hpost.out _ _ _ (OT'.out.kept ((Kept.refl (· = w.heap.size+1) wr).set (p:=⟨w.heap.size+1,0,none⟩) rfl _) (fun g hg e=>by have:=hbase.out g hg;omega)) (by omega) (hw.setCell (p:=⟨w.heap.size+1,0,none⟩) (by dsimp only;omega) _)
theorem SB.cells {b:Nat} {P0 P1 lv:Value} {w:World} {s:IS} (h:SB b P0 P1 w s lv):(w.cell? ⟨b,0,none⟩=some P0/\w.cell? ⟨b,1,none⟩=some P1/\w.cell? ⟨b,2,none⟩=some lv/\w.cell? ⟨b,3,none⟩=some (.int .i64 (s.nx:Int))/\w.cell? ⟨b,4,none⟩=some (.int .i64 s.cd)/\w.cell? ⟨b,5,none⟩=some (.int .i64 s.at_))/\
  (w.frozen? ⟨b,2,none⟩=false/\w.frozen? ⟨b,3,none⟩=false/\w.frozen? ⟨b,4,none⟩=false/\w.frozen? ⟨b,5,none⟩=false):=
 ⟨h.row.box6,h.wr.frz 2 (by omega),h.wr.frz 3 (by omega),h.wr.frz 4 (by omega),h.wr.frz 5 (by omega)⟩
theorem SB.nx {b:Nat} {P0 P1 lv:Value} {w:World} {s:IS} (h:SB b P0 P1 w s lv) (n:Nat):SB b P0 P1 (w.setCell ⟨b,3,none⟩ (.int .i64 (n:Int))) ⟨s.sub,n,s.cd,s.at_⟩ lv:=
 ⟨h.row.putAt (j:=3) (by simp) _,h.wr.set 3 _,h.form,fun h0=>((IFr.refl b w).set 3 _).sl SubR.good (h.sl h0)⟩
theorem SB.cdAt {b:Nat} {P0 P1 lv:Value} {w:World} {s:IS} (h:SB b P0 P1 w s lv) (c a:Int) (hc:c≠0):SB b P0 P1 ((w.setCell ⟨b,4,none⟩ (.int .i64 c)).setCell ⟨b,5,none⟩ (.int .i64 a)) ⟨s.sub,s.nx,c,a⟩ lv:=
 ⟨(h.row.putAt (j:=4) (by simp) _).putAt (j:=5) (by simp) _,(h.wr.set 4 _).set 5 _,h.form,fun h0=>absurd h0 hc⟩
theorem SB.subs {b:Nat} {P0 P1 lv:Value} {w:World} {s:IS} (h:SB b P0 P1 w s lv) (v:Value) (τ:Sbs) (hv:∃a n c,v=.slice a n c) (hs:Sl SubR 2 (b+1) w v τ):SB b P0 P1 (w.setCell ⟨b,2,none⟩ v) ⟨τ,s.nx,s.cd,s.at_⟩ v:=
 ⟨h.row.putAt (j:=2) (by simp) _,h.wr.set 2 _,hv,fun h0=>((IFr.refl b w).set 2 _).sl SubR.good hs⟩
theorem l06New_c {b:Nat} {P0 P1 lv:Value} {w:World} {s:IS} (S:SB b P0 P1 w s lv) (hn:s.nx<=999999) :
  Calls Tryz.prog 135 #[.pointer (some ⟨b,0,none⟩)] w fun e w'=>∃v,e=.returned (.agg #[v])/\SB b P0 P1 w' s.new lv/\Sl GTyItem.R 3 w.heap.size w' v (flatY (.v s.nx))/\IFr b w w':=by
 have hlt:=S.lt
 go_enter Tryz.func135,Tryz.ntmps135
 go_upto_region 1 with fail
 have R:RowAt (w.alloc (.cells #[.slice none 0 0] 33)) (w.heap.size) 0 [.slice none 0 0]:=RowAt.box w #[.slice none 0 0] 33
 have RW:Wr (w.alloc (.cells #[.slice none 0 0] 33)) (w.heap.size) 0 1:=Wr.box w #[.slice none 0 0] 33
 have hw:Below w.heap.size w (w.alloc (.cells #[.slice none 0 0] 33)):=by go_grown
 generalize (w.alloc (.cells #[.slice none 0 0] 33))=w0 at *
 have S0:=S.below hw
 obtain⟨⟨s_0,s_1,s_2,s_3,s_4,s_5⟩,sf_2,sf_3,sf_4,sf_5⟩:=S0.cells
 have hz:=hw.size
 go_upto_region 2 with fail
 obtain⟨w1,hW1⟩ : ∃W,W=w0.setCell ⟨b,3,none⟩ (.int .i64 ((s.nx:Int)+1)):=⟨_,rfl⟩
 rw[<- hW1]
 have S1:SB b P0 P1 w1 s.new lv:=by rw[hW1];exact S0.nx (s.nx+1)
 have F1:IFr b w w1:=by rw[hW1];exact(IFr.of hw (Nat.le_of_lt hlt)).set 3 _
 have K1:Kept (fun q=>q=b) w0 w1:=by rw[hW1];exact(Kept.refl (fun q=>q=b) w0).set (p:=⟨b,3,none⟩) rfl _
 have R1:RowAt w1 w.heap.size 0 [.slice none 0 0]:=R.kept K1 (by omega)
 have R1W:Wr w1 w.heap.size 0 1:=RW.kept K1 (by omega)
 clear hW1 s_0 s_1 s_2 s_3 s_4 s_5 sf_2 sf_3 sf_4 sf_5 R RW S0 hw
 obtain⟨⟨s_0,s_1,s_2,s_3,s_4,s_5⟩,-⟩:=S1.cells
 replace s_3:w1.cell? ⟨b,3,none⟩=some (.int .i64 ((s.nx:Int)+1)):=s_3
 have r1f_0:=R1W.frz 0 (by omega);have r1_0:=R1.box1;have hsR1:=bLt r1_0
 go_wp2_with fail
 obtain⟨w2,hW2⟩ : ∃W,W=w1.setCell ⟨w.heap.size,0,none⟩ (.slice (some ⟨w1.heap.size,0,none⟩) 1 1):=⟨_,rfl⟩
 rw[<- hW2]
 have hz2:w2.heap.size=w1.heap.size:=by rw[hW2];simp
 have R2:RowAt w2 w.heap.size 0 [.slice (some ⟨w1.heap.size,0,none⟩) 1 1]:=by rw[hW2];exact R1.putAt (j:=0) (by simp) _
 have F2:IFr b w w2:=by rw[hW2];exact F1.setNew (Nat.le_refl _) (Nat.le_of_lt hlt) _
 have K2:Kept (fun q=>q=w.heap.size) w1 w2:=by rw[hW2];exact(Kept.refl (fun q=>q=w.heap.size) w1).set (p:=⟨w.heap.size,0,none⟩) rfl _
 have S2:SB b P0 P1 w2 s.new lv:=S.fr F2 (S1.row.kept K2 (by omega)) (S1.wr.kept K2 (by omega)) rfl (fun h=>h)
 have hz1:=F1.size
 clear hW2
 refine bodyPost_ret (ret_ty (a:=2) Tryz.results135 rfl (R2.below (by go_grown))) rfl ?_
 refine⟨_,rfl,S2.below (by go_grown),?_,F2.grow (by go_grown) (by omega)⟩
 rw[<- hz2]
 refine⟨_,1,rfl,Nat.le_refl 1,by decide,fun _=>⟨w2.heap.size,0,by omega,rfl,fun i x hx=>?_⟩⟩
 match i,hx with
 |0,hx=>
  obtain rfl:=Option.some.inj hx
  exact⟨_,⟨rfl,⟨by dsimp only[I64];omega,by dsimp only[StrOk];decide,by dsimp only[I64];omega⟩⟩,RowAt.box w2 #[_,_,_] _⟩
 |i+1,hx=>simp[flatY]at hx
theorem l06Fault_c {b:Nat} {P0 P1 lv:Value} {w:World} {s:IS} (S:SB b P0 P1 w s lv) (c a:Int) (hc:0<c) :
  Calls Tryz.prog 95 #[.pointer (some ⟨b,0,none⟩),.int .i64 c,.int .i64 a] w fun e w'=>e=.returned (.tuple #[])/\SB b P0 P1 w' (s.fault c a) lv/\IFr b w w':=by
 have hlt:=S.lt
 obtain⟨⟨s_0,s_1,s_2,s_3,s_4,s_5⟩,sf_2,sf_3,sf_4,sf_5⟩:=S.cells
 by_cases h0:s.cd=0
 ·rw[show s.fault c a=⟨s.sub,s.nx,c,a⟩ from if_pos h0]
  rw[h0]at s_4
  go_enter Tryz.func95,Tryz.ntmps95
  go_wp2_with fail
  go_returns
  exact⟨rfl,S.cdAt c a (by omega),((IFr.refl b w).set 4 _).set 5 _⟩
 ·rw[show s.fault c a=s from if_neg h0]
  have d0:(s.cd == 0)=false:=beq_eq_false_iff_ne.2 h0
  go_enter Tryz.func95,Tryz.ntmps95
  go_wp2_with fail
  go_returns
  exact⟨rfl,S,IFr.refl b w⟩
theorem app_step2 {B1 ob rb g2 cap2 vn mn:Nat} {w w4 w6:World} {rr M:List Value} {ov:Value} {Pi Mi:List GTyItem} (hvn:vn=Pi.length) (hmn:mn=Mi.length)
  (O:RowAt w4 ob 0 [ov]) (OW:Wr w4 ob 0 1) (T:OwnT B1 w4 ov Pi) (R:RowAt w4 rb 0 rr) (RW:Wr w4 rb 0 rr.length) (hw:Below w.heap.size w w4) (hox:∀g,ov.ownBlock=some g->g≠ob/\g≠rb)
  (h1:ob<w4.heap.size) (h2:rb<w4.heap.size) (h3:ob≠rb) (h4:w.heap.size<=ob) (h5:w.heap.size<=B1)
  (hwf:∀y∈Mi,y.wf) (hM:M=rowsOf tyRow Mi)
  (hown:w6.ownsRow B1 107 3 (.slice (some ⟨g2,0,none⟩) (vn+mn) cap2) (vn+mn) (rowsOf tyRow Pi++M)) (hgrow:w4.grownBy w6 ov.ownBlock) (hat:ov.ownBlock=some g2\/w4.heap.size<=g2) :
  RowAt (w6.setCell ⟨ob,0,none⟩ (.slice (some ⟨g2,0,none⟩) (vn+mn) cap2)) ob 0 [.slice (some ⟨g2,0,none⟩) (vn+mn) cap2]/\Wr (w6.setCell ⟨ob,0,none⟩ (.slice (some ⟨g2,0,none⟩) (vn+mn) cap2)) ob 0 1/\
  OwnT B1 (w6.setCell ⟨ob,0,none⟩ (.slice (some ⟨g2,0,none⟩) (vn+mn) cap2)) (.slice (some ⟨g2,0,none⟩) (vn+mn) cap2) (Pi++Mi)/\
  RowAt (w6.setCell ⟨ob,0,none⟩ (.slice (some ⟨g2,0,none⟩) (vn+mn) cap2)) rb 0 rr/\Wr (w6.setCell ⟨ob,0,none⟩ (.slice (some ⟨g2,0,none⟩) (vn+mn) cap2)) rb 0 rr.length/\
  Below w.heap.size w (w6.setCell ⟨ob,0,none⟩ (.slice (some ⟨g2,0,none⟩) (vn+mn) cap2))/\w4.heap.size<=(w6.setCell ⟨ob,0,none⟩ (.slice (some ⟨g2,0,none⟩) (vn+mn) cap2)).heap.size/\(∀g,(Value.slice (some ⟨g2,0,none⟩) (vn+mn) cap2).ownBlock=some g->g≠ob/\g≠rb):=by
 have k6:=kept_of hgrow (Below.refl _ w4)
 have hb:=own_base T.1
 have ho : ¬ some ob=ov.ownBlock:=fun e=>(hox ob e.symm).1 rfl
 have hr : ¬ some rb=ov.ownBlock:=fun e=>(hox rb e.symm).2 rfl
 have KS:Kept (fun k=>k=ob\/some k=ov.ownBlock) w4 (w6.setCell ⟨ob,0,none⟩ (.slice (some ⟨g2,0,none⟩) (vn+mn) cap2)):=
  Kept.set (p:=⟨ob,0,none⟩) (fun k h1 h2=>k6 k h1 (fun e=>h2 (.inr e))) (.inl rfl) _
 have hgs:=hgrow.size
 have hg2:g2≠ob/\g2≠rb:=by
  rcases hat with h|h
  ·exact hox g2 h
  ·omega
 refine⟨(O.kept k6 ho).putAt (j:=0) (by simp) _,(OW.kept k6 ho).set 0 _,⟨?_,fun y hy=>?_⟩,R.kept KS (fun h=>?_),RW.kept KS (fun h=>?_),?_,by simp[World.setCell];omega,fun g hg=>?_⟩
 ·rw[List.length_append,<- hvn,<- hmn,rowsOf_append,<- hM]
  exact own_kept hown ((Kept.refl (· = ob) w6).set (p:=⟨ob,0,none⟩) rfl _) (fun g' hg' e=>by
   obtain rfl:g2=g':=by simpa [Value.ownBlock] using hg'
   exact hg2.1 e)
 ·rcases List.mem_append.1 hy with h|h
  ·exact T.2 y h
  ·exact hwf y h
 ·rcases h with h|h
  ·omega
  ·exact hr h
 ·rcases h with h|h
  ·omega
  ·exact hr h
 ·exact(below_grown2 (wr:=w4) (base:=w.heap.size) hgrow (Below.refl _ w4) hw (by omega) (own_lo T.1 h5)).setCell (p:=⟨ob,0,none⟩) h4 _
 ·obtain rfl:g2=g:=by simpa [Value.ownBlock] using hg
  exact hg2
def namedL (name:ByteArray) (n:Nat) (xs:List GTy):List GTyItem:=⟨0,name,(n:Int)⟩ :: xs.flatMap (·.items)
theorem namedL_take {name:ByteArray} {n k:Nat} {xs:List GTy} {x:GTy} (h:xs[k]? = some x):namedL name n (xs.take (k+1))=namedL name n (xs.take k)++x.items:=by
 unfold namedL
 rw[List.take_add_one,h,Option.toList_some,List.flatMap_append]
 simp
theorem namedL_le (name:ByteArray) (n k:Nat) (xs:List GTy):(namedL name n (xs.take k)).length<=(namedL name n xs).length:=by
 have h:xs.flatMap (·.items)=(xs.take k).flatMap (·.items)++(xs.drop k).flatMap (·.items):=by rw[<- List.flatMap_append,List.take_append_drop]
 unfold namedL
 rw[List.length_cons,List.length_cons,h,List.length_append];omega
theorem l03Named_c (name:ByteArray) (hs:StrOk name) (xs:List GTy) (hx:xs.length<=1000) (hB:(namedL name xs.length xs).length<=1000000000) (lv:Value) (w:World) (hl:Sl GTy.R 1 0 w lv xs) :
  Calls Tryz.prog 53 #[.string name,lv] w (TyPost (namedL name xs.length xs) w):=by
 have hpost:∀W v B,OwnT B W v (namedL name xs.length xs)->w.heap.size<=B->Below w.heap.size w W->TyPost (namedL name xs.length xs) w (.returned (.agg #[v])) W:=fun W v B h1 h2 h3=>⟨v,rfl,h1.mono h2,h3⟩
 generalize TyPost (namedL name xs.length xs) w=Q at *
 obtain⟨la,lc,rfl,ll,lm,l0⟩:=hl
 obtain⟨n,hn⟩ : ∃n,n=xs.length:=⟨_,rfl⟩
 rw[<- hn]at ll hx hB hpost ⊢
 have lK:∀W,Below w.heap.size w W->SlAt GTy.R 1 0 W la xs:=fun W hW=>l0.below GTy.good hW
 have hle:=fun k=>Nat.le_trans (namedL_le name n k xs) hB
 replace lK:=kH lK;replace hn:=kH hn;replace hpost:=kH hpost;replace hle:=kH hle;replace hB:=kH hB
 clear l0
 obtain⟨iI,hi0,hz0,hz1,hz2⟩:=info_parts info_TyItemS;have II:=kH hi0;have II0:=kH hz0;have II1:=kH hz1;have II2:=kH hz2;clear hi0 hz0 hz1 hz2
 go_enter Tryz.func53,Tryz.ntmps53
 go_upto_region 1 with fail
 have R:RowAt (w.alloc (.cells #[.slice none 0 0] 33)) (w.heap.size) 0 [.slice none 0 0]:=RowAt.box w #[.slice none 0 0] 33
 have RW:Wr (w.alloc (.cells #[.slice none 0 0] 33)) (w.heap.size) 0 1:=Wr.box w #[.slice none 0 0] 33
 have hw:Below w.heap.size w (w.alloc (.cells #[.slice none 0 0] 33)):=by go_grown
 generalize (w.alloc (.cells #[.slice none 0 0] 33))=w0 at *
 have rf_0:=RW.frz 0 (by omega);have r_0:=R.box1;have hsR:=bLt r_0
 go_upto_region 2 with fail
 obtain⟨w1,hW1⟩ : ∃W,W=(w0.alloc (.cells #[.int .i64 0,.string name,.int .i64 (n:Int)] 107)).alloc (.cells #[.slice (some ⟨w0.heap.size,0,none⟩) 1 1] 33):=⟨_,rfl⟩
 rw[<- hW1]
 have hb1:Below w0.heap.size w0 w1:=by rw[hW1];go_grown
 have hz1:w1.heap.size=w0.heap.size+2:=by rw[hW1];simp
 have hn64:I64 (n:Int):=⟨by omega,by omega⟩
 have O:RowAt w1 (w0.heap.size+1) 0 [.slice (some ⟨w0.heap.size,0,none⟩) 1 1]:=by rw[hW1];have h:=RowAt.box (w0.alloc (.cells #[.int .i64 0,.string name,.int .i64 (n:Int)] 107)) #[.slice (some ⟨w0.heap.size,0,none⟩) 1 1] 33;simp only[World.size_alloc]at h;exact h
 have OW:Wr w1 (w0.heap.size+1) 0 1:=by rw[hW1];have h:=Wr.box (w0.alloc (.cells #[.int .i64 0,.string name,.int .i64 (n:Int)] 107)) #[.slice (some ⟨w0.heap.size,0,none⟩) 1 1] 33;simp only[World.size_alloc]at h;exact h
 have T:OwnT w.heap.size w1 (.slice (some ⟨w0.heap.size,0,none⟩) 1 1) (namedL name n (xs.take 0)):=by
  refine⟨?_,fun y hy=>?_⟩
  ·rw[hW1]
   exact own_below (own_new w0 #[.int .i64 0,.string name,.int .i64 (n:Int)] 107 3 1 rfl (by decide) w.heap.size hw.size) (by go_grown)
  ·simp only[namedL,List.take_zero,List.flatMap_nil,List.mem_singleton]at hy
   subst hy
   exact⟨⟨by dsimp only;omega,by dsimp only;omega⟩,hs,hn64⟩
 have hox:∀g,(Value.slice (some ⟨w0.heap.size,0,none⟩) 1 1).ownBlock=some g->g≠w0.heap.size+1/\g≠w.heap.size:=fun g hg=>by
  obtain rfl:w0.heap.size=g:=by simpa [Value.ownBlock] using hg
  omega
 have R1:=R.below hb1
 have R1W:=RW.below hb1
 have hw1:=hw.trans (hb1.mono hw.size)
 obtain⟨ob,hob⟩ : ∃x,x=w0.heap.size+1:=⟨_,rfl⟩
 rw[<- hob]at O OW hox ⊢
 have hz0:w.heap.size<ob:=by omega
 have hzo:ob<w1.heap.size:=by omega
 generalize (Value.slice (some ⟨w0.heap.size,0,none⟩) 1 1)=ov0 at *
 replace T:=kH T;replace hox:=kH hox;replace hob:=kH hob;replace hn64:=kH hn64
 clear hW1 r_0 rf_0 hsR R RW hw hb1 hz1
 go_wp2_with fail
 go_loopw [15] (fun ii wr=>∃ (k:Nat) (ov:Value),k<=n/\ii=.int .i64 k/\RowAt wr ob 0 [ov]/\Wr wr ob 0 1/\Hid (OwnT w.heap.size wr ov (namedL name n (xs.take k)))/\Hid (∀g,ov.ownBlock=some g->g≠ob/\g≠w.heap.size)/\RowAt wr w.heap.size 0 [.slice none 0 0]/\Wr wr w.heap.size 0 1/\Below w.heap.size w wr/\ob<wr.heap.size) (fun ii _=>n-(intOf ii).toNat)
 case atStart=>exact⟨0,_,by omega,rfl,O,OW,T,hox,R1,R1W,hw1,hzo⟩
 case round=>
  clear O OW T hox R1 R1W hw1 hzo
  obtain⟨k,ov,hk,rfl,O,OW,OT,hox,R,RW,hw,hzo⟩:=hrel
  have hz:=hw.size
  by_cases hlt:k<n
  ·obtain⟨b1,o1,x,r,_,rfl,P1,⟨u,rfl,_,hu⟩,r1⟩:=(lK.out _ hw).get hn.out hlt
   have hstep:=namedL_take (name:=name) (n:=n) P1.out
   have hlek:=hle.out (k+1)
   rw[hstep,List.length_append]at hlek
   obtain⟨ua,uc,rfl⟩:=hu.form
   have e_0:wr.cell? ⟨b1,o1+k,none⟩=some (.slice ua x.items.length uc):=by simpa using r1 0 _ rfl
   have hbb1:=World.block_lt_of_cell? _ _ e_0;dsimp only at hbb1
   have hwf:=flatY_wf hu
   have hsuf:=(show ∃g a c,ov=.slice (some ⟨g,0,none⟩) a c from by
    rcases OT.out.1.2 with⟨h1,h2⟩|⟨g',cap',cur,hv,h⟩
    ·simp[namedL]at h2
    ·exact⟨_,_,_,hv⟩)
   obtain⟨g0,a0,c0,rfl⟩:=hsuf
   have hown:=OT.out.1
   obtain⟨vn,hvn⟩ : ∃y,y=(namedL name n (xs.take k)).length:=⟨_,rfl⟩
   obtain rfl:a0=vn:=by
    obtain⟨a',c',hv⟩:=OT.out.form
    injection hv with h1 h2 h3
    omega
   rw[<- hvn]at hown hlek
   obtain⟨un,hun⟩ : ∃y,y=x.items.length:=⟨_,rfl⟩
   rw[<- hun]at hlek e_0 hu
   replace hwf:=kH hwf;replace hu:=kH hu;replace hown:=kH hown;replace hvn:=kH hvn;replace hun:=kH hun;replace hstep:=kH hstep;replace P1:=P1
   clear r1
   have of_0:=OW.frz 0 (by omega);have o_0:=O.box1;have hsO:=bLt o_0
   go_upto_region 5 with fail
   go_region_law (refine step_append_sl _ flatTyItem (by rfl) _ _ _ (by rfl) w.heap.size 107 iI _ 32 Tryz.underlying31 II.out II0.out II1.out II2.out rfl g0 c0 a0 _ (by rfl) (own_below hown.out (by go_grown)) 0 _ x.items (by rfl) (hu.out.below GTyItem.good (by go_grown)) (by have:=hun.out;unfold maxLen;omega) (by have:=hun.out;omega) (by simp;omega) ?_;(try rw[<- hun.out]);intro g2 cap2 w6 hown6 hgrow hat;have k6:=kept_of hgrow (w:=wr) (by go_grown);have O6:=O.kept k6 (fun e=>(hox.out ob (by simpa [Value.ownBlock] using e.symm)).1 rfl);have O6W:=OW.kept k6 (fun e=>(hox.out ob (by simpa [Value.ownBlock] using e.symm)).1 rfl);have o6_0:=O6.box1;have of6:=O6W.frz 0 (by omega);have hsO6:=bLt o6_0)
   all_goals
    have hbd:Below wr.heap.size wr wr.drew:=(Below.refl _ wr).drew
    obtain⟨y1,y2,y3,y4,y5,y6,y7,y8⟩:=app_step2 (w:=w) hvn.out hun.out (O.below hbd) (OW.below hbd) (OT.out.below hbd) (R.below hbd) (RW.below hbd) (hw.trans (hbd.mono hz)) hox.out hzo (show w.heap.size<wr.heap.size by omega) (by omega) (by omega) (Nat.le_refl _) hwf.out rfl hown6 hgrow (by rcases hat with h|h;exact .inl (by rw[h];rfl);exact .inr (by omega))
    have y7' : wr.heap.size<=(w6.setCell ⟨ob,0,none⟩ (.slice (some ⟨g2,0,none⟩) (a0+un) cap2)).heap.size:=y7
    clear y7 o_0 of_0 hsO
    go_wp2_with fail
    go_roundw
    case rel=>exact⟨k+1,_,by omega,by go_num,y1,y2,kH (by rw[hstep.out];exact y3),kH y8,y4,y5,y6,by omega⟩
    case measure=>simp[intOf];omega
  ·obtain rfl:k=n:=by omega
   have hTn:=OT.out
   rw[List.take_of_length_le (by have:=hn.out;omega)]at hTn
   obtain⟨oa,oc,hov⟩:=hTn.form
   obtain⟨on,hon⟩ : ∃y,y=(namedL name k xs).length:=⟨_,rfl⟩
   rw[<- hon]at hov
   subst hov
   replace hTn:=kH hTn;replace hon:=kH hon
   clear OT
   have o_0:=O.box1;have hsO:=bLt o_0;have rf_0:=RW.frz 0 (by omega);have r_0:=R.box1;have hsR:=bLt r_0
   go_wp2_with fail
   refine bodyPost_ret (ret_ty (a:=4) Tryz.results53 rfl (R.putAt (j:=0) (by simp) (.slice oa on oc))) rfl ?_
   exact hpost.out _ _ w.heap.size (hTn.out.kept ((Kept.refl (fun q=>q=w.heap.size) wr).set (p:=⟨w.heap.size,0,none⟩) rfl _) (fun g hg e=>(hox.out g hg).2 e)) (Nat.le_refl _) (hw.setCell (p:=⟨w.heap.size,0,none⟩) (Nat.le_refl _) _)
theorem l06Name_c (name:ByteArray) (hs:StrOk name) (w:World):Calls Tryz.prog 52 #[.string name] w (TyPost (flatY (.c0 name)) w):=by
 have hc:=fun W=>l03Named_c name hs [] (by simp) (by simp[namedL]) (.slice none 0 0) W Sl.nil
 have hpost:∀W v B,OwnT B W v (namedL name 0 [])->w.heap.size<=B->Below w.heap.size w W->TyPost (flatY (.c0 name)) w (.returned (.agg #[v])) W:=fun W v B h1 h2 h3=>⟨v,rfl,h1.mono h2,h3⟩
 generalize TyPost (flatY (.c0 name)) w=Q at *
 unfold TyPost at hc
 replace hc:=kH hc;replace hpost:=kH hpost
 go_enter Tryz.func52,Tryz.ntmps52
 go_upto_region 1 with fail
 have R:RowAt (w.alloc (.cells #[.slice none 0 0] 33)) (w.heap.size) 0 [.slice none 0 0]:=RowAt.box w #[.slice none 0 0] 33
 have RW:Wr (w.alloc (.cells #[.slice none 0 0] 33)) (w.heap.size) 0 1:=Wr.box w #[.slice none 0 0] 33
 have hw:Below w.heap.size w (w.alloc (.cells #[.slice none 0 0] 33)):=by go_grown
 generalize (w.alloc (.cells #[.slice none 0 0] 33))=w0 at *
 have rf_0:=RW.frz 0 (by omega);have r_0:=R.box1;have hsR:=bLt r_0
 go_wp2_with (go_at_call 53;(with_reducible refine(hc.out _).mono ?_);rintro e w1 ⟨v,rfl,T,hb⟩;obtain⟨a1,c1,rfl⟩:=T.form;have hl1:(namedL name ([] : List GTy).length []).length=1:=rfl;rw[hl1];have R1:=R.below hb;have R1W:=RW.below hb;have r1_0:=R1.box1;have rf1:=R1W.frz 0 (by omega);have hsR1:=bLt r1_0;clear hl1)
 refine bodyPost_ret (ret_ty (a:=2) Tryz.results52 rfl (R1.putAt (j:=0) (by simp) (.slice a1 1 c1))) rfl ?_
 exact hpost.out _ _ w0.heap.size (OwnF.kept (xs:=namedL name 0 []) T ((Kept.refl (fun q=>q=w.heap.size) w1).set (p:=⟨w.heap.size,0,none⟩) rfl _) (fun g hg e=>by have:=(own_base T.1 g hg).1;omega)) hw.size ((hw.trans (hb.mono hw.size)).setCell (p:=⟨w.heap.size,0,none⟩) (Nat.le_refl _) _)
theorem ret_con {fn:Func} {tmps:Array Value} {a c i j:Nat} {g h:Nat} {v0 v1 u0 u1:Value} {w:World} (hf:fn.results = #[.cell a 33,.cell c 33,.tmp i,.tmp j]) (hp:tmps.getD a undef=.pointer (some ⟨g,0,none⟩)) (hq:tmps.getD c undef=.pointer (some ⟨h,0,none⟩)) (hi:tmps.getD i undef=u0) (hj:tmps.getD j undef=u1) (h0:RowAt w g 0 [v0]) (h1:RowAt w h 0 [v1]) :
  (results fn tmps).run Tryz.prog w=.ok (.tuple #[.agg #[v0],.agg #[v1],u0,u1]) w:=by
 have hp' : tmps[a]?.getD undef=.pointer (some ⟨g,0,none⟩):=by simpa using hp
 have hq' : tmps[c]?.getD undef=.pointer (some ⟨h,0,none⟩):=by simpa using hq
 have hi' : tmps[i]?.getD undef=u0:=by simpa using hi
 have hj' : tmps[j]?.getD undef=u1:=by simpa using hj
 have e0:=h0.box1
 have e1:=h1.box1
 simp[results,hf,go_sem,hp',hq',hi',hj',e0,e1]
theorem str_lit (a:ByteArray) (l:List UInt8):(a.toList == l)=decide (a=⟨l.toArray⟩):=by
 rw[Bool.eq_iff_iff,beq_iff_eq,decide_eq_true_iff]
 rw[<- toList_eq,ByteArray.toList_eq (⟨l.toArray⟩ : ByteArray)]
def ConPost (b:Nat) (P0 P1 lv:Value) (T:List GType) (name:ByteArray) (w:World) (s:IS) (e:Ending) (w' : World):Prop:=
 ∃ (v1 v2:Value) (has kn:Bool) (nx:Nat),e=.returned (.tuple #[.agg #[v1],.agg #[v2],.bool has,.bool kn])/\SB b P0 P1 w' ⟨s.sub,nx,s.cd,s.at_⟩ lv/\IFr b w w'/\(∃a n c,v1=.slice a n c)/\(∃a n c,v2=.slice a n c)/\
  (match conI T name s.nx with
  |some c=>kn=true/\has=c.has/\nx=s.nx+c.many/\Sl GTyItem.R 3 w.heap.size w' v1 (flatY c.own)/\(c.has=true->Sl GTyItem.R 3 w.heap.size w' v2 (flatY c.arg))
  |none=>kn=false/\nx=s.nx/\v1=.slice none 0 0)
theorem SB.same {b:Nat} {P0 P1 lv:Value} {w:World} {s:IS} (h:SB b P0 P1 w s lv):SB b P0 P1 w ⟨s.sub,s.nx,s.cd,s.at_⟩ lv:=h
theorem SB.frS {b:Nat} {P0 P1 lv:Value} {w w1 w2:World} {s:IS} {S:Nat->Prop} (h:SB b P0 P1 w1 s lv) (hk:Kept S w1 w2) (hb : ¬ S b) (hs:∀q,S q->w.heap.size<=q) (h0:s.cd=0->∀W,IFr b w W->Sl SubR 2 (b+1) W lv s.sub) (hF:IFr b w w2):SB b P0 P1 w2 s lv:=
 ⟨h.row.kept hk hb,h.wr.kept hk hb,h.form,fun hc=>h0 hc w2 hF⟩
theorem con_fin {b r1 e1:Nat} {P0 P1 lv:Value} {w w1:World} {s s' : IS} {o0 o1:Value} (hlt:b<w.heap.size) (hr:w.heap.size<=r1) (he:w.heap.size<=e1) (hre:r1≠e1) (hF:IFr b w w1) (S1:SB b P0 P1 w1 s' lv) (hsub:s'.sub=s.sub) (hs0:s'.cd=0->∀W,IFr b w W->Sl SubR 2 (b+1) W lv s.sub) (R1:RowAt w1 r1 0 [o0]) (E1:RowAt w1 e1 0 [o1]) (u0 u1:Value) (w2:World) (hw2:w2=(w1.setCell ⟨r1,0,none⟩ u0).setCell ⟨e1,0,none⟩ u1) :
  IFr b w w2/\SB b P0 P1 w2 s' lv/\RowAt w2 r1 0 [u0]/\RowAt w2 e1 0 [u1]/\Kept (fun q=>q=r1\/q=e1) w1 w2:=by
 have K:Kept (fun q=>q=r1\/q=e1) w1 w2:=by
  rw[hw2]
  exact((Kept.refl _ w1).set (S:=fun q=>q=r1\/q=e1) (p:=⟨r1,0,none⟩) (.inl rfl) _).set (p:=⟨e1,0,none⟩) (.inr rfl) _
 have F:IFr b w w2:=by rw[hw2];exact(hF.setNew hr (by omega) _).setNew he (by omega) _
 refine⟨F,S1.frS K (by omega) (fun q hq=>by omega) (fun h0 W hW=>by rw[hsub];exact hs0 h0 W hW) F,?_,?_,K⟩
 ·rw[hw2];exact(R1.putAt (j:=0) (by simp) u0).set_other hre _
 ·rw[hw2];exact(E1.set_other (fun e=>hre e.symm) _).putAt (j:=0) (by simp) u1
theorem kept_sl {S:Nat->Prop} {lo lo' : Nat} {w1 w2:World} {v:Value} {l:List GTyItem} (T:OwnT lo w1 v l) (hk:Kept S w1 w2) (hS:∀q,lo<=q->¬ S q) (hb:lo'<=lo):Sl GTyItem.R 3 lo' w2 v l:=
 ((T.kept hk (fun g hg=>hS g (T.base g hg).1)).sl flatTyItem).mono GTyItem.good hb
theorem strok {s:ByteArray} (h:s.size<=100):StrOk s:=by unfold StrOk;omega
theorem l06ConA_c {b:Nat} {P0 P1 lv:Value} {w:World} {s:IS} {T:List GType} (S:SB b P0 P1 w s lv) (hn:s.nx<=900000) (name:ByteArray) (hA:name=nmTrue\/name=nmFalse) :
  Calls Tryz.prog 94 #[.pointer (some ⟨b,0,none⟩),.string name] w (ConPost b P0 P1 lv T name w s):=by
 have hlt:=S.lt
 have hpost:∀W v1,SB b P0 P1 W s lv->IFr b w W->(∃a n c,v1=Value.slice a n c)->Sl GTyItem.R 3 w.heap.size W v1 (flatY (.c0 nmBool))->ConPost b P0 P1 lv T name w s (.returned (.tuple #[.agg #[v1],.agg #[.slice none 0 0],.bool false,.bool true])) W:=fun W v1 h1 h2 h3 h4=>by
  refine⟨v1,_,false,true,s.nx,rfl,h1,h2,h3,⟨_,_,_,rfl⟩,?_⟩
  have:conI T name s.nx=some ⟨.c0 nmBool,.c0 nmInt,false,0⟩:=by unfold conI;rw[if_pos hA]
  rw[this]
  exact⟨rfl,rfl,rfl,h4,fun h=>by cases h⟩
 generalize ConPost b P0 P1 lv T name w s=Q at *
 have c1:=str_lit name [116,114,117,101]
 have c2:=str_lit name [102,97,108,115,101]
 have cN:=fun W=>l06Name_c nmBool (strok (by decide)) W
 unfold TyPost at cN
 replace hpost:=kH hpost;replace cN:=kH cN
 have hs0:s.cd=0->∀W,IFr b w W->Sl SubR 2 (b+1) W lv s.sub:=fun h W hW=>hW.sl SubR.good (S.sl h)
 replace hs0:=kH hs0
 have hch:∀t:Bool,decide (name=(⟨[116,114,117,101].toArray⟩ : ByteArray))=t->decide (name=(⟨[102,97,108,115,101].toArray⟩ : ByteArray)) = !t->True:=fun _ _ _=>trivial
 have hd:(decide (name=(⟨[116,114,117,101].toArray⟩ : ByteArray))=true/\decide (name=(⟨[102,97,108,115,101].toArray⟩ : ByteArray))=false)\/(decide (name=(⟨[116,114,117,101].toArray⟩ : ByteArray))=false/\decide (name=(⟨[102,97,108,115,101].toArray⟩ : ByteArray))=true):=by
  rcases hA with rfl|rfl
  ·exact .inl ⟨by decide,by decide⟩
  ·exact .inr ⟨by decide,by decide⟩
 clear hA hch
 rcases hd with⟨d1,d2⟩|⟨d1,d2⟩<;>rw[d1]at c1<;>rw[d2]at c2<;>clear d1 d2
 all_goals
  go_enter Tryz.func94,Tryz.ntmps94
  go_upto_region 1 with fail
  have R:RowAt (w.alloc (.cells #[.slice none 0 0] 33)) (w.heap.size) 0 [.slice none 0 0]:=RowAt.box w #[.slice none 0 0] 33
  have RW:Wr (w.alloc (.cells #[.slice none 0 0] 33)) (w.heap.size) 0 1:=Wr.box w #[.slice none 0 0] 33
  have R:=R.below (show Below (w.alloc (.cells #[.slice none 0 0] 33)).heap.size (w.alloc (.cells #[.slice none 0 0] 33)) ((w.alloc (.cells #[.slice none 0 0] 33)).alloc (.cells #[.slice none 0 0] 33)) by go_grown)
  have RW:=RW.below (show Below (w.alloc (.cells #[.slice none 0 0] 33)).heap.size (w.alloc (.cells #[.slice none 0 0] 33)) ((w.alloc (.cells #[.slice none 0 0] 33)).alloc (.cells #[.slice none 0 0] 33)) by go_grown)
  have E:RowAt ((w.alloc (.cells #[.slice none 0 0] 33)).alloc (.cells #[.slice none 0 0] 33)) (w.heap.size+1) 0 [.slice none 0 0]:=by have h:=RowAt.box (w.alloc (.cells #[.slice none 0 0] 33)) #[.slice none 0 0] 33;simp only[World.size_alloc]at h;exact h
  have EW:Wr ((w.alloc (.cells #[.slice none 0 0] 33)).alloc (.cells #[.slice none 0 0] 33)) (w.heap.size+1) 0 1:=by have h:=Wr.box (w.alloc (.cells #[.slice none 0 0] 33)) #[.slice none 0 0] 33;simp only[World.size_alloc]at h;exact h
  have hw:Below w.heap.size w ((w.alloc (.cells #[.slice none 0 0] 33)).alloc (.cells #[.slice none 0 0] 33)):=by go_grown
  generalize ((w.alloc (.cells #[.slice none 0 0] 33)).alloc (.cells #[.slice none 0 0] 33))=w0 at *
  have rf_0:=RW.frz 0 (by omega);have r_0:=R.box1;have hsR:=bLt r_0;have ef_0:=EW.frz 0 (by omega);have e_0:=E.box1;have hsE:=bLt e_0
  have S0:=S.below hw
  go_wp2_with (go_at_call 52;(with_reducible refine(cN.out _).mono ?_);rintro e w1 ⟨v1,rfl,T1,hb1⟩;obtain⟨a1,c1',rfl⟩:=T1.form;have R1:=R.below hb1;have R1W:=RW.below hb1;have E1:=E.below hb1;have E1W:=EW.below hb1;have r1_0:=R1.box1;have rf1:=R1W.frz 0 (by omega);have e1_0:=E1.box1;have ef1:=E1W.frz 0 (by omega);have hsR1:=World.block_lt_of_cell? _ _ r1_0;have hsE1:=World.block_lt_of_cell? _ _ e1_0;dsimp only at hsR1 hsE1)
  obtain⟨w2,hW2⟩ : ∃W,W=(w1.setCell ⟨w.heap.size,0,none⟩ (.slice a1 (flatY (.c0 nmBool)).length c1')).setCell ⟨w.heap.size+1,0,none⟩ (.slice none 0 0):=⟨_,rfl⟩
  rw[<- hW2]
  obtain⟨F2,S2,R2,E2,K2⟩:=con_fin (s:=s) hlt (Nat.le_refl _) (by omega) (by omega) (IFr.of (hw.trans (hb1.mono hw.size)) (Nat.le_of_lt hlt)) (S0.below hb1) rfl hs0.out R1 E1 _ _ w2 hW2
  refine bodyPost_ret (ret_con (a:=4) (c:=5) (i:=6) (j:=7) Tryz.results94 rfl rfl rfl rfl R2 E2) rfl ?_
  exact hpost.out _ _ S2 F2 ⟨_,_,_,rfl⟩ (kept_sl T1 K2 (fun q hq=>by omega) (by omega))
end Go.Proofs.YtkikkfjmggobpaaGreat
