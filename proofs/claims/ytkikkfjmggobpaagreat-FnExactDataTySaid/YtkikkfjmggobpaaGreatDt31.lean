/- Parts of the proof, merged: Ut17, Us9, Us10, Us14, One. -/
import Derived.Deep.RegionLaw
import Derived.Deep.RegionHeld3
import Derived.Test.YtkikkfjmggobpaaGreatDt30
namespace Go.Proofs.YtkikkfjmggobpaaGreat
open Go.RowKit
set_option maxRecDepth 100000
set_option maxHeartbeats 16000000
set_option linter.unusedVariables false
set_option linter.unusedSimpArgs false
attribute [local go_sem] Ext.cell
theorem implDataTy_c (p:GProgram) (d:GData) (hs:ProgSm p) (hd:d.nodes.length<=1152921504606846976) (rp rd:List Value) (w:World) (hp:GProgram.R 0 w rp p) (hr:GData.R 0 w rd d) :
  Calls Tryz.prog 9 #[.agg rp.toArray,.agg rd.toArray] w (DtyPost (dtyP p d) w):=by
 have cC:=fun W (hW:Below w.heap.size w W)=>implCheckTypes_c p hs rp W (GProgram.good.below hp hW)
 have cO:=fun W (hW:Below w.heap.size w W)=>DataOk_c d hd rd 0 W (GData.good.below hr hW)
 have hds:dataOk d=true->DOkS d.nodes.length (treeOf d.nodes d.nodes.length 0):=fun h=>data_doksP hr h
 have hnT:dataOk d=true->nT (treeOf d.nodes d.nodes.length 0)<=600:=nT_data
 obtain⟨u0,u1,rfl,_,hT,hN⟩:=hp
 obtain⟨na,nc,rfl⟩:=hN.form
 obtain⟨ta,tc,rfl⟩:=hT.form
 have htys:chkOk p->TysOk p.types:=fun h=>tys_ok h.1 hT
 obtain⟨u,rfl,-,hs2⟩:=hr
 obtain⟨ua,uc,rfl⟩:=hs2.form
 have cG:dataOk d=true->∀W (hW:Below w.heap.size w W),Calls Tryz.prog 32 #[.slice ua d.nodes.length uc,.int .i64 0] W fun e w'=>∃b,e=.returned (.pointer (some ⟨b,0,none⟩))/\PxR d.nodes.length (fun b=>W.heap.size<=b) w' (.pointer (some ⟨b,0,none⟩)) (treeOf d.nodes d.nodes.length 0)/\Below W.heap.size W w':=fun h W hW=>by
  obtain⟨hU,h0,h6⟩:=dataOk_up h
  exact growData_c d.nodes hU (dataOk_few h) h6 d.nodes.length 0 _ 0 W (hs2.below GDNode.good hW) h0 (by omega)
 have hmem:∀W b,Below w.heap.size w W->w.heap.size<=b->TyMem b (.slice ta p.types.length tc) p.types W:=fun W b h1 h2=>⟨w,hT,h2,h1⟩
 have hpost:∀W v l c,dtyP p d=(l,c)->OwnT w.heap.size W v l->Below w.heap.size w W->DtyPost (dtyP p d) w (.returned (.tuple #[.agg #[v],.int .i64 c])) W:=fun W v l c h h1 h2=>by rw[h];exact⟨v,rfl,h1,h2⟩
 have hno:=fun h=>dtyP_no (p:=p) (d:=d) h
 have hfin:chkOk p/\dataOk d=true->dtyP p d=((toldP (dtyM p d).2 (dtyM p d).1).1,(toldP (dtyM p d).2 (dtyM p d).1).2.1):=fun h=>by
  unfold toldP
  by_cases h2:(dtyM p d).2.cd=0
  ·by_cases h3:200<szY (subY (dtyM p d).2.sub (dtyM p d).1)
   ·rw[dtyP_big h h2 h3,if_neg (fun h=>h h2),if_pos h3]
   ·rw[dtyP_ok h h2 h3,if_neg (fun h=>h h2),if_neg h3]
  ·rw[dtyP_cd h h2,if_pos h2]
 have hM0:dtyM p d=dataY p.types d.nodes.length (treeOf d.nodes d.nodes.length 0) is0:=rfl
 generalize DtyPost (dtyP p d) w=Q at *
 generalize dtyP p d=A at *
 generalize dtyM p d=M at *
 obtain⟨dq,hdq⟩ : ∃q,q=dataOk d:=⟨_,rfl⟩
 rw[<- hdq]at cO hds hnT cG hno hfin
 have cD:=fun(hT' : TysOk p.types) b P1=>data_all (b:=b) (tn:=p.types.length) (tc:=tc) (ta:=ta) (P1:=P1) hT' d.nodes.length (treeOf d.nodes d.nodes.length 0)
 obtain⟨tn,htn⟩ : ∃q,q=p.types.length:=⟨_,rfl⟩
 obtain⟨nn,hnn⟩ : ∃q,q=p.nodes.length:=⟨_,rfl⟩
 obtain⟨dn,hdn⟩ : ∃q,q=d.nodes.length:=⟨_,rfl⟩
 rw[<- htn]at cC hmem cD ⊢
 rw[<- hnn]at cC ⊢
 rw[<- hdn]at cO cG hds hnT cD hM0 ⊢
 show Calls Tryz.prog 9 #[.agg #[.slice ta tn tc,.slice na nn nc],.agg #[.slice ua dn uc]] w _
 replace cC:∀W,Below w.heap.size w W->Calls Tryz.prog 28 #[.agg #[.slice ta tn tc,.slice na nn nc]] W fun e w'=>CTPost (chkOk p) W e w':=cC
 replace cO:∀W,Below w.heap.size w W->Calls Tryz.prog 29 #[.agg #[.slice ua dn uc]] W fun e w'=>e=.returned (.bool dq)/\Below W.heap.size W w':=cO
 unfold CTPost at cC
 have hok:=fun(hT' : TysOk p.types) (h2:dq=true)=>dataY_ok hT' dn (treeOf d.nodes dn 0) is0 (hds h2) is0_good
 generalize treeOf d.nodes dn 0=tr at *
 generalize chkOk p=Cq at *
 generalize p.types=Ts at *
 replace cC:=kH cC;replace cO:=kH cO;replace hds:=kH hds;replace hnT:=kH hnT;replace htys:=kH htys;replace cG:=kH cG;replace hmem:=kH hmem;replace hpost:=kH hpost;replace hno:=kH hno;replace hfin:=kH hfin;replace hM0:=kH hM0;replace hdq:=kH hdq;replace cD:=kH cD;replace htn:=kH htn;replace hnn:=kH hnn;replace hdn:=kH hdn;replace hok:=kH hok
 clear hs hd hT hN hs2
 go_enter Tryz.func9,Tryz.ntmps9
 go_upto_region 1 with fail
 have B:RowAt (w.alloc (.cells #[.slice ta tn tc,.slice na nn nc] 39)) (w.heap.size) 0 [.slice ta tn tc,.slice na nn nc]:=RowAt.box w #[.slice ta tn tc,.slice na nn nc] 39
 have B:=B.below (show Below (w.alloc (.cells #[.slice ta tn tc,.slice na nn nc] 39)).heap.size (w.alloc (.cells #[.slice ta tn tc,.slice na nn nc] 39)) ((w.alloc (.cells #[.slice ta tn tc,.slice na nn nc] 39)).alloc (.cells #[.slice ua dn uc] 43)) by go_grown)
 have D:RowAt ((w.alloc (.cells #[.slice ta tn tc,.slice na nn nc] 39)).alloc (.cells #[.slice ua dn uc] 43)) (w.heap.size+1) 0 [.slice ua dn uc]:=by have h:=RowAt.box (w.alloc (.cells #[.slice ta tn tc,.slice na nn nc] 39)) #[.slice ua dn uc] 43;simp only[World.size_alloc]at h;exact h
 have B:=B.below (show Below ((w.alloc (.cells #[.slice ta tn tc,.slice na nn nc] 39)).alloc (.cells #[.slice ua dn uc] 43)).heap.size ((w.alloc (.cells #[.slice ta tn tc,.slice na nn nc] 39)).alloc (.cells #[.slice ua dn uc] 43)) (((w.alloc (.cells #[.slice ta tn tc,.slice na nn nc] 39)).alloc (.cells #[.slice ua dn uc] 43)).alloc (.cells #[.slice none 0 0] 33)) by go_grown)
 have D:=D.below (show Below ((w.alloc (.cells #[.slice ta tn tc,.slice na nn nc] 39)).alloc (.cells #[.slice ua dn uc] 43)).heap.size ((w.alloc (.cells #[.slice ta tn tc,.slice na nn nc] 39)).alloc (.cells #[.slice ua dn uc] 43)) (((w.alloc (.cells #[.slice ta tn tc,.slice na nn nc] 39)).alloc (.cells #[.slice ua dn uc] 43)).alloc (.cells #[.slice none 0 0] 33)) by go_grown)
 have R:RowAt (((w.alloc (.cells #[.slice ta tn tc,.slice na nn nc] 39)).alloc (.cells #[.slice ua dn uc] 43)).alloc (.cells #[.slice none 0 0] 33)) (w.heap.size+1+1) 0 [.slice none 0 0]:=by have h:=RowAt.box ((w.alloc (.cells #[.slice ta tn tc,.slice na nn nc] 39)).alloc (.cells #[.slice ua dn uc] 43)) #[.slice none 0 0] 33;simp only[World.size_alloc]at h;exact h
 have RW:Wr (((w.alloc (.cells #[.slice ta tn tc,.slice na nn nc] 39)).alloc (.cells #[.slice ua dn uc] 43)).alloc (.cells #[.slice none 0 0] 33)) (w.heap.size+1+1) 0 1:=by have h:=Wr.box ((w.alloc (.cells #[.slice ta tn tc,.slice na nn nc] 39)).alloc (.cells #[.slice ua dn uc] 43)) #[.slice none 0 0] 33;simp only[World.size_alloc]at h;exact h
 have hw:Below w.heap.size w (((w.alloc (.cells #[.slice ta tn tc,.slice na nn nc] 39)).alloc (.cells #[.slice ua dn uc] 43)).alloc (.cells #[.slice none 0 0] 33)):=by go_grown
 generalize (((w.alloc (.cells #[.slice ta tn tc,.slice na nn nc] 39)).alloc (.cells #[.slice ua dn uc] 43)).alloc (.cells #[.slice none 0 0] 33))=w0 at *
 have hsR0:=World.block_lt_of_cell? _ _ (R 0 _ rfl)
 dsimp only at hsR0
 obtain⟨b_0,b_1⟩:=B.box2;have hsB:=bLt b_0;have d_0:=D.box1;have hsD:=bLt d_0
 go_upto_region 2 with(go_at_call 28;(with_reducible refine(cC.out _ hw).mono ?_);rintro e w1 ⟨⟨c,i,rfl,hcq⟩,hb⟩;have R1:=R.below hb;have R1W:=RW.below hb;have hw:=hw.trans (hb.mono hw.size);have B:=B.below hb;obtain⟨b_0,b_1⟩:=B.box2;have hsB:=bLt b_0;have D:=D.below hb;have d_0:=D.box1;have hsD:=bLt d_0;clear hb;replace hcq:=kH hcq)
 have hsR1:=World.block_lt_of_cell? _ _ (R1 0 _ rfl)
 dsimp only at hsR1
 clear R RW cC
 by_cases hc:c=0
 rotate_left
 ·have dc:(c != 0)=true:=by simpa using hc
  have hA:=hno.out (fun h=>hc (hcq.out.2 h.1))
  have hp:=fun W v=>hpost.out W v _ _ hA
  replace hp:=kH hp
  clear hno hfin hcq
  have r1f_0:=R1W.frz 0 (by omega);have r1_0:=R1.box1;have hsR1:=bLt r1_0
  go_wp2_with fail
  refine bodyPost_ret (ret_dty (a:=4) (i:=5) Tryz.results9 rfl rfl (R1.putAt (j:=0) (by simp) (.slice none 0 0))) rfl ?_
  exact hp.out _ _ OwnF.empty (hw.setCell (p:=⟨w.heap.size+1+1,0,none⟩) (by dsimp only;omega) _)
 have hC:Cq:=hcq.out.1 hc
 have dc:(c != 0)=false:=by rw[hc];rfl
 cases dq
 ·have hA:=hno.out (fun h=>by cases h.2)
  have hp:=fun W v=>hpost.out W v _ _ hA
  replace hp:=kH hp
  clear hno hfin hcq cG hds hnT hok
  go_wp2_with (go_at_call 29;(with_reducible refine(cO.out _ hw).mono ?_);rintro e w2 ⟨rfl,hb⟩;have R2:=R1.below hb;have R2W:=R1W.below hb;have hw:=hw.trans (hb.mono hw.size);have B:=B.below hb;obtain⟨b_0,b_1⟩:=B.box2;have hsB:=bLt b_0;have D:=D.below hb;have d_0:=D.box1;have hsD:=bLt d_0;clear hb;have r2f_0:=R2W.frz 0 (by omega);have r2_0:=R2.box1;have hsR2:=bLt r2_0)
  refine bodyPost_ret (ret_dty (a:=4) (i:=5) Tryz.results9 rfl rfl (R2.putAt (j:=0) (by simp) (.slice none 0 0))) rfl ?_
  exact hp.out _ _ OwnF.empty (hw.setCell (p:=⟨w.heap.size+1+1,0,none⟩) (by dsimp only;omega) _)
 ·have hA:=hfin.out ⟨hC,rfl⟩
  have hT':=htys.out hC
  have hok':=hok.out hT' rfl
  have cG':=cG.out rfl
  have hds':=hds.out rfl
  have hnT':=hnT.out rfl
  have cD':=fun b P1=>cD.out hT' b P1
  replace hA:=kH hA;replace hok':=kH hok';replace cG':=kH cG';replace hds':=kH hds';replace cD':=kH cD'
  clear hno hfin cG hds hnT hok htys cD hcq
  go_upto_region 4 with(go_at_call 29;(with_reducible refine(cO.out _ hw).mono ?_);rintro e w2 ⟨rfl,hb⟩;have R2:=R1.below hb;have R2W:=R1W.below hb;have hw:=hw.trans (hb.mono hw.size);have B:=B.below hb;obtain⟨b_0,b_1⟩:=B.box2;have hsB:=bLt b_0;have D:=D.below hb;have d_0:=D.box1;have hsD:=bLt d_0;clear hb)
  clear cO
  go_upto_region 5 with fail
  obtain⟨w3,hW3⟩ : ∃W,W=w2.alloc (.cells #[.slice ta tn tc,.slice na nn nc,.slice none 0 0,.int .i64 0,.int .i64 0,.int .i64 0] 72):=⟨_,rfl⟩
  rw[<- hW3]
  have hb3:Below w2.heap.size w2 w3:=by rw[hW3];go_grown
  have I3:RowAt w3 w2.heap.size 0 [.slice ta tn tc,.slice na nn nc,.slice none 0 0,.int .i64 0,.int .i64 0,.int .i64 0]:=by rw[hW3];exact RowAt.box w2 #[_,_,_,_,_,_] _
  have I3W:Wr w3 w2.heap.size 0 6:=by rw[hW3];exact Wr.box w2 #[_,_,_,_,_,_] _
  have hz3:w2.heap.size+1<=w3.heap.size:=by rw[hW3];simp
  have R3:=R2.below hb3
  have R3W:=R2W.below hb3
  have D3:=D.below hb3
  have hsR2:=World.block_lt_of_cell? _ _ (R2 0 _ rfl)
  dsimp only at hsR2
  have hw3:=hw.trans (hb3.mono hw.size)
  have hzw:=hw.size
  obtain⟨b,hbb⟩ : ∃q,q=w2.heap.size:=⟨_,rfl⟩
  rw[<- hbb]at I3 I3W hz3 hsR2 hzw ⊢
  have S3:SB b (.slice ta tn tc) (.slice na nn nc) w3 is0 (.slice none 0 0):=⟨I3,I3W,⟨_,_,_,rfl⟩,fun _=>Sl.nil⟩
  have M3:=hmem.out w3 b hw3 hzw
  have hblt:b<w3.heap.size:=by omega
  have cGr:=cG'.out w3 hw3
  have cDa:=fun W lv pv (hS:SB b (.slice ta tn tc) (.slice na nn nc) W is0 lv) (hF:IFr b w3 W) (hX:PxR dn (fun q=>b<q) W pv tr)=>cD'.out b (.slice na nn nc) hds'.out is0 lv pv W hS (M3.fr hF) is0_good rfl (by show 0+2*nT tr<=600000;omega) hX
  unfold DaPost at cDa
  rw[<- hM0.out]at cDa
  have hgM:=hok'.out.good
  have htyM:=hok'.out.ty
  rw[<- hM0.out]at hgM htyM
  have cTo:=fun W lv tv (hS:SB b (.slice ta tn tc) (.slice na nn nc) W M.2 lv) (hV:TV b (3*nT tr) M.2.cd W tv M.1)=>told_c hS hgM hV (by omega) (fun h=>(htyM h).2)
  unfold ToPost at cTo
  replace hbb:=kH hbb;replace cGr:=kH cGr;replace cDa:=kH cDa;replace cTo:=kH cTo;replace M3:=kH M3;replace htyM:=kH htyM;replace hgM:=kH hgM
  generalize toldP M.2 M.1=To at *
  clear hW3 hb3 b_0 b_1 hsB d_0 hsD B D R2 R2W hw hmem cG' cD' hok' hds' hM0 I3 I3W
  have d3_0:=D3.box1;have hsD3:=bLt d3_0
  go_upto_region 6 with(first
   |(go_at_call 32;(with_reducible refine(cGr.out).mono ?_);rintro e w4 ⟨q4,rfl,X4,hb4⟩;have S4:=S3.below hb4;have F4:=IFr.of hb4 (Nat.le_of_lt hblt);have X4':=X4.to (Same.below (Below.refl _ _)) (S':=fun q=>b<q) (fun q h1 h2=>by omega);replace X4':=kH X4';replace F4:=kH F4)
   |(go_at_call 31;(with_reducible refine(cDa.out _ _ _ S4 F4.out X4'.out).mono ?_);rintro e w5 ⟨v5,lv5,rfl,S5,F5,T5⟩;have F45:=F4.out.trans F5)
   |(go_at_call 30;(with_reducible refine(cTo.out _ _ _ S5 T5).mono ?_);rintro e w6 ⟨v6,rfl,T6,hb6⟩;obtain⟨a6,c6,rfl⟩:=T6.form))
  have hne : ¬ (w.heap.size+1+1=b):=by omega
  have R5:=(F45.row R3 hne).below hb6
  have R5W:=(R3W.kept F45.kept hne).below hb6
  obtain⟨n6,hn6⟩ : ∃q,q=To.1.length:=⟨_,rfl⟩
  rw[<- hn6]at T6 ⊢
  obtain⟨w7,hW7⟩ : ∃W,W=w6.alloc (.cells #[.slice a6 n6 c6] 33):=⟨_,rfl⟩
  rw[<- hW7]
  have hb7:Below w6.heap.size w6 w7:=by rw[hW7];go_grown
  have V7:RowAt w7 w6.heap.size 0 [.slice a6 n6 c6]:=by rw[hW7];exact RowAt.box w6 #[_] _
  have R7:=R5.below hb7
  have R7W:=R5W.below hb7
  have T7:=T6.below hb7
  have hzF:=F45.size
  have hw7:Below w.heap.size w w7:=(hw3.trans (F45.below.mono hzw)).trans ((hb6.trans (hb7.mono hb6.size)).mono (by have:=hw3.size;omega))
  have hbs:=T7.base
  have hz5:w.heap.size+1+1<w5.heap.size:=by omega
  obtain⟨vb,hvb⟩ : ∃q,q=w6.heap.size:=⟨_,rfl⟩
  rw[<- hvb]at V7 ⊢
  replace hn6:=kH hn6;replace T7:=kH T7;replace hbs:=kH hbs;replace hvb:=kH hvb
  clear hW7 hb7 T6 R5 R5W d3_0 hsD3 D3
  have v7_0:=V7.box1;have hsV7:=bLt v7_0;have r7f_0:=R7W.frz 0 (by omega);have r7_0:=R7.box1;have hsR7:=bLt r7_0
  go_wp2_with fail
  refine bodyPost_ret (ret_dty (a:=4) (i:=5) Tryz.results9 rfl rfl (R7.putAt (j:=0) (by simp) (.slice a6 n6 c6))) rfl ?_
  exact hpost.out _ _ _ _ hA.out ((T7.out.mono (by omega)).kept ((Kept.refl (fun q=>q=w.heap.size+1+1) w7).set (p:=⟨w.heap.size+1+1,0,none⟩) rfl _) (fun g hg e=>by have:=hbs.out g hg;omega)) (hw7.setCell (p:=⟨w.heap.size+1+1,0,none⟩) (by dsimp only;omega) _)
theorem ty_f0 (a:Option Addr) (n c:Nat) (W:World):(Instr.field 33 (.agg #[.slice a n c]) 0).run Tryz.prog W=.ok (.slice a n c) W:=by kernel_rfl
theorem l06Big_c {b m:Nat} {P0 P1 lv v:Value} {w:World} {s:IS} {t:TyT} (S:SB b P0 P1 w s lv) (hg:s.Good) (hn:s.nx<=1000000) (hm:m<=1000000) (ht:TV b m s.cd w v t) (hi:s.cd=0->TyIn s t) (a:Int) :
  Calls Tryz.prog 96 #[.pointer (some ⟨b,0,none⟩),.agg #[v],.int .i64 a] w fun e w'=>e=.returned (.tuple #[])/\SB b P0 P1 w' (s.big t a) lv/\IFr b w w':=by
 have hlt:=S.lt
 by_cases h0:s.cd=0
 ·have hT:=ht.good h0
  have htm:szY t<=m:=by obtain⟨l,h1,h2,h3⟩:=ht;rw[<- flatY_len,<- h3 h0];exact h2
  obtain⟨g1,g2⟩:=hg.sub h0
  obtain⟨i1,i2⟩:=hi h0
  have hSl:=S.sl h0
  have hz:=sz_sub g1.sz t
  have cA:∀W,Below w.heap.size w W->Calls Tryz.prog 24 #[.agg #[v],lv] W (TyPost (flatY (subY s.sub t)) W):=fun W hW=>by
   rw[<- putL_flat _ _ i2]
   exact l05Apply_c (flatY t) s.sub g1.keys (by rw[putL_flat _ _ i2,flatY_len];omega) v lv W ((hT.below GTyItem.good hW).mono GTyItem.good (Nat.zero_le _)) ((hSl.below SubR.good hW).mono SubR.good (Nat.zero_le _))
  unfold TyPost at cA
  have hfl:=flatY_len (subY s.sub t)
  have hbig:s.big t a=if 200<szY (subY s.sub t) then s.fault 26 a else s:=by unfold IS.big;by_cases h:200<szY (subY s.sub t)<;>simp[h0,h]
  rw[hbig]
  obtain⟨s',hs'⟩ : ∃s',s' = if 200<szY (subY s.sub t) then s.fault 26 a else s:=⟨_,rfl⟩
  rw[<- hs']
  have cF:=fun W (h:SB b P0 P1 W s lv)=>l06Fault_c h 26 a (by decide)
  obtain⟨va,vn,vc,rfl⟩:=ht.form
  obtain⟨la,ln,lc,rfl⟩:=S.form
  generalize szY (subY s.sub t)=z at *
  clear hT hSl htm hz g1 g2 i1 i2 hi hbig ht hg
  replace cA:=kH cA;replace hfl:=kH hfl;replace cF:=kH cF;replace hs':=kH hs'
  go_enter Tryz.func96,Tryz.ntmps96
  go_upto_region 1 with fail
  have T:RowAt (w.alloc (.cells #[.slice va vn vc] 33)) (w.heap.size) 0 [.slice va vn vc]:=RowAt.box w #[.slice va vn vc] 33
  have hw:Below w.heap.size w (w.alloc (.cells #[.slice va vn vc] 33)):=by go_grown
  generalize (w.alloc (.cells #[.slice va vn vc] 33))=w0 at *
  have S0:=S.below hw
  obtain⟨⟨s_0,s_1,s_2,s_3,s_4,s_5⟩,-⟩:=S0.cells
  rw[h0]at s_4
  have t_0:=T.box1;have hsT:=bLt t_0
  have hz0:=hw.size
  go_cut [21] (fun sx wx=>sx=.bool (decide ((200:Int)<(z:Int)))/\Hid (Below w.heap.size w wx))
  case first=>
   go_region_law (go_simp;go_at_call 24;(with_reducible refine(cA.out _ (hw.trans (by go_grown))).mono ?_);rintro e w1 ⟨v1,rfl,T1,hb1⟩;obtain⟨a1,c1,rfl⟩:=T1.form;rw[hfl.out]at T1 ⊢;have hf0:=ty_f0 a1 z c1)
   all_goals go_wp2_with fail
   all_goals go_meet
   all_goals exact⟨rfl,kH (hw.drew.trans (hb1.mono hz0))⟩
  obtain⟨rfl,hcw⟩:=hcut
  have Sc:=S.below hcw.out
  have Fc:=IFr.of hcw.out (Nat.le_of_lt hlt)
  clear cA T S0 s_0 s_1 s_2 s_3 s_4 s_5 t_0 hsT hw hz0
  by_cases h2:200<z
  ·obtain rfl:=hs'.out.trans (if_pos h2)
   have d2:decide ((200:Int)<(z:Int))=true:=decide_eq_true (by omega)
   rw[d2]
   have cF':=cF.out _ Sc
   replace cF':=kH cF'
   clear cF h2 d2
   go_wp2_with (go_at_call 95;(with_reducible refine(cF'.out).mono ?_);rintro e w2 ⟨rfl,S2,F2⟩)
   go_returns
   exact⟨rfl,S2,Fc.trans F2⟩
  ·obtain rfl:=hs'.out.trans (if_neg h2)
   have d2:decide ((200:Int)<(z:Int))=false:=decide_eq_false (by omega)
   rw[d2]
   clear h2 d2
   go_wp2_with fail
   go_returns
   exact⟨rfl,Sc,Fc⟩
 ·have hbig:s.big t a=s:=by unfold IS.big;rw[if_neg (fun h=>h0 h.1)]
  rw[hbig]
  have d0:(s.cd == 0)=false:=beq_eq_false_iff_ne.2 h0
  obtain⟨va,vn,vc,rfl⟩:=ht.form
  clear hi ht hbig
  go_enter Tryz.func96,Tryz.ntmps96
  go_upto_region 1 with fail
  have T:RowAt (w.alloc (.cells #[.slice va vn vc] 33)) (w.heap.size) 0 [.slice va vn vc]:=RowAt.box w #[.slice va vn vc] 33
  have hw:Below w.heap.size w (w.alloc (.cells #[.slice va vn vc] 33)):=by go_grown
  generalize (w.alloc (.cells #[.slice va vn vc] 33))=w0 at *
  have S0:=S.below hw
  obtain⟨⟨s_0,s_1,s_2,s_3,s_4,s_5⟩,-⟩:=S0.cells
  have t_0:=T.box1;have hsT:=bLt t_0
  have hlt0:=S0.lt
  (refine wp_region_ext_lit (by kernel_rfl) (by kernel_rfl) ?_;(repeat (any_goals (first|go_big_quiet_step (fail)|quiet_step (fail)|(refine wpQuiet_step (fun K hK=>?_);go_simp;split<;>(refine hK _ ?_;clear hK K)))));all_goals (refine wpQuiet_nil ?_;rintro wq ⟨⟨_,hbq⟩,rfl⟩))
  go_wp2_with fail
  go_returns
  exact⟨rfl,S0.below hbq,IFr.of (hw.trans (hbq.mono hw.size)) (Nat.le_of_lt hlt)⟩
theorem l06Demand_c {b m:Nat} {P0 P1 lv av cv:Value} {w:World} {s:IS} {x y:TyT} (S:SB b P0 P1 w s lv) (hg:s.Good) (hn:s.nx<=1000000) (hm:m<=1000000) (hx:TV b m s.cd w av x) (hy:TV b m s.cd w cv y) (ix:s.cd=0->TyIn s x) (iy:s.cd=0->TyIn s y) (a:Int) (ha:I64 a) :
  Calls Tryz.prog 55 #[.pointer (some ⟨b,0,none⟩),.agg #[av],.agg #[cv],.int .i64 a] w fun e w'=>e=.returned (.tuple #[])/\∃lv',SB b P0 P1 w' (s.demand x y a) lv'/\IFr b w w':=by
 have hlt:=S.lt
 have cB1:=fun W (SW:SB b P0 P1 W s lv) (hW:TV b m s.cd W av x)=>l06Big_c SW hg hn hm hW ix a
 have hg1:=hg.big x ha
 have hn1:(s.big x a).nx<=1000000:=by rw[IS.big_nx];exact hn
 have hc1:(s.big x a).cd=0->s.cd=0:=fun h=>(IS.big_ok h).2.1
 have cB2:=fun W (SW:SB b P0 P1 W (s.big x a) lv) (hW:TV b m (s.big x a).cd W cv y)=>l06Big_c SW hg1 hn1 hm hW (fun h=>(iy (hc1 h)).up (by rw[IS.big_nx];exact Nat.le_refl _)) a
 have hd0:((s.big x a).big y a).cd≠0->s.demand x y a=(s.big x a).big y a:=fun h=>by unfold IS.demand;rw[if_neg h]
 have hd1:((s.big x a).big y a).cd=0->(s.big x a).big y a=s/\s.cd=0/\s.demand x y a=(if (unifyY x y s.sub).1=0 then ⟨(unifyY x y s.sub).2,s.nx,0,s.at_⟩ else s.fault (22+(unifyY x y s.sub).1) a)/\(0<=(unifyY x y s.sub).1/\(unifyY x y s.sub).1<=4)/\
   ∀W,SB b P0 P1 W s lv->TV b m s.cd W av x->TV b m s.cd W cv y->Calls Tryz.prog 97 #[.agg #[av],.agg #[cv],lv] W (BindPost (b+1) (unifyY x y s.sub) W):=fun h=>by
  obtain⟨h1,h2,h3,h4⟩:=IS.big2_ok h
  obtain⟨g1,g2⟩:=hg.sub h2
  obtain⟨f,hf⟩:=unifyY_is (by omega) g1 (ix h2).1 (iy h2).1
  refine⟨h1,h2,by unfold IS.demand;rw[if_pos h],unify_code _ _ _ _ _ _ hf,fun W SW hxW hyW=>?_⟩
  exact l05Unify_c s.nx (by omega) (by omega) f x y s.sub _ hf g1 (ix h2).1 (iy h2).1 (ix h2).2 (iy h2).2 g2 (SmY.of (Nat.le_trans (subY_sz x) h3)) (SmY.of (Nat.le_trans (subY_sz y) h4)) av cv lv (b+1) W (by have:=SW.lt;omega) (hxW.good h2) (hyW.good h2) (SW.sl h2)
 have cF:=fun W c (h:SB b P0 P1 W s lv) (hc:0<c)=>l06Fault_c h c a hc
 generalize hD:s.demand x y a=D at *
 generalize hE:(s.big x a).big y a=E at *
 generalize hU:unifyY x y s.sub=U at *
 unfold BindPost at hd1
 obtain⟨xa,xn,xc,rfl⟩:=hx.form
 obtain⟨ya,yn,yc,rfl⟩:=hy.form
 obtain⟨la,ln,lc,rfl⟩:=S.form
 replace cB1:=kH cB1;replace cB2:=kH cB2;replace hd0:=kH hd0;replace hd1:=kH hd1;replace cF:=kH cF;replace hD:=kH hD;replace hE:=kH hE;replace hU:=kH hU;replace hx:=kH hx;replace hy:=kH hy;replace hc1:=kH hc1
 clear ix iy hg hg1
 go_enter Tryz.func55,Tryz.ntmps55
 go_upto_region 1 with fail
 have A:RowAt (w.alloc (.cells #[.slice xa xn xc] 33)) (w.heap.size) 0 [.slice xa xn xc]:=RowAt.box w #[.slice xa xn xc] 33
 have A:=A.below (show Below (w.alloc (.cells #[.slice xa xn xc] 33)).heap.size (w.alloc (.cells #[.slice xa xn xc] 33)) ((w.alloc (.cells #[.slice xa xn xc] 33)).alloc (.cells #[.slice ya yn yc] 33)) by go_grown)
 have C:RowAt ((w.alloc (.cells #[.slice xa xn xc] 33)).alloc (.cells #[.slice ya yn yc] 33)) (w.heap.size+1) 0 [.slice ya yn yc]:=by have h:=RowAt.box (w.alloc (.cells #[.slice xa xn xc] 33)) #[.slice ya yn yc] 33;simp only[World.size_alloc]at h;exact h
 have hw:Below w.heap.size w ((w.alloc (.cells #[.slice xa xn xc] 33)).alloc (.cells #[.slice ya yn yc] 33)):=by go_grown
 generalize ((w.alloc (.cells #[.slice xa xn xc] 33)).alloc (.cells #[.slice ya yn yc] 33))=w0 at *
 have S0:=S.below hw
 have F0:=IFr.of hw (Nat.le_of_lt hlt)
 have a_0:=A.box1;have hsA:=bLt a_0;have c_0:=C.box1;have hsC:=bLt c_0
 go_upto_region 2 with(go_at_call 96;(with_reducible refine(cB1.out _ S0 (hx.out.fr F0)).mono ?_);rintro e w1 ⟨rfl,S1,F1⟩)
 have F01:=F0.trans F1
 have A1:=F1.row A (by omega)
 have C1:=F1.row C (by omega)
 have hy1:=(hy.out.fr F01).cd (cd':=(s.big x a).cd) hc1.out (Nat.le_refl _)
 replace hy1:=kH hy1
 clear a_0 hsA A c_0 hsC C S0 F0 F1 hw cB1
 have a1_0:=A1.box1;have hsA1:=bLt a1_0;have c1_0:=C1.box1;have hsC1:=bLt c1_0
 go_upto_region 3 with(go_at_call 96;(with_reducible refine(cB2.out _ S1 hy1.out).mono ?_);rintro e w2 ⟨rfl,S2,F2⟩)
 have F02:=F01.trans F2
 have A2:=F2.row A1 (by omega)
 have C2:=F2.row C1 (by omega)
 clear a1_0 hsA1 A1 c1_0 hsC1 C1 S1 F01 F2 hy1 cB2
 have a2_0:=A2.box1;have hsA2:=bLt a2_0;have c2_0:=C2.box1;have hsC2:=bLt c2_0
 obtain⟨⟨s_0,s_1,s_2,s_3,s_4,s_5⟩,sf_2,sf_3,sf_4,sf_5⟩:=S2.cells
 have hlt2:=S2.lt
 by_cases h0:E.cd=0
 ·obtain⟨rfl,h2,h3,h4,h5⟩:=hd1.out h0
  have h6:=fun W (hW:Below w2.heap.size w2 W)=>h5 W (S2.below hW) ((hx.out.fr F02).below hW) ((hy.out.fr F02).below hW)
  obtain⟨uc,us⟩:=U
  dsimp only at h3 h4 h6
  rw[h0]at s_4
  have hus:uc=0->∀W v,(∃a n c,v=Value.slice a n c)->SB b P0 P1 W E (.slice la ln lc)->Sl SubR 2 (b+1) W v us->SB b P0 P1 (W.setCell ⟨b,2,none⟩ v) D v:=fun h W v h7 h8 h9=>by
   rw[h3,if_pos h]
   have h10:=h8.subs v us h7 h9
   rw[h2]at h10;exact h10
  have huf:uc≠0->D=E.fault (22+uc) a:=fun h=>by rw[h3,if_neg h]
  clear h3 h5 hd0 hd1
  replace h6:=kH h6;replace hus:=kH hus;replace huf:=kH huf;replace h2:=kH h2
  have hz2:=F02.size
  go_upto_region 4 with fail
  by_cases hu:uc=0
  ·subst hu
   go_region_held3 (fun w'=>w'.cell? ⟨w.heap.size,0,none⟩=some (.slice xa xn xc)/\w'.cell? ⟨w.heap.size+1,0,none⟩=some (.slice ya yn yc)/\w'.cell? ⟨b,2,none⟩=some (.slice la ln lc)) (first|exact⟨a2_0,c2_0,s_2⟩|exact⟨u_0,v_0,t_2⟩|go_keep) (first|(go_at_call 97;(with_reducible refine(h6.out _ ((Below.refl _ w2).drew)).mono ?_);rintro e w4 ⟨lv4,rfl,⟨a4,n4,c4,rfl⟩,hs4,hb4'⟩;have hb4:Below w2.heap.size w2 w4:=(Below.refl _ w2).drew.trans hb4';have u_0:=(A2.below hb4).box1;have v_0:=(C2.below hb4).box1;have S4:=S2.below hb4;obtain⟨⟨t_0,t_1,t_2,t_3,t_4,t_5⟩,tf_2,tf_3,tf_4,tf_5⟩:=S4.cells;rw[h0]at t_4;replace hs4:=kH hs4;replace hb4:=kH hb4;replace hb4':=kH hb4'))
   all_goals go_wp2_with fail
   all_goals go_returns
   all_goals exact⟨rfl,_,hus.out (by first|rfl|trivial) w4 _ ⟨_,_,_,rfl⟩ S4 (hs4.out (by first|rfl|trivial)),(F02.grow hb4.out (by omega)).set 2 _⟩
  ·have d5:(uc != 0)=true:=by simpa using hu
   have d6:(uc == 0)=false:=beq_eq_false_iff_ne.2 hu
   have hw5:IntKind.i64.wrap (22+uc)=22+uc:=by rw[IntKind.wrap_i64];omega
   obtain rfl:=huf.out hu
   replace hu:=kH hu
   go_region_held3 (fun w'=>w'.cell? ⟨w.heap.size,0,none⟩=some (.slice xa xn xc)/\w'.cell? ⟨w.heap.size+1,0,none⟩=some (.slice ya yn yc)/\w'.cell? ⟨b,2,none⟩=some (.slice la ln lc)) (first|exact⟨a2_0,c2_0,s_2⟩|exact⟨u_0,v_0,t_2⟩|go_keep) (first|(go_at_call 97;(with_reducible refine(h6.out _ ((Below.refl _ w2).drew)).mono ?_);rintro e w4 ⟨lv4,rfl,⟨a4,n4,c4,rfl⟩,hs4,hb4'⟩;have hb4:Below w2.heap.size w2 w4:=(Below.refl _ w2).drew.trans hb4';have u_0:=(A2.below hb4).box1;have v_0:=(C2.below hb4).box1;have S4:=S2.below hb4;obtain⟨⟨t_0,t_1,t_2,t_3,t_4,t_5⟩,tf_2,tf_3,tf_4,tf_5⟩:=S4.cells;rw[h0]at t_4;replace hs4:=kH hs4;replace hb4:=kH hb4;replace hb4':=kH hb4'))
   all_goals
    have cF':=cF.out w4 (22+uc) S4 (by omega)
    replace cF':=kH cF'
    clear cF
    go_wp2_with (go_at_call 95;(with_reducible refine(cF'.out).mono ?_);rintro e w5 ⟨rfl,S5,F5⟩)
    go_returns
    exact⟨rfl,_,S5,(F02.grow hb4.out (by omega)).trans F5⟩
 ·have d0:(E.cd != 0)=true:=by simpa using h0
  have d1:(E.cd == 0)=false:=beq_eq_false_iff_ne.2 h0
  obtain rfl:=hd0.out h0
  clear hd0 hd1
  go_wp2_with fail
  go_returns
  exact⟨rfl,_,S2,F02⟩
theorem l06Con_c {b tn tc:Nat} {ta:Option Addr} {P1 lv:Value} {w:World} {s:IS} {T:List GType} (S:SB b (.slice ta tn tc) P1 w s lv) (hM:TyMem b (.slice ta tn tc) T w) (hT:TysOk T) (hn:s.nx<=900000) (name:ByteArray) :
  Calls Tryz.prog 94 #[.pointer (some ⟨b,0,none⟩),.string name] w (ConPost b (.slice ta tn tc) P1 lv T name w s):=by
 by_cases hA:name=nmTrue\/name=nmFalse
 ·exact l06ConA_c S hn name hA
 by_cases hB:name=nmNil\/name=nmCons
 ·exact l06ConB_c S hn name hA hB
 exact l06ConC_c S hM hT hn name hA hB
theorem ret_look {fn:Func} {tmps:Array Value} {a c:Nat} {g h:Nat} {v0 v1:Value} {w:World} (hf:fn.results = #[.cell a 33,.cell c 33]) (hp:tmps.getD a undef=.pointer (some ⟨g,0,none⟩)) (hq:tmps.getD c undef=.pointer (some ⟨h,0,none⟩)) (h0:RowAt w g 0 [v0]) (h1:RowAt w h 0 [v1]) :
  (results fn tmps).run Tryz.prog w=.ok (.tuple #[.agg #[v0],.agg #[v1]]) w:=by
 have hp' : tmps[a]?.getD undef=.pointer (some ⟨g,0,none⟩):=by simpa using hp
 have hq' : tmps[c]?.getD undef=.pointer (some ⟨h,0,none⟩):=by simpa using hq
 have e0:=h0.box1
 have e1:=h1.box1
 simp[results,hf,go_sem,hp',hq',e0,e1]
theorem TV.cdt {b m:Nat} {cd cd' : Int} {w:World} {v:Value} {t u:TyT} (h:TV b m cd w v t) (hc:cd'≠0):TV b m cd' w v u:=let ⟨l,h1,h2,h3⟩:=h;⟨l,h1,h2,fun h=>absurd h hc⟩
def LookPost (b:Nat) (P0 P1 lv:Value) (T:List GType) (name:ByteArray) (one:Bool) (a:Int) (w:World) (s:IS) (e:Ending) (w' : World):Prop:=
 ∃ (v1 v2:Value) (s' : IS),e=.returned (.tuple #[.agg #[v1],.agg #[v2]])/\SB b P0 P1 w' s' lv/\IFr b w w'/\ISeq s' (lookY T s name one a).2.2/\s'.nx<=s.nx+2/\s.nx<=s'.nx/\(∃a n c,v2=.slice a n c)/\TV b 3 s'.cd w' v1 (lookY T s name one a).1/\(s'.cd=0->one=true->Sl GTyItem.R 3 (b+1) w' v2 (flatY (lookY T s name one a).2.1))
theorem l06Look_c {b tn tc:Nat} {ta:Option Addr} {P1 lv:Value} {w:World} {s:IS} {T:List GType} (S:SB b (.slice ta tn tc) P1 w s lv) (hM:TyMem b (.slice ta tn tc) T w) (hT:TysOk T) (hn:s.nx<=900000) (h0:s.cd=0) (name:ByteArray) (kids:Int) (one:Bool) (hone:(kids == 1)=one) (a:Int) :
  Calls Tryz.prog 54 #[.pointer (some ⟨b,0,none⟩),.string name,.int .i64 kids,.int .i64 a] w (LookPost b (.slice ta tn tc) P1 lv T name one a w s):=by
 have hlt:=S.lt
 have cC:=fun W (hS:SB b (.slice ta tn tc) P1 W s lv) (hW:TyMem b (.slice ta tn tc) T W)=>l06Con_c hS hW hT hn name
 have hS0:∀W,IFr b w W->Sl SubR 2 (b+1) W lv s.sub:=fun W hW=>hW.sl SubR.good (S.sl h0)
 have hpost:∀W v1 v2 (s' : IS),SB b (.slice ta tn tc) P1 W s' lv->IFr b w W->ISeq s' (lookY T s name one a).2.2->s'.nx<=s.nx+2->s.nx<=s'.nx->(∃a n c,v2=Value.slice a n c)->TV b 3 s'.cd W v1 (lookY T s name one a).1->(s'.cd=0->one=true->Sl GTyItem.R 3 (b+1) W v2 (flatY (lookY T s name one a).2.1))->LookPost b (.slice ta tn tc) P1 lv T name one a w s (.returned (.tuple #[.agg #[v1],.agg #[v2]])) W:=fun W v1 v2 s' h1 h2 h3 h4 h5 h6 h7 h8=>⟨v1,v2,s',rfl,h1,h2,h3,h4,h5,h6,h7,h8⟩
 generalize LookPost b (.slice ta tn tc) P1 lv T name one a w s=Q at *
 unfold ConPost at cC
 replace cC:=kH cC;replace hpost:=kH hpost;replace hS0:=kH hS0;replace hT:=kH hT;replace hM:=kH hM
 go_enter Tryz.func54,Tryz.ntmps54
 go_upto_region 1 with fail
 have R:RowAt (w.alloc (.cells #[.slice none 0 0] 33)) (w.heap.size) 0 [.slice none 0 0]:=RowAt.box w #[.slice none 0 0] 33
 have RW:Wr (w.alloc (.cells #[.slice none 0 0] 33)) (w.heap.size) 0 1:=Wr.box w #[.slice none 0 0] 33
 have R:=R.below (show Below (w.alloc (.cells #[.slice none 0 0] 33)).heap.size (w.alloc (.cells #[.slice none 0 0] 33)) ((w.alloc (.cells #[.slice none 0 0] 33)).alloc (.cells #[.slice none 0 0] 33)) by go_grown)
 have RW:=RW.below (show Below (w.alloc (.cells #[.slice none 0 0] 33)).heap.size (w.alloc (.cells #[.slice none 0 0] 33)) ((w.alloc (.cells #[.slice none 0 0] 33)).alloc (.cells #[.slice none 0 0] 33)) by go_grown)
 have E:RowAt ((w.alloc (.cells #[.slice none 0 0] 33)).alloc (.cells #[.slice none 0 0] 33)) (w.heap.size+1) 0 [.slice none 0 0]:=by have h:=RowAt.box (w.alloc (.cells #[.slice none 0 0] 33)) #[.slice none 0 0] 33;simp only[World.size_alloc]at h;exact h
 have EW:Wr ((w.alloc (.cells #[.slice none 0 0] 33)).alloc (.cells #[.slice none 0 0] 33)) (w.heap.size+1) 0 1:=by have h:=Wr.box (w.alloc (.cells #[.slice none 0 0] 33)) #[.slice none 0 0] 33;simp only[World.size_alloc]at h;exact h
 have hw:Below w.heap.size w ((w.alloc (.cells #[.slice none 0 0] 33)).alloc (.cells #[.slice none 0 0] 33)):=by go_grown
 generalize ((w.alloc (.cells #[.slice none 0 0] 33)).alloc (.cells #[.slice none 0 0] 33))=w0 at *
 have S0:=S.below hw
 have F0:=IFr.of hw (Nat.le_of_lt hlt)
 have hsE0:=World.block_lt_of_cell? _ _ (E 0 _ rfl)
 dsimp only at hsE0
 go_upto_region 2 with(go_at_call 94;(with_reducible refine(cC.out _ S0 (hM.out.fr F0)).mono ?_);rintro e w1 ⟨v1,v2,has,kn,nx,rfl,S1,F1,⟨a1,n1,c1,rfl⟩,⟨a2,n2,c2,rfl⟩,hcon⟩;replace hcon:=kH hcon)
 obtain⟨w2,hW2⟩ : ∃W,W=(w1.alloc (.cells #[.slice a1 n1 c1] 33)).alloc (.cells #[.slice a2 n2 c2] 33):=⟨_,rfl⟩
 rw[<- hW2]
 have hb12:Below w1.heap.size w1 w2:=by rw[hW2];go_grown
 have A2:RowAt w2 w1.heap.size 0 [.slice a1 n1 c1]:=by rw[hW2];exact(RowAt.box w1 #[_] _).below (by go_grown)
 have D2:RowAt w2 (w1.heap.size+1) 0 [.slice a2 n2 c2]:=by rw[hW2];have h:=RowAt.box (w1.alloc (.cells #[.slice a1 n1 c1] 33)) #[.slice a2 n2 c2] 33;simp only[World.size_alloc]at h;exact h
 have R2:=(F1.row R (by omega)).below hb12
 have R2W:=(RW.kept F1.kept (by omega)).below hb12
 have E2:=(F1.row E (by omega)).below hb12
 have E2W:=(EW.kept F1.kept (by omega)).below hb12
 have S2:=S1.below hb12
 have hz0:=hw.size
 have hz1:=F1.size
 have F2:=(F0.trans F1).grow hb12 (by omega)
 have hz2:=hb12.size
 obtain⟨ab,hab⟩ : ∃q,q=w1.heap.size:=⟨_,rfl⟩
 rw[<- hab]at A2 D2 hz1 ⊢
 replace hb12:=kH hb12;replace F2:=kH F2;replace hab:=kH hab
 clear hW2 R RW E EW S1 F1 F0 S0 hw
 have hA1:ab≠w.heap.size:=by omega
 have hA2:ab≠w.heap.size+1:=by omega
 have hD1:ab+1≠w.heap.size:=by omega
 have hD2:ab+1≠w.heap.size+1:=by omega
 replace hA1:=kH hA1;replace hA2:=kH hA2;replace hD1:=kH hD1;replace hD2:=kH hD2
 have hA2w:=A2.box1
 cases hc:conI T name s.nx with
 |none=>
  have hc1:=hcon.out
  rw[hc]at hc1
  obtain⟨rfl,rfl,hv⟩:=hc1
  have hl:lookY T s name one a=(.c0 nmInt,.c0 nmInt,s.fault 22 a):=by unfold lookY;rw[hc]
  rw[hl]at hpost
  have cF:=l06Fault_c (s:=s) S2 22 a (by decide)
  replace cF:=kH cF
  clear hcon hl hc
  replace hv:=kH hv
  go_upto_region 6 with(go_at_call 95;(with_reducible refine(cF.out).mono ?_);rintro e w3 ⟨rfl,S3,F3⟩)
  have hsub:(s.fault 22 a).sub=s.sub:=by unfold IS.fault;split<;>rfl
  (have A3:=F3.row A2 (by omega);have D3:=F3.row D2 (by omega);have R3:=F3.row R2 (by omega);have R3W:=R2W.kept F3.kept (by omega);have E3:=F3.row E2 (by omega);have E3W:=E2W.kept F3.kept (by omega);have hz3:=F3.size;have F23:=F2.out.trans F3;replace F23:=kH F23;have a3_0:=A3.box1;have hsA3:=bLt a3_0;have d3_0:=D3.box1;have hsD3:=bLt d3_0;have r3f_0:=R3W.frz 0 (by omega);have r3_0:=R3.box1;have hsR3:=bLt r3_0;have e3f_0:=E3W.frz 0 (by omega);have e3_0:=E3.box1;have hsE3:=bLt e3_0;go_region_held3 (fun w'=>w'.cell? ⟨ab,0,none⟩=some (.slice a1 n1 c1)/\w'.cell? ⟨ab+1,0,none⟩=some (.slice a2 n2 c2)) (first|exact⟨a3_0,d3_0⟩|exact⟨(A3.set_other hA1.out _).box1,(D3.set_other hD1.out _).box1⟩|exact⟨((A3.set_other hA1.out _).set_other hA2.out _).box1,((D3.set_other hD1.out _).set_other hD2.out _).box1⟩|go_keep) (fail);all_goals go_wp2_with fail)
  all_goals (obtain⟨w5,hW5⟩ : ∃X,X=(w3.setCell ⟨w.heap.size,0,none⟩ (.slice a1 n1 c1)).setCell ⟨w.heap.size+1,0,none⟩ (.slice a2 n2 c2):=⟨_,rfl⟩;rw[<- hW5];obtain⟨F5',S5',R5,E5,K5⟩:=con_fin (s:=s) hlt (Nat.le_refl _) (show w.heap.size<=w.heap.size+1 by omega) (by omega) F23.out S3 hsub (fun _=>hS0.out) R3 E3 _ _ w5 hW5;have hd5:Below w5.heap.size w5 w5.drew:=(Below.refl _ w5).drew;have hz5:=F5'.size;have S5:=S5'.below hd5;have F5:=F5'.grow hd5 (by omega);refine bodyPost_ret (ret_look (a:=8) (c:=9) Tryz.results54 rfl rfl (R5.below hd5) (E5.below hd5)) rfl ?_;have k5:∀v l,Sl GTyItem.R 3 w0.heap.size w2 v l->(∀g,v.ownBlock=some g->w0.heap.size<=g)->Sl GTyItem.R 3 (b+1) w5.drew v l:=fun v l h1 h2=>(kept_sl2 (F3.sl GTyItem.good (h1.mono GTyItem.good (by omega))) K5 (fun g hg e=>by have h3:=h2 g hg;rcases e with e|e<;>omega)).below GTyItem.good hd5)
  all_goals exact hpost.out _ _ _ _ S5 F5 (ISeq.refl _) (by rw[IS.fault_nx];omega) (by rw[IS.fault_nx];exact Nat.le_refl _) ⟨_,_,_,rfl⟩ (by rw[hv.out];exact TV.none (IS.fault_cd (by decide))) (fun h=>absurd h (IS.fault_cd (by decide)))
 |some c=>
  have hc1:=hcon.out
  rw[hc]at hc1
  obtain⟨rfl,rfl,rfl,g1,g2⟩:=hc1
  obtain⟨hm,⟨o1,o2,o3⟩,hca⟩:=conI_parts hT.out hc
  have T1:=g1.below GTyItem.good hb12.out
  have B1:=fun g hg=>(sl_block T1 g hg).1
  by_cases hone2:c.has=one
  ·have hl:lookY T s name one a=(c.own,c.arg,s.adv c.many):=by unfold lookY;rw[hc];exact if_pos hone2
   rw[hl]at hpost
   have db:(c.has != one)=false:=by rw[hone2];cases one<;>rfl
   have g2' : one=true->Sl GTyItem.R 3 w0.heap.size w2 (.slice a2 n2 c2) (flatY c.arg):=fun h=>(g2 (hone2.trans h)).below GTyItem.good hb12.out
   replace g2':=kH g2';replace T1:=kH T1;replace B1:=kH B1;replace o1:=kH o1;replace o2:=kH o2
   clear hcon hl hc g1 g2 hca
   go_upto_region 6 with fail
   obtain⟨w3,hw3⟩ : ∃W,W=w2:=⟨_,rfl⟩
   have F3:IFr b w2 w3:=by rw[hw3];exact IFr.refl _ _
   have S3:SB b (.slice ta tn tc) P1 w3 (s.adv c.many) lv:=by rw[hw3];exact S2
   rw[<- hw3]
   clear hw3
   have hsub:(s.adv c.many).sub=s.sub:=rfl
   have hz23:w2.heap.size<=w3.heap.size:=F3.size
   (have A3:=F3.row A2 (by omega);have D3:=F3.row D2 (by omega);have R3:=F3.row R2 (by omega);have R3W:=R2W.kept F3.kept (by omega);have E3:=F3.row E2 (by omega);have E3W:=E2W.kept F3.kept (by omega);have hz3:=F3.size;have F23:=F2.out.trans F3;replace F23:=kH F23;have a3_0:=A3.box1;have hsA3:=bLt a3_0;have d3_0:=D3.box1;have hsD3:=bLt d3_0;have r3f_0:=R3W.frz 0 (by omega);have r3_0:=R3.box1;have hsR3:=bLt r3_0;have e3f_0:=E3W.frz 0 (by omega);have e3_0:=E3.box1;have hsE3:=bLt e3_0;go_region_held3 (fun w'=>w'.cell? ⟨ab,0,none⟩=some (.slice a1 n1 c1)/\w'.cell? ⟨ab+1,0,none⟩=some (.slice a2 n2 c2)) (first|exact⟨a3_0,d3_0⟩|exact⟨(A3.set_other hA1.out _).box1,(D3.set_other hD1.out _).box1⟩|exact⟨((A3.set_other hA1.out _).set_other hA2.out _).box1,((D3.set_other hD1.out _).set_other hD2.out _).box1⟩|go_keep) (fail);all_goals go_wp2_with fail)
   all_goals (obtain⟨w5,hW5⟩ : ∃X,X=(w3.setCell ⟨w.heap.size,0,none⟩ (.slice a1 n1 c1)).setCell ⟨w.heap.size+1,0,none⟩ (.slice a2 n2 c2):=⟨_,rfl⟩;rw[<- hW5];obtain⟨F5',S5',R5,E5,K5⟩:=con_fin (s:=s) hlt (Nat.le_refl _) (show w.heap.size<=w.heap.size+1 by omega) (by omega) F23.out S3 hsub (fun _=>hS0.out) R3 E3 _ _ w5 hW5;have hd5:Below w5.heap.size w5 w5.drew:=(Below.refl _ w5).drew;have hz5:=F5'.size;have S5:=S5'.below hd5;have F5:=F5'.grow hd5 (by omega);refine bodyPost_ret (ret_look (a:=8) (c:=9) Tryz.results54 rfl rfl (R5.below hd5) (E5.below hd5)) rfl ?_;have k5:∀v l,Sl GTyItem.R 3 w0.heap.size w2 v l->(∀g,v.ownBlock=some g->w0.heap.size<=g)->Sl GTyItem.R 3 (b+1) w5.drew v l:=fun v l h1 h2=>(kept_sl2 (F3.sl GTyItem.good (h1.mono GTyItem.good (by omega))) K5 (fun g hg e=>by have h3:=h2 g hg;rcases e with e|e<;>omega)).below GTyItem.good hd5)
   all_goals exact hpost.out _ _ _ _ S5 F5 (ISeq.refl _) (by show s.nx+c.many<=_;omega) (by show _<=s.nx+c.many;omega) ⟨_,_,_,rfl⟩ (TV.of (k5 _ _ T1.out B1.out) o3) (fun _ h=>k5 _ _ (g2'.out h) (fun g hg=>(sl_block (g2'.out h) g hg).1))
  ·have hl:lookY T s name one a=(.c0 nmInt,.c0 nmInt,s.fault 23 a):=by unfold lookY;rw[hc];exact if_neg hone2
   rw[hl]at hpost
   have hcn:c.has = !one:=by revert hone2;cases c.has<;>cases one<;>simp
   have cF:=l06Fault_c S2 23 a (by decide)
   replace cF:=kH cF
   replace T1:=kH T1;replace B1:=kH B1;replace o1:=kH o1;replace o2:=kH o2
   rw[hcn]
   clear hcon hl hc g1 g2 hca hone2 hcn
   have hsub:((⟨s.sub,s.nx+c.many,s.cd,s.at_⟩ : IS).fault 23 a).sub=s.sub:=by unfold IS.fault;split<;>rfl
   have hseq:ISeq ((⟨s.sub,s.nx+c.many,s.cd,s.at_⟩ : IS).fault 23 a) (s.fault 23 a):=by
    unfold IS.fault
    rw[if_pos h0,if_pos h0]
    exact⟨rfl,rfl,fun h=>by dsimp only at h;omega⟩
   replace hseq:=kH hseq
   cases one
   all_goals
    go_upto_region 6 with(go_at_call 95;(with_reducible refine(cF.out).mono ?_);rintro e w3 ⟨rfl,S3,F3⟩)
    (have A3:=F3.row A2 (by omega);have D3:=F3.row D2 (by omega);have R3:=F3.row R2 (by omega);have R3W:=R2W.kept F3.kept (by omega);have E3:=F3.row E2 (by omega);have E3W:=E2W.kept F3.kept (by omega);have hz3:=F3.size;have F23:=F2.out.trans F3;replace F23:=kH F23;have a3_0:=A3.box1;have hsA3:=bLt a3_0;have d3_0:=D3.box1;have hsD3:=bLt d3_0;have r3f_0:=R3W.frz 0 (by omega);have r3_0:=R3.box1;have hsR3:=bLt r3_0;have e3f_0:=E3W.frz 0 (by omega);have e3_0:=E3.box1;have hsE3:=bLt e3_0;go_region_held3 (fun w'=>w'.cell? ⟨ab,0,none⟩=some (.slice a1 n1 c1)/\w'.cell? ⟨ab+1,0,none⟩=some (.slice a2 n2 c2)) (first|exact⟨a3_0,d3_0⟩|exact⟨(A3.set_other hA1.out _).box1,(D3.set_other hD1.out _).box1⟩|exact⟨((A3.set_other hA1.out _).set_other hA2.out _).box1,((D3.set_other hD1.out _).set_other hD2.out _).box1⟩|go_keep) (fail);all_goals go_wp2_with fail)
   all_goals (obtain⟨w5,hW5⟩ : ∃X,X=(w3.setCell ⟨w.heap.size,0,none⟩ (.slice a1 n1 c1)).setCell ⟨w.heap.size+1,0,none⟩ (.slice a2 n2 c2):=⟨_,rfl⟩;rw[<- hW5];obtain⟨F5',S5',R5,E5,K5⟩:=con_fin (s:=s) hlt (Nat.le_refl _) (show w.heap.size<=w.heap.size+1 by omega) (by omega) F23.out S3 hsub (fun _=>hS0.out) R3 E3 _ _ w5 hW5;have hd5:Below w5.heap.size w5 w5.drew:=(Below.refl _ w5).drew;have hz5:=F5'.size;have S5:=S5'.below hd5;have F5:=F5'.grow hd5 (by omega);refine bodyPost_ret (ret_look (a:=8) (c:=9) Tryz.results54 rfl rfl (R5.below hd5) (E5.below hd5)) rfl ?_;have k5:∀v l,Sl GTyItem.R 3 w0.heap.size w2 v l->(∀g,v.ownBlock=some g->w0.heap.size<=g)->Sl GTyItem.R 3 (b+1) w5.drew v l:=fun v l h1 h2=>(kept_sl2 (F3.sl GTyItem.good (h1.mono GTyItem.good (by omega))) K5 (fun g hg e=>by have h3:=h2 g hg;rcases e with e|e<;>omega)).below GTyItem.good hd5)
   all_goals exact hpost.out _ _ _ _ S5 F5 hseq.out (by rw[IS.fault_nx];dsimp only;omega) (by rw[IS.fault_nx];dsimp only;omega) ⟨_,_,_,rfl⟩ ((TV.of (cd:=0) (t:=c.own) (k5 _ _ T1.out B1.out) o3).cdt (IS.fault_cd (by decide))) (fun h=>absurd h (IS.fault_cd (by decide)))
end Go.Proofs.YtkikkfjmggobpaaGreat
namespace Go.Proofs.YtkikkfjmggobpaaGreat
open Go.RowKit
set_option linter.unusedVariables false
set_option linter.unusedSimpArgs false
def One (w:World) (g:Nat):Prop:=∀k,1<=k->w.cell? ⟨g,k,none⟩=none
theorem One.box (w:World) (x:Value) (t:TypeId):One (w.alloc (.cells #[x] t)) w.heap.size:=fun k hk=>by
 rw[cell_alloc_new']
 exact Array.getElem?_eq_none (by simp;omega)
theorem One.kept {S:Nat->Prop} {w w' : World} {g:Nat} (h:One w g) (hk:Kept S w w') (hS : ¬ S g) (hlt:g<w.heap.size):One w' g:=fun k h1=>by
 rw[World.cell?_of_block (w:=w) (a:=⟨g,k,none⟩) (hk g hlt hS)];exact h k h1
theorem One.below {w w' : World} {g:Nat} (h:One w g) (hb:Below w.heap.size w w') (hlt:g<w.heap.size):One w' g:=h.kept (S:=fun _=>False) (fun k h1 _=>hb.block k h1) (fun h=>h) hlt
theorem One.fr {b:Nat} {w w' : World} {g:Nat} (h:One w g) (hf:IFr b w w') (hg:g≠b) (hlt:g<w.heap.size):One w' g:=h.kept hf.kept hg hlt
theorem sl_one {α:Type} {R:Reading α} {sz lo g:Nat} {f:α->List Value} {wf:α->Prop} (F:Flat R sz f wf) (hsz:2<=sz) {w:World} {v:Value} {xs:List α} (h:Sl R sz lo w v xs) (h1:One w g) (u:Value):Sl R sz lo (w.setCell ⟨g,0,none⟩ u) v xs:=by
 have hwf:=F.wfs h
 obtain⟨a,c,rfl,e1,e2,h3⟩:=h
 refine⟨a,c,rfl,e1,e2,fun h0=>?_⟩
 obtain⟨b,off,hl,hb,rfl,hr⟩:=F.cells h3 h0
 have hne : ¬ b=g:=fun e=>by
  subst e
  have hlen:1<(rowsOf f xs).length:=by rw[F.length];have:=Nat.mul_le_mul h0 hsz;omega
  have:=hr 1 _ (List.getElem?_eq_getElem hlen)
  rw[h1 (off+1) (by omega)]at this
  cases this
 have hr':=hr.kept ((Kept.refl (fun q=>q=g) w).set (p:=⟨g,0,none⟩) rfl u) hne
 exact⟨b,off,hl,rfl,fun i x hx=>⟨f x,F.back (hwf x (List.mem_of_getElem? hx)) _ _,fun j c hc=>by rw[Nat.add_assoc];exact hr' _ c (F.get hx hc)⟩⟩
theorem sub_one {lo g:Nat} {w:World} {v:Value} {σ:Sbs} (h:Sl SubR 2 lo w v σ) (h1:One w g) (u:Value):Sl SubR 2 lo (w.setCell ⟨g,0,none⟩ u) v σ:=by
 obtain⟨a,c,rfl,e1,e2,h3⟩:=h
 refine⟨a,c,rfl,e1,e2,fun h0=>?_⟩
 obtain⟨b,off,hl,rfl,h4⟩:=h3 h0
 refine⟨b,off,hl,rfl,fun i x hx=>?_⟩
 obtain⟨r,⟨t,rfl,h5,h6⟩,h7⟩:=h4 i x hx
 have hne : ¬ b=g:=fun e=>by
  subst e
  have:=h7 1 _ rfl
  rw[h1 (off+i*2+1) (by omega)]at this
  cases this
 exact⟨_,⟨t,rfl,h5,sl_one flatTyItem (by decide) h6 h1 u⟩,h7.kept ((Kept.refl (fun q=>q=g) w).set (p:=⟨g,0,none⟩) rfl u) hne⟩
theorem SB.one {b g:Nat} {P0 P1 lv:Value} {w:World} {s:IS} (h:SB b P0 P1 w s lv) (h1:One w g) (hg:g≠b) (u:Value):SB b P0 P1 (w.setCell ⟨g,0,none⟩ u) s lv:=
 ⟨h.row.set_other (fun e=>hg e.symm) u,h.wr.kept ((Kept.refl (fun q=>q=g) w).set (p:=⟨g,0,none⟩) rfl u) (fun e=>hg e.symm),h.form,fun h0=>sub_one (h.sl h0) h1 u⟩
theorem tv_one {b m g:Nat} {cd:Int} {w:World} {v:Value} {t:TyT} (h:TV b m cd w v t) (h1:One w g) (u:Value):TV b m cd (w.setCell ⟨g,0,none⟩ u) v t:=let ⟨l,h2,h3,h4⟩:=h;⟨l,sl_one flatTyItem (by decide) h2 h1 u,h3,h4⟩
theorem ty_fin {b g:Nat} {P0 P1 lv:Value} {w w1:World} {s:IS} {o:Value} (hr:w.heap.size<=g) (hb:b<g) (hF:IFr b w w1) (S1:SB b P0 P1 w1 s lv) (h1:One w1 g) (R1:RowAt w1 g 0 [o]) (u:Value) :
  IFr b w (w1.setCell ⟨g,0,none⟩ u)/\SB b P0 P1 (w1.setCell ⟨g,0,none⟩ u) s lv/\RowAt (w1.setCell ⟨g,0,none⟩ u) g 0 [u]:=
 ⟨hF.setNew hr (Nat.le_of_lt hb) u,S1.one h1 (by omega) u,R1.putAt (j:=0) (by simp) u⟩
end Go.Proofs.YtkikkfjmggobpaaGreat
