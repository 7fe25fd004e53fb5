/- Parts of the proof, merged: Us12, Us2, Us3. -/
import Derived.Test.YtkikkfjmggobpaaGreatDt16
namespace Go.Proofs.YtkikkfjmggobpaaGreat
open Go.RowKit
set_option maxRecDepth 100000
set_option maxHeartbeats 16000000
set_option linter.unusedVariables false
set_option linter.unusedSimpArgs false
attribute [local go_sem] Ext.cell
theorem named_own (name:ByteArray) (n:Nat) (ts:List TyT) (h:ts.length<=2):∀k,k=ts.length->(k=0->namedL name 0 (tysOf ts)=flatY (.c0 name))/\(∀a,ts=[a]->namedL name 1 (tysOf ts)=flatY (.c1 name a))/\(∀a b,ts=[a,b]->namedL name 2 (tysOf ts)=flatY (.c2 name a b)):=fun k hk=>by
 refine⟨fun h0=>?_,fun a ha=>?_,fun a b hab=>?_⟩
 ·obtain rfl:ts=[]:=List.length_eq_zero_iff.1 (by omega)
  rfl
 ·subst ha;simp[namedL,tysOf,flatY]
 ·subst hab;simp[namedL,tysOf,flatY]
theorem sl_box1 {lo:Nat} {w w' : World} {p:Option Addr} {n c:Nat} {t:TyT} {g:Nat} (hr:RowAt w' g 0 [.slice p n c]) (hg:lo<=g) (h:Sl GTyItem.R 3 lo w' (.slice p n c) (flatY t)):Sl GTy.R 1 lo w' (.slice (some ⟨g,0,none⟩) 1 1) (tysOf [t]):=by
 refine⟨_,1,rfl,Nat.le_refl _,by decide,fun _=>⟨g,0,hg,rfl,fun i x hx=>?_⟩⟩
 match i,hx with
 |0,hx=>obtain rfl:=Option.some.inj hx;exact⟨_,⟨_,rfl,by trivial,h⟩,hr⟩
 |i+1,hx=>simp[tysOf]at hx
theorem sl_box2 {lo:Nat} {w' : World} {p q:Option Addr} {n c m d:Nat} {t u:TyT} {g:Nat} (hr:RowAt w' g 0 [.slice p n c,.slice q m d]) (hg:lo<=g) (h:Sl GTyItem.R 3 lo w' (.slice p n c) (flatY t)) (h2:Sl GTyItem.R 3 lo w' (.slice q m d) (flatY u)):Sl GTy.R 1 lo w' (.slice (some ⟨g,0,none⟩) 2 2) (tysOf [t,u]):=by
 refine⟨_,2,rfl,Nat.le_refl _,by decide,fun _=>⟨g,0,hg,rfl,fun i x hx=>?_⟩⟩
 match i,hx with
 |0,hx=>obtain rfl:=Option.some.inj hx;exact⟨_,⟨_,rfl,by trivial,h⟩,fun j c hc=>by match j,hc with|0,hc=>exact hr 0 c hc|j+1,hc=>simp at hc⟩
 |1,hx=>obtain rfl:=Option.some.inj hx;exact⟨_,⟨_,rfl,by trivial,h2⟩,fun j c hc=>by match j,hc with|0,hc=>exact hr 1 c hc|j+1,hc=>simp at hc⟩
 |i+2,hx=>simp[tysOf]at hx
theorem kept_sl2 {S:Nat->Prop} {lo:Nat} {w1 w2:World} {v:Value} {l:List GTyItem} (h:Sl GTyItem.R 3 lo w1 v l) (hk:Kept S w1 w2) (hS:∀g,v.ownBlock=some g->¬ S g):Sl GTyItem.R 3 lo w2 v l:=sl_kept2 flatTyItem h hk hS
theorem l06ConB_c {b:Nat} {P0 P1 lv:Value} {w:World} {s:IS} {T:List GType} (S:SB b P0 P1 w s lv) (hn:s.nx<=900000) (name:ByteArray) (hA : ¬ (name=nmTrue\/name=nmFalse)) (hB:name=nmNil\/name=nmCons) :
  Calls Tryz.prog 94 #[.pointer (some ⟨b,0,none⟩),.string name] w (ConPost b P0 P1 lv T name w s):=by
 have hlt:=S.lt
 have hpost:∀W v1 v2,SB b P0 P1 W s.new lv->IFr b w W->(∃a n c,v1=Value.slice a n c)->(∃a n c,v2=Value.slice a n c)->Sl GTyItem.R 3 w.heap.size W v1 (flatY (.c1 nmList (.v (s.nx:Int))))->Sl GTyItem.R 3 w.heap.size W v2 (flatY (.c2 nmStar (.v (s.nx:Int)) (.c1 nmList (.v (s.nx:Int)))))->ConPost b P0 P1 lv T name w s (.returned (.tuple #[.agg #[v1],.agg #[v2],.bool (decide (name=nmCons)),.bool true])) W:=fun W v1 v2 h1 h2 h3 h4 h5 h6=>by
  refine⟨v1,v2,_,true,s.nx+1,rfl,h1,h2,h3,h4,?_⟩
  have:conI T name s.nx=some ⟨.c1 nmList (.v (s.nx:Int)),.c2 nmStar (.v (s.nx:Int)) (.c1 nmList (.v (s.nx:Int))),decide (name=nmCons),1⟩:=by unfold conI;rw[if_neg hA,if_pos hB]
  rw[this]
  exact⟨rfl,rfl,rfl,h5,fun _=>h6⟩
 generalize ConPost b P0 P1 lv T name w s=Q at *
 have c1:=str_lit name [116,114,117,101]
 have c2:=str_lit name [102,97,108,115,101]
 have c3:=str_lit name [91,93]
 have c4:=str_lit name [58,58]
 have d1:decide (name=(⟨[116,114,117,101].toArray⟩ : ByteArray))=false:=decide_eq_false (fun h=>hA (.inl h))
 have d2:decide (name=(⟨[102,97,108,115,101].toArray⟩ : ByteArray))=false:=decide_eq_false (fun h=>hA (.inr h))
 rw[d1]at c1
 rw[d2]at c2
 obtain⟨q,hq⟩ : ∃q,decide (name=nmCons)=q:=⟨_,rfl⟩
 have d4:decide (name=(⟨[58,58].toArray⟩ : ByteArray))=q:=hq
 have d3:decide (name=(⟨[91,93].toArray⟩ : ByteArray)) = !q:=by
  rcases hB with rfl|rfl
  ·rw[<- hq];decide
  ·rw[<- hq];decide
 rw[d4]at c4
 rw[d3]at c3
 rw[hq]at hpost
 have cN:∀W,SB b P0 P1 W s lv->_:=fun W hW=>l06New_c (b:=b) (P0:=P0) (P1:=P1) (lv:=lv) (w:=W) (s:=s) hW (by omega)
 have n1:namedL nmList 1 (tysOf [.v (s.nx:Int)])=flatY (.c1 nmList (.v (s.nx:Int))):=(named_own nmList 1 [.v (s.nx:Int)] (by simp) 1 rfl).2.1 _ rfl
 have n2:namedL nmStar 2 (tysOf [.v (s.nx:Int),.c1 nmList (.v (s.nx:Int))])=flatY (.c2 nmStar (.v (s.nx:Int)) (.c1 nmList (.v (s.nx:Int)))):=(named_own nmStar 2 [.v (s.nx:Int),.c1 nmList (.v (s.nx:Int))] (by simp) 2 rfl).2.2 _ _ rfl
 have cL:=fun lv' W (h:Sl GTy.R 1 0 W lv' (tysOf [.v (s.nx:Int)]))=>l03Named_c nmList (strok (by decide)) (tysOf [.v (s.nx:Int)]) (by simp[tysOf]) (by show(namedL nmList 1 _).length<=_;rw[n1];simp[flatY]) lv' W h
 have cT:=fun lv' W (h:Sl GTy.R 1 0 W lv' (tysOf [.v (s.nx:Int),.c1 nmList (.v (s.nx:Int))]))=>l03Named_c nmStar (strok (by decide)) (tysOf [.v (s.nx:Int),.c1 nmList (.v (s.nx:Int))]) (by simp[tysOf]) (by show(namedL nmStar 2 _).length<=_;rw[n2];simp[flatY]) lv' W h
 replace cL:∀lv' W,Sl GTy.R 1 0 W lv' (tysOf [.v (s.nx:Int)])->Calls Tryz.prog 53 #[.string nmList,lv'] W (TyPost (flatY (.c1 nmList (.v (s.nx:Int)))) W):=fun lv' W h=>by rw[<- n1];exact cL lv' W h
 replace cT:∀lv' W,Sl GTy.R 1 0 W lv' (tysOf [.v (s.nx:Int),.c1 nmList (.v (s.nx:Int))])->Calls Tryz.prog 53 #[.string nmStar,lv'] W (TyPost (flatY (.c2 nmStar (.v (s.nx:Int)) (.c1 nmList (.v (s.nx:Int))))) W):=fun lv' W h=>by rw[<- n2];exact cT lv' W h
 unfold TyPost at cL cT
 clear hA hB d1 d2 d3 d4 n1 n2
 replace hpost:=kH hpost;replace cN:=kH cN;replace cL:=kH cL;replace cT:=kH cT;replace hq:=kH hq
 have hs0:s.cd=0->∀W,IFr b w W->Sl SubR 2 (b+1) W lv s.sub:=fun h W hW=>hW.sl SubR.good (S.sl h)
 replace hs0:=kH hs0
 cases q
 all_goals
  go_enter Tryz.func94,Tryz.ntmps94
  go_upto_region 1 with fail
  have R:RowAt (w.alloc (.cells #[.slice none 0 0] 33)) (w.heap.size) 0 [.slice none 0 0]:=RowAt.box w #[.slice none 0 0] 33
  have RW:Wr (w.alloc (.cells #[.slice none 0 0] 33)) (w.heap.size) 0 1:=Wr.box w #[.slice none 0 0] 33
  have R:=R.below (show Below (w.alloc (.cells #[.slice none 0 0] 33)).heap.size (w.alloc (.cells #[.slice none 0 0] 33)) ((w.alloc (.cells #[.slice none 0 0] 33)).alloc (.cells #[.slice none 0 0] 33)) by go_grown)
  have RW:=RW.below (show Below (w.alloc (.cells #[.slice none 0 0] 33)).heap.size (w.alloc (.cells #[.slice none 0 0] 33)) ((w.alloc (.cells #[.slice none 0 0] 33)).alloc (.cells #[.slice none 0 0] 33)) by go_grown)
  have E:RowAt ((w.alloc (.cells #[.slice none 0 0] 33)).alloc (.cells #[.slice none 0 0] 33)) (w.heap.size+1) 0 [.slice none 0 0]:=by have h:=RowAt.box (w.alloc (.cells #[.slice none 0 0] 33)) #[.slice none 0 0] 33;simp only[World.size_alloc]at h;exact h
  have EW:Wr ((w.alloc (.cells #[.slice none 0 0] 33)).alloc (.cells #[.slice none 0 0] 33)) (w.heap.size+1) 0 1:=by have h:=Wr.box (w.alloc (.cells #[.slice none 0 0] 33)) #[.slice none 0 0] 33;simp only[World.size_alloc]at h;exact h
  have hw:Below w.heap.size w ((w.alloc (.cells #[.slice none 0 0] 33)).alloc (.cells #[.slice none 0 0] 33)):=by go_grown
  generalize ((w.alloc (.cells #[.slice none 0 0] 33)).alloc (.cells #[.slice none 0 0] 33))=w0 at *
  have S0:=S.below hw
  go_upto_region 5 with(go_at_call 135;(with_reducible refine(cN.out _ S0).mono ?_);rintro e w1 ⟨v1,rfl,S1,T1,F1⟩;replace T1:=T1.mono GTyItem.good (show b+1<=_ from S0.lt);obtain⟨a1,c1',rfl⟩:=T1.form;have hl1:(flatY (TyT.v (s.nx:Int))).length=1:=rfl;rw[hl1]at T1 ⊢;clear hl1)
  obtain⟨w2,hW2⟩ : ∃W,W=w1.alloc (.cells #[.slice a1 1 c1'] 33):=⟨_,rfl⟩
  rw[<- hW2]
  have hz0:=hw.size
  have hz1:=F1.size
  have hb12:Below w1.heap.size w1 w2:=by rw[hW2];go_grown
  have A2:RowAt w2 w1.heap.size 0 [.slice a1 1 c1']:=by rw[hW2];exact RowAt.box w1 #[_] _
  have hsR0:=World.block_lt_of_cell? _ _ (E 0 _ rfl)
  dsimp only at hsR0
  have R2:=(F1.row R (by omega)).below hb12
  have R2W:=(RW.kept F1.kept (by omega)).below hb12
  have E2:=(F1.row E (by omega)).below hb12
  have E2W:=(EW.kept F1.kept (by omega)).below hb12
  have S2:=S1.below hb12
  have T2:=T1.below GTyItem.good hb12
  have F2:=(IFr.of hw (Nat.le_of_lt hlt)).trans (F1.grow hb12 (by omega))
  have hz2:=hb12.size
  obtain⟨ab,hab⟩ : ∃q,q=w1.heap.size:=⟨_,rfl⟩
  rw[<- hab]at A2 hz1 ⊢
  have hab2:w.heap.size+1<ab:=by omega
  clear hW2 hb12 R RW E EW S1 T1 F1 S0 hw
  replace hab:=kH hab;replace T2:=kH T2;replace F2:=kH F2
  have a2_0:=A2.box1;have hsA2:=bLt a2_0
  go_upto_region 6 with(go_at_call 53;(with_reducible refine(cL.out _ _ (sl_box1 (lo:=0) (t:=.v (s.nx:Int)) (w:=w2) (RowAt.box w2 #[.slice a1 1 c1'] 33) (Nat.zero_le _) ((T2.out.below GTyItem.good (by go_grown)).mono GTyItem.good (Nat.zero_le _)))).mono ?_);rintro e w3 ⟨v3,rfl,T3,hb3⟩;obtain⟨a3,c3',rfl⟩:=T3.form;have hl1:(flatY (.c1 nmList (.v (s.nx:Int)))).length=2:=rfl;rw[hl1]at T3 ⊢;clear hl1)
  obtain⟨w4,hW4⟩ : ∃W,W=w3.alloc (.cells #[.slice a3 2 c3'] 33):=⟨_,rfl⟩
  rw[<- hW4]
  have hb23:Below w2.heap.size w2 w3:=Below.trans (show Below w2.heap.size w2 _ by go_grown) (hb3.mono (by simp))
  have hb34:Below w3.heap.size w3 w4:=by rw[hW4];go_grown
  have L4:RowAt w4 w3.heap.size 0 [.slice a3 2 c3']:=by rw[hW4];exact RowAt.box w3 #[_] _
  have hz3:=hb23.size
  have hb24:=hb23.trans (hb34.mono hz3)
  have A4:=A2.below hb24
  have R4:=R2.below hb24
  have R4W:=R2W.below hb24
  have E4:=E2.below hb24
  have E4W:=E2W.below hb24
  have S4:=S2.below hb24
  have T4:=T2.out.below GTyItem.good hb24
  have hLB:∀g,(Value.slice a3 2 c3').ownBlock=some g->w2.heap.size<=g:=fun g hg=>by have:=(T3.base g hg).1;simp at this;omega
  have L4T:=((T3.sl flatTyItem).mono GTyItem.good (show w.heap.size<=_ by simp;omega)).below GTyItem.good hb34
  have F4:=F2.out.grow hb24 (by omega)
  have hz4:=hb24.size
  have hab3:ab<w3.heap.size:=by omega
  obtain⟨lb,hlb⟩ : ∃q,q=w3.heap.size:=⟨_,rfl⟩
  rw[<- hlb]at L4 hz3 hab3 ⊢
  clear hW4 a2_0 hsA2 A2 R2 R2W E2 E2W S2 T2 F2 T3 hb3 hb23 hb34 hb24
  replace hlb:=kH hlb;replace T4:=kH T4;replace L4T:=kH L4T;replace hLB:=kH hLB;replace F4:=kH F4
  have a4_0:=A4.box1;have hsA4:=bLt a4_0;have l4_0:=L4.box1;have hsL4:=bLt l4_0;have r4f_0:=R4W.frz 0 (by omega);have r4_0:=R4.box1;have hsR4:=bLt r4_0;have e4f_0:=E4W.frz 0 (by omega);have e4_0:=E4.box1;have hsE4:=bLt e4_0
  have hA1:ab≠w.heap.size:=by omega
  have hA2:ab≠w.heap.size+1:=by omega
  have hL1:lb≠w.heap.size:=by omega
  have hL2:lb≠w.heap.size+1:=by omega
  replace hA1:=kH hA1;replace hA2:=kH hA2;replace hL1:=kH hL1;replace hL2:=kH hL2
  go_region_held3 (fun w'=>w'.cell? ⟨ab,0,none⟩=some (.slice a1 1 c1')/\w'.cell? ⟨lb,0,none⟩=some (.slice a3 2 c3'))
   (first|exact⟨a4_0,l4_0⟩|exact⟨u_0,v_0⟩|exact⟨(A5.set_other hA1.out _).box1,(L5.set_other hL1.out _).box1⟩|exact⟨((A5.set_other hA1.out _).set_other hA2.out _).box1,((L5.set_other hL1.out _).set_other hL2.out _).box1⟩|go_keep)
   (first|(go_at_call 53;(with_reducible refine(cT.out _ _ (sl_box2 (lo:=0) (t:=.v (s.nx:Int)) (u:=.c1 nmList (.v (s.nx:Int))) ((RowAt.box w4 #[.slice a1 1 c1',.slice a3 2 c3'] 33).below ((Below.refl _ _).drew)) (Nat.zero_le _) ((T4.out.below GTyItem.good (((Below.refl _ _).alloc (Nat.le_refl _) _).drew)).mono GTyItem.good (Nat.zero_le _)) ((L4T.out.below GTyItem.good (((Below.refl _ _).alloc (Nat.le_refl _) _).drew)).mono GTyItem.good (Nat.zero_le _)))).mono ?_);rintro e w5 ⟨v5,rfl,T5,hb5⟩;obtain⟨a5,c5',rfl⟩:=T5.form;have hl1:(flatY (.c2 nmStar (.v (s.nx:Int)) (.c1 nmList (.v (s.nx:Int))))).length=4:=rfl;rw[hl1]at T5 ⊢;clear hl1;have hb45:Below w4.heap.size w4 w5:=((Below.refl _ _).alloc (Nat.le_refl _) _).drew.trans (hb5.mono (by simp));have A5:=A4.below hb45;have L5:=L4.below hb45;have R5:=R4.below hb45;have R5W:=R4W.below hb45;have E5:=E4.below hb45;have E5W:=E4W.below hb45;have u_0:=A5.box1;have v_0:=L5.box1;have r5_0:=R5.box1;have e5_0:=E5.box1;have rf5:=R5W.frz 0 (by omega);have ef5:=E5W.frz 0 (by omega)))
  all_goals go_wp2_with fail
  all_goals
   obtain⟨w6,hW6⟩ : ∃W,W=(w5.setCell ⟨w.heap.size,0,none⟩ (.slice a3 2 c3')).setCell ⟨w.heap.size+1,0,none⟩ (.slice a5 4 c5'):=⟨_,rfl⟩
   rw[<- hW6]
   obtain⟨F6,S6,R6,E6,K6⟩:=con_fin (s:=s) hlt (Nat.le_refl _) (by omega) (by omega) (F4.out.grow hb45 (by omega)) (S4.below hb45) rfl hs0.out R5 E5 _ _ w6 hW6
   refine bodyPost_ret (ret_con (a:=4) (c:=5) (i:=6) (j:=7) Tryz.results94 rfl rfl rfl rfl R6 E6) rfl ?_
   have k1:=kept_sl2 (L4T.out.below GTyItem.good hb45) K6 (fun g hg e=>by have h1:=hLB.out g hg;have h2:=hab.out;rcases e with e|e<;>omega)
   exact hpost.out _ _ _ S6 F6 ⟨_,_,_,rfl⟩ ⟨_,_,_,rfl⟩ k1 (kept_sl T5 K6 (fun q hq e=>by simp at hq;rcases e with e|e<;>omega) (by simp;omega))
theorem l05Has_c (xs:List Int) (n:Int) (v:Value) (w:World) (h:Sl IntR 1 0 w v xs) :
  Calls Tryz.prog 165 #[v,.int .i64 n] w fun e w'=>e=.returned (.bool (decide (n∈xs)))/\Below w.heap.size w w':=by
 obtain⟨a,c,rfl,hl,hc,h0⟩:=h
 obtain⟨m,hm⟩ : ∃m,m=xs.length:=⟨_,rfl⟩
 rw[<- hm]at hl ⊢
 have htrue:∀x∈xs,x=n->decide (n∈xs)=true:=fun x hx e=>by subst e;exact decide_eq_true hx
 have hfalse:(∀x∈xs,x≠n)->decide (n∈xs)=false:=fun h=>decide_eq_false fun hx=>h n hx rfl
 generalize decide (n∈xs)=res at *
 replace hm:=kH hm;replace h0:=kH h0;replace htrue:=kH htrue;replace hfalse:=kH hfalse
 go_enter Tryz.func165,Tryz.ntmps165
 go_wp2_with fail
 go_loopw [9] (fun i wr=>∃k:Nat,k<=m/\i=.int .i64 k/\wr=w/\Hid (∀y∈xs.take k,y≠n)) (fun i _=>m-(intOf i).toNat)
 case atStart=>exact⟨0,by omega,rfl,rfl,fun y hy=>by simp at hy⟩
 case round=>
  obtain⟨k,hk,rfl,rfl,hF⟩:=hrel
  by_cases hlt:k<m
  ·obtain⟨b1,o1,x,r,_,rfl,P1,⟨rfl,hx64⟩,r1⟩:=(h0.out).get hm hlt
   have e_0:wr.cell? ⟨b1,o1+k,none⟩=some (.int .i64 x):=by simpa using r1 0 _ rfl
   have hbb1:=World.block_lt_of_cell? _ _ e_0;dsimp only at hbb1
   have hx:=List.mem_of_getElem? P1.out
   have htk:xs.take (k+1)=xs.take k ++ [x]:=by rw[List.take_add_one,P1.out];rfl
   replace htk:=kH htk;replace P1:=kH P1.out
   clear r1
   by_cases e:x=n
   ·have hr:=htrue.out x hx e
    subst hr
    have d:(x == n)=true:=by rw[e];simp
    replace e:=kH e
    go_wp2_with fail
    go_returns
    exact⟨rfl,Below.refl _ _⟩
   ·have d:(x == n)=false:=beq_eq_false_iff_ne.2 e
    go_wp2_with fail
    go_roundw
    case rel=>exact⟨k+1,by omega,by go_num,by first|rfl|trivial,by
     show ∀y∈xs.take (k+1),y≠n
     rw[htk.out]
     intro y hy
     rcases List.mem_append.1 hy with h|h
     ·exact hF.out y h
     ·simp only[List.mem_singleton]at h;subst h;exact e⟩
    case measure=>simp[intOf];omega
  ·obtain rfl:k=m:=by omega
   have hr:=hfalse.out (by have hF:=hF.out;rw[List.take_of_length_le (by have:=hm.out;omega)]at hF;exact hF)
   subst hr
   go_wp2_with fail
   go_returns
   exact⟨rfl,Below.refl _ _⟩
def PutPost (xs:List Int) (n:Int) (w:World) (e:Ending) (w' : World):Prop:=
 ∃v ys,e=.returned v/\Sl IntR 1 0 w' v ys/\(∀k,k∈ys ↔ k∈xs\/k=n)/\ys.length<=xs.length+1/\Below w.heap.size w w'
abbrev OwnI (lo:Nat) (w:World) (v:Value) (l:List Int):Prop:=OwnF 3 1 intRow I64 lo w v l
theorem ownI_push {lo g cap vn:Nat} {W:World} {ys:List Int} {x:Int} (hvn:vn=ys.length) (hw:∀z∈ys,I64 z) (hx:I64 x) (h:W.ownsRow lo 3 1 (.slice (some ⟨g,0,none⟩) (vn+1) cap) (vn+1) (rowsOf intRow ys ++ [.int .i64 x])) :
  OwnI lo W (.slice (some ⟨g,0,none⟩) (vn+1) cap) (ys ++ [x]):=by
 refine⟨?_,fun z hz=>?_⟩
 ·rw[List.length_append,<- hvn,rowsOf_append,rowsOf_one];exact h
 ·rcases List.mem_append.1 hz with h|h
  ·exact hw z h
  ·simp only[List.mem_singleton]at h;rw[h];exact hx
theorem l05Put_c (xs:List Int) (n:Int) (hn64:I64 n) (hlen:xs.length<=1000000) (v:Value) (w:World) (h:Sl IntR 1 0 w v xs) :
  Calls Tryz.prog 179 #[v,.int .i64 n] w (PutPost xs n w):=by
 have H:=h
 have hsame:n∈xs->∀W,Below w.heap.size w W->PutPost xs n w (.returned v) W:=fun hx W hW=>⟨v,xs,rfl,H.below IntR.good hW,fun k=>⟨fun h=>.inl h,fun h=>by rcases h with h|h;exact h;subst h;exact hx⟩,by omega,hW⟩
 have hnew:∀W u ys,OwnI w.heap.size W u ys->(∀k,k∈ys ↔ k∈xs\/k=n)->ys.length<=xs.length+1->Below w.heap.size w W->PutPost xs n w (.returned u) W:=fun W u ys h1 h2 h3 h4=>⟨u,ys,rfl,(h1.sl flatInt).mono IntR.good (Nat.zero_le _),h2,h3,h4⟩
 generalize PutPost xs n w=Q at *
 obtain⟨a,c,rfl,hl,hc,h0⟩:=h
 obtain⟨m,hm⟩ : ∃m,m=xs.length:=⟨_,rfl⟩
 rw[<- hm]at hl hlen ⊢
 rw[<- hm]at hsame
 have hK:∀W,Below w.heap.size w W->SlAt IntR 1 0 W a xs:=fun W hW=>h0.below IntR.good hW
 replace hm:=kH hm;replace hK:=kH hK;replace hsame:=kH hsame;replace hnew:=kH hnew
 clear h0 H
 obtain⟨iJ,hi0,hz0,hz1,hz2⟩:=info_parts info_IntS;have IJ:=kH hi0;have IJ0:=kH hz0;have IJ1:=kH hz1;have IJ2:=kH hz2;clear hi0 hz0 hz1 hz2
 go_enter Tryz.func179,Tryz.ntmps179
 go_upto_region 2 with fail
 obtain⟨w1,hW1⟩ : ∃W,W=w.alloc (.cells #[] 3):=⟨_,rfl⟩
 rw[<- hW1]
 have hb1:Below w.heap.size w w1:=by rw[hW1];go_grown
 have O1:OwnI w.heap.size w1 (.slice (some ⟨w.heap.size,0,none⟩) 0 0) []:=⟨own_empty_at (by rw[hW1];exact heap_alloc_new' _ _ _ (by simp)) (Nat.le_refl _),fun x h=>by cases h⟩
 generalize (Value.slice (some ⟨w.heap.size,0,none⟩) 0 0)=ov0 at *
 clear hW1
 replace O1:=kH O1
 go_wp2_with fail
 go_loopw [5,6,12] (fun ov dv ii wr=>∃ (k:Nat) (dn:Bool) (ys:List Int),k<=m/\ii=.int .i64 k/\dv=.bool dn/\Hid (OwnI w.heap.size wr ov ys)/\Hid (∀z,z∈ys ↔ z∈xs.take k\/(dn=true/\z=n))/\ys.length<=k+1/\(dn=false->ys.length<=k)/\Below w.heap.size w wr) (fun _ _ ii _=>m-(intOf ii).toNat)
 case atStart=>exact⟨0,false,[],by omega,rfl,rfl,O1,kH (fun z=>by simp),by simp,fun _=>by simp,hb1⟩
 case round=>
  clear O1 hb1
  obtain⟨k,dn,ys,hk,rfl,rfl,O,hmem,hle,hle2,hw⟩:=hrel
  have hz:=hw.size
  obtain⟨va,vc,rfl⟩:=O.out.form
  obtain⟨vn,hvn⟩ : ∃y,y=ys.length:=⟨_,rfl⟩
  have hown:=O.out.1
  have hOw:=kH O.out.2
  rw[<- hvn]at hown hle hle2 ⊢
  by_cases hlt:k<m
  ·obtain⟨b1,o1,x,r,_,rfl,P1,⟨rfl,hx64⟩,r1⟩:=(hK.out _ hw).get hm hlt
   have e_0:wr.cell? ⟨b1,o1+k,none⟩=some (.int .i64 x):=by simpa using r1 0 _ rfl
   have hbb1:=World.block_lt_of_cell? _ _ e_0;dsimp only at hbb1
   have hx:=List.mem_of_getElem? P1.out
   have htk:∀z,z∈xs.take (k+1) ↔ z∈xs.take k\/z=x:=fun z=>by rw[List.take_add_one,P1.out];simp
   replace htk:=kH htk;replace hx:=kH hx;replace hx64:=kH hx64;replace hvn:=kH hvn;replace hown:=kH hown
   clear r1 P1 O
   by_cases e:x=n
   ·have hr:=hsame.out (by rw[<- e];exact hx.out) wr hw
    replace hr:=kH hr
    have d:(x == n)=true:=by rw[e];simp
    replace e:=kH e
    go_wp2_with fail
    exact hr.out
   ·have d:(x == n)=false:=beq_eq_false_iff_ne.2 e
    replace e:=kH e
    have hm0:=hmem.out
    have oneway:(dn=true\/¬ n<x)->Hid (dn=true\/¬ n<x):=fun h=>h
    by_cases hc2:dn=false/\n<x
    ·obtain⟨rfl,hlx⟩:=hc2
     have hle3:=hle2 rfl
     have d2:decide (n<x)=true:=decide_eq_true hlx
     go_upto_region 10 with(at_builtin;refine wpList_append_lies _ rfl _ _ _ rfl (w.heap.size) 3 iJ _ 1 8 Tryz.underlying91 IJ.out IJ0.out IJ1.out IJ2.out rfl (by omega) (.slice va vn vc) (vn) (rowsOf intRow ys) rfl (own_below hown.out (by go_grown)) ⟨wr.heap.size,0,none⟩ 1 1 [.int .i64 n] rfl rfl (World.news_of_block (cs:=#[.int .i64 n]) (t:=3) (fr:=(0,0)) (heap_alloc_new' _ _ _ (by simp))) (by intro u hu;simp at hu;repeat' first|(subst hu;rfl)|rcases hu with hu|hu) (by omega) (by unfold maxLen;omega) (by omega) (by simp;omega) _ rfl ?_;intro g2 cap2 w4 hown4 hgrow hat hlt4)
     have hw4:Below w.heap.size w w4:=below_grown2 (wr:=wr) (base:=w.heap.size) hgrow (by go_grown) hw hz hown.out
     have O4:=ownI_push hvn.out hOw.out hn64 hown4
     have hz4:=hw4.size
     have hO4:=kH O4.1
     have hl4:vn+1=(ys ++ [n]).length:=by rw[List.length_append,<- hvn.out];rfl
     have hOw4:=kH O4.2
     replace hl4:=kH hl4
     clear hown4 hgrow hat hlt4 O4
     go_wp2_with (at_builtin;refine wpList_append_lies _ rfl _ _ _ rfl (w.heap.size) 3 iJ _ 1 8 Tryz.underlying91 IJ.out IJ0.out IJ1.out IJ2.out rfl (by omega) (.slice (some ⟨g2,0,none⟩) (vn+1) cap2) (vn+1) (rowsOf intRow (ys ++ [n])) rfl (own_below (by have:=hO4.out;rw[<- hl4.out]at this;exact this) (by go_grown)) ⟨w4.heap.size,0,none⟩ 1 1 [.int .i64 x] rfl rfl (World.news_of_block (cs:=#[.int .i64 x]) (t:=3) (fr:=(0,0)) (heap_alloc_new' _ _ _ (by simp))) (by intro u hu;simp at hu;repeat' first|(subst hu;rfl)|rcases hu with hu|hu) (by omega) (by unfold maxLen;omega) (by omega) (by simp;omega) _ rfl ?_;intro g3 cap3 w6 hown6 hgrow hat hlt6)
     have hw6:Below w.heap.size w w6:=below_grown2 (wr:=w4) (base:=w.heap.size) hgrow (by go_grown) hw4 hz4 (by have:=hO4.out;rw[<- hl4.out]at this;exact this)
     have O6:=ownI_push hl4.out hOw4.out hx64.out hown6
     go_roundw
     case rel=>exact⟨k+1,true,ys ++ [n] ++ [x],by omega,by go_num,rfl,kH O6,kH (fun z=>by rw[htk.out z];simp only[List.mem_append,List.mem_singleton];rw[hm0 z];grind),by simp only[List.length_append,List.length_singleton,<- hvn.out];omega,fun h=>(by cases h),hw6⟩
     case measure=>simp[intOf];omega
    ·have rest:∀ (g3 cap3:Nat) (w6:World),w6.ownsRow w.heap.size 3 1 (.slice (some ⟨g3,0,none⟩) (vn+1) cap3) (vn+1) (rowsOf intRow ys ++ [.int .i64 x])->Below w.heap.size w w6->
       ∃ (k' : Nat) (dn' : Bool) (ys' : List Int),k'<=m/\(Value.int .i64 ((k:Int)+1))=.int .i64 k'/\(Value.bool dn)=.bool dn'/\Hid (OwnI w.heap.size w6 (.slice (some ⟨g3,0,none⟩) (vn+1) cap3) ys')/\Hid (∀z,z∈ys' ↔ z∈xs.take k'\/(dn' = true/\z=n))/\ys'.length<=k' + 1/\(dn' = false->ys'.length<=k')/\Below w.heap.size w w6:=fun g3 cap3 w6 h1 h2=>
      ⟨k+1,dn,ys ++ [x],by omega,by go_num,rfl,kH (ownI_push hvn.out hOw.out hx64.out h1),kH (fun z=>by rw[htk.out z];simp only[List.mem_append,List.mem_singleton];rw[hm0 z];grind),by simp only[List.length_append,List.length_singleton,<- hvn.out];omega,fun h=>by have:=hle2 h;simp only[List.length_append,List.length_singleton,<- hvn.out];omega,h2⟩
     replace rest:=kH rest
     have hng:∀ (w6:World) (w1' : World),w1'.grownBy w6 (Value.slice va vn vc).ownBlock->Below wr.heap.size wr w1'->Below w.heap.size w w6:=fun w6 w1' h1 h2=>below_grown2 (wr:=wr) (base:=w.heap.size) h1 h2 hw hz hown.out
     replace hng:=kH hng
     cases dn
     ·have d2:decide (n<x)=false:=decide_eq_false fun h=>hc2 ⟨rfl,h⟩
      go_wp2_with (at_builtin;refine wpList_append_lies _ rfl _ _ _ rfl (w.heap.size) 3 iJ _ 1 8 Tryz.underlying91 IJ.out IJ0.out IJ1.out IJ2.out rfl (by omega) (.slice va vn vc) (vn) (rowsOf intRow ys) rfl (own_below hown.out (by go_grown)) ⟨wr.heap.size,0,none⟩ 1 1 [.int .i64 x] rfl rfl (World.news_of_block (cs:=#[.int .i64 x]) (t:=3) (fr:=(0,0)) (heap_alloc_new' _ _ _ (by simp))) (by intro u hu;simp at hu;repeat' first|(subst hu;rfl)|rcases hu with hu|hu) (by omega) (by unfold maxLen;omega) (by omega) (by simp;omega) _ rfl ?_;intro g3 cap3 w6 hown6 hgrow hat hlt6)
      have hb6:=hng.out _ _ hgrow (by go_grown)
      go_roundw
      case rel=>exact rest.out _ _ _ hown6 hb6
      case measure=>simp[intOf];omega
     ·go_wp2_with (at_builtin;refine wpList_append_lies _ rfl _ _ _ rfl (w.heap.size) 3 iJ _ 1 8 Tryz.underlying91 IJ.out IJ0.out IJ1.out IJ2.out rfl (by omega) (.slice va vn vc) (vn) (rowsOf intRow ys) rfl (own_below hown.out (by go_grown)) ⟨wr.heap.size,0,none⟩ 1 1 [.int .i64 x] rfl rfl (World.news_of_block (cs:=#[.int .i64 x]) (t:=3) (fr:=(0,0)) (heap_alloc_new' _ _ _ (by simp))) (by intro u hu;simp at hu;repeat' first|(subst hu;rfl)|rcases hu with hu|hu) (by omega) (by unfold maxLen;omega) (by omega) (by simp;omega) _ rfl ?_;intro g3 cap3 w6 hown6 hgrow hat hlt6)
      have hb6:=hng.out _ _ hgrow (by go_grown)
      go_roundw
      case rel=>exact rest.out _ _ _ hown6 hb6
      case measure=>simp[intOf];omega
  ·obtain rfl:k=m:=by omega
   have hmm:=hmem.out
   rw[List.take_of_length_le (by have:=hm.out;omega)]at hmm
   have hml:=hm.out
   have hOO:=O.out
   rw[<- hvn]at hOO
   replace hmm:=kH hmm;replace hown:=kH hown;replace hvn:=kH hvn;replace hOO:=kH hOO;replace hml:=kH hml
   clear O
   cases dn
   ·have hl2:=hle2 rfl
    go_wp2_with (at_builtin;refine wpList_append_lies _ rfl _ _ _ rfl (w.heap.size) 3 iJ _ 1 8 Tryz.underlying91 IJ.out IJ0.out IJ1.out IJ2.out rfl (by omega) (.slice va vn vc) (vn) (rowsOf intRow ys) rfl (own_below hown.out (by go_grown)) ⟨wr.heap.size,0,none⟩ 1 1 [.int .i64 n] rfl rfl (World.news_of_block (cs:=#[.int .i64 n]) (t:=3) (fr:=(0,0)) (heap_alloc_new' _ _ _ (by simp))) (by intro u hu;simp at hu;repeat' first|(subst hu;rfl)|rcases hu with hu|hu) (by omega) (by unfold maxLen;omega) (by omega) (by simp;omega) _ rfl ?_;intro g3 cap3 w6 hown6 hgrow hat hlt6)
    exact hnew.out _ _ (ys ++ [n]) (ownI_push hvn.out hOw.out hn64 hown6) (fun z=>by rw[List.mem_append,hmm.out z];simp) (by rw[List.length_append,<- hvn.out,<- hml.out];simp;omega) (below_grown2 (wr:=wr) (base:=w.heap.size) hgrow (by go_grown) hw hz hown.out)
   ·go_wp2_with fail
    exact hnew.out _ _ ys hOO.out (fun z=>by rw[hmm.out z];simp) (by rw[<- hvn.out,<- hml.out];omega) hw
def VarsPost (l:List GTyItem) (w:World) (e:Ending) (w' : World):Prop:=
 ∃v ys,e=.returned v/\Sl IntR 1 0 w' v ys/\(∀k,k∈ys ↔ ∃x∈l,x.name.toList.isEmpty=true/\x.var=k)/\ys.length<=l.length/\Below w.heap.size w w'
theorem l05Vars_c (l:List GTyItem) (hlen:l.length<=1000000) (tv:Value) (w:World) (h:Sl GTyItem.R 3 0 w tv l) :
  Calls Tryz.prog 166 #[.agg #[tv]] w (VarsPost l w):=by
 have hpost:∀W u ys,Sl IntR 1 0 W u ys->(∀k,k∈ys ↔ ∃x∈l,x.name.toList.isEmpty=true/\x.var=k)->ys.length<=l.length->Below w.heap.size w W->VarsPost l w (.returned u) W:=fun W u ys h1 h2 h3 h4=>⟨u,ys,rfl,h1,h2,h3,h4⟩
 generalize VarsPost l w=Q at *
 obtain⟨ta,tc,rfl,tl,tm,t0⟩:=h
 obtain⟨n,hn⟩ : ∃n,n=l.length:=⟨_,rfl⟩
 rw[<- hn]at tl hlen ⊢
 have tK:∀W,Below w.heap.size w W->SlAt GTyItem.R 3 0 W ta l:=fun W hW=>t0.below GTyItem.good hW
 replace tK:=kH tK;replace hn:=kH hn;replace hpost:=kH hpost
 clear t0
 go_enter Tryz.func166,Tryz.ntmps166
 go_upto_region 1 with fail
 have B:RowAt (w.alloc (.cells #[.slice ta n tc] 33)) (w.heap.size) 0 [.slice ta n tc]:=RowAt.box w #[.slice ta n tc] 33
 have hw:Below w.heap.size w (w.alloc (.cells #[.slice ta n tc] 33)):=by go_grown
 generalize (w.alloc (.cells #[.slice ta n tc] 33))=w0 at *
 have b_0:=B.box1;have hsB:=bLt b_0
 go_upto_region 2 with fail
 obtain⟨w1,hW1⟩ : ∃W,W=w0.alloc (.cells #[] 3):=⟨_,rfl⟩
 rw[<- hW1]
 have hb1:Below w0.heap.size w0 w1:=by rw[hW1];go_grown
 have O1:Sl IntR 1 0 w1 (.slice (some ⟨w0.heap.size,0,none⟩) 0 0) []:=⟨_,_,rfl,Nat.le_refl _,by decide,fun h=>absurd h (by simp)⟩
 have B1:=B.below hb1
 have hw1:=hw.trans (hb1.mono hw.size)
 generalize (Value.slice (some ⟨w0.heap.size,0,none⟩) 0 0)=ov0 at *
 clear hW1 b_0 hsB B hb1 hw
 replace O1:=kH O1
 have b1_0:=B1.box1;have hsB1:=bLt b1_0
 go_wp2_with fail
 go_loopw [3,10] (fun ov ii wr=>∃ (k:Nat) (ys:List Int),k<=n/\ii=.int .i64 k/\Hid (Sl IntR 1 0 wr ov ys)/\Hid (∀z,z∈ys ↔ ∃x∈l.take k,x.name.toList.isEmpty=true/\x.var=z)/\ys.length<=k/\Below w.heap.size w wr) (fun _ ii _=>n-(intOf ii).toNat)
 case atStart=>exact⟨0,[],by omega,rfl,O1,kH (fun z=>by simp),by simp,hw1⟩
 case round=>
  clear O1 hw1 b1_0 hsB1 B1
  obtain⟨k,ys,hk,rfl,O,hmem,hle,hw⟩:=hrel
  have hz:=hw.size
  by_cases hlt:k<n
  ·obtain⟨b1,o1,x,r,_,rfl,P1,⟨rfl,hwf⟩,r1⟩:=(tK.out _ hw).get hn.out hlt
   have htk:∀y,y∈l.take (k+1) ↔ y∈l.take k\/y=x:=fun y=>by rw[List.take_add_one,P1.out];simp
   obtain⟨va,nm,ar⟩:=x
   dsimp only[tyRow]at r1
   have e_0:wr.cell? ⟨b1,o1+k*3,none⟩=some (.int .i64 va):=by simpa using r1 0 _ rfl
   have e_1:wr.cell? ⟨b1,o1+k*3+1,none⟩=some (.string nm):=r1 1 _ rfl
   have e_2:wr.cell? ⟨b1,o1+k*3+2,none⟩=some (.int .i64 ar):=r1 2 _ rfl
   have hbb1:=World.block_lt_of_cell? _ _ e_0;dsimp only at hbb1
   obtain⟨q,hq⟩ : ∃q,nm.toList.isEmpty=q:=⟨_,rfl⟩
   have hq2:(nm.toList == [])=q:=by rw[<- hq];cases nm.toList<;>rfl
   have hva:I64 va:=hwf.1
   clear r1 P1 hwf
   replace htk:=kH htk;replace hq:=kH hq;replace hva:=kH hva
   go_upto_region 5 with fail
   obtain⟨w2,hW2⟩ : ∃W,W=wr.alloc (.cells #[.int .i64 va,.string nm,.int .i64 ar] 107):=⟨_,rfl⟩
   rw[<- hW2]
   have hb2:Below wr.heap.size wr w2:=by rw[hW2];go_grown
   have X:RowAt w2 wr.heap.size 0 [.int .i64 va,.string nm,.int .i64 ar]:=by rw[hW2];exact RowAt.box wr #[_,_,_] _
   obtain⟨xb,hxb⟩ : ∃x,x=wr.heap.size:=⟨_,rfl⟩
   rw[<- hxb]at X ⊢
   have hw2:=hw.trans (hb2.mono hz)
   have O2:=O.out.below IntR.good hb2
   have cP:=l05Put_c ys va hva.out (by omega) _ w2 O2
   unfold PutPost at cP
   replace hxb:=kH hxb;replace cP:=kH cP;replace O2:=kH O2
   clear hW2 hb2 e_0 e_1 e_2 hbb1 O
   obtain⟨x_0,x_1,x_2⟩:=X.box3;have hsX:=bLt x_0
   cases q
   ·go_wp2_with fail
    go_roundw
    case rel=>
     refine⟨k+1,ys,by omega,by go_num,O2,kH (fun z=>?_),by omega,hw2⟩
     rw[hmem.out z]
     constructor
     ·rintro ⟨x,h1,h2⟩;exact⟨x,(htk.out x).2 (.inl h1),h2⟩
     ·rintro ⟨x,h1,h2⟩
      rcases (htk.out x).1 h1 with h1|h1
      ·exact⟨x,h1,h2⟩
      ·subst h1;have:=hq.out;rw[h2.1]at this;cases this
    case measure=>simp[intOf];omega
   ·go_wp2_with (go_at_call 179;(with_reducible refine(cP.out).mono ?_);rintro e w3 ⟨v3,ys3,rfl,O3,hm3,hl3,hb3⟩)
    go_roundw
    case rel=>
     refine⟨k+1,ys3,by omega,by go_num,kH O3,kH (fun z=>?_),by omega,hw2.trans (hb3.mono hw2.size)⟩
     rw[hm3 z,hmem.out z]
     constructor
     ·rintro (⟨x,h1,h2⟩|h)
      ·exact⟨x,(htk.out x).2 (.inl h1),h2⟩
      ·exact⟨_,(htk.out _).2 (.inr rfl),hq.out,h.symm⟩
     ·rintro ⟨x,h1,h2⟩
      rcases (htk.out x).1 h1 with h1|h1
      ·exact .inl ⟨x,h1,h2⟩
      ·subst h1;exact .inr h2.2.symm
    case measure=>simp[intOf];omega
  ·obtain rfl:k=n:=by omega
   have hmm:=hmem.out
   rw[List.take_of_length_le (by have:=hn.out;omega)]at hmm
   have hnl:=hn.out
   replace hmm:=kH hmm;replace hnl:=kH hnl
   go_wp2_with fail
   exact hpost.out _ _ ys O.out hmm.out (by rw[<- hnl.out];exact hle) hw
theorem occ_items (k:Int):∀t:TyT,NamesY t->((∃x∈flatY t,x.name.toList.isEmpty=true/\x.var=k) ↔ occY k t=true)
 |.v n,_=>by
  simp only[flatY,List.mem_singleton,occY,beq_iff_eq]
  constructor
  ·rintro ⟨x,rfl,-,h⟩;exact h.symm
  ·intro h;exact⟨_,rfl,empB,h.symm⟩
 |.c0 s,h=>by
  simp only[flatY,List.mem_singleton,occY]
  constructor
  ·rintro ⟨x,rfl,h1,-⟩;rw[show s.toList.isEmpty=false from h]at h1;cases h1
  ·intro h;cases h
 |.c1 s a,h=>by
  rw[occY,<- occ_items k a h.2]
  simp only[flatY,List.mem_cons]
  constructor
  ·rintro ⟨x,h1|h1,h2⟩
   ·subst h1;have:=h2.1;rw[show s.toList.isEmpty=false from h.1]at this;cases this
   ·exact⟨x,h1,h2⟩
  ·rintro ⟨x,h1,h2⟩;exact⟨x,.inr h1,h2⟩
 |.c2 s a b,h=>by
  rw[occY,Bool.or_eq_true,<- occ_items k a h.2.1,<- occ_items k b h.2.2]
  simp only[flatY,List.mem_cons,List.mem_append]
  constructor
  ·rintro ⟨x,h1|h1|h1,h2⟩
   ·subst h1;have:=h2.1;rw[show s.toList.isEmpty=false from h.1]at this;cases this
   ·exact .inl ⟨x,h1,h2⟩
   ·exact .inr ⟨x,h1,h2⟩
  ·rintro (⟨x,h1,h2⟩|⟨x,h1,h2⟩)
   ·exact⟨x,.inr (.inl h1),h2⟩
   ·exact⟨x,.inr (.inr h1),h2⟩
end Go.Proofs.YtkikkfjmggobpaaGreat
