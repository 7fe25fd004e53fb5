/- Parts of the proof, merged: Order, Order2, DataOk, DataOk2. -/
import Derived.Shelf.Abstract
import Derived.Laws.EntriesVeiled
import Derived.Test.YtkikkfjmggobpaaGreatDt8
namespace Go.Proofs.YtkikkfjmggobpaaGreat
open Go.RowKit
set_option maxRecDepth 100000
set_option maxHeartbeats 16000000
set_option linter.unusedVariables false
set_option linter.unusedSimpArgs false
attribute [local go_sem] Ext.cell
def endsK (n:Nat) (K:Nat->List Int):Nat->Nat->Int
 |0,_=>-1
 |f+1,i=>if n<=i then -1 else kidsEnd (endsK n K f) (i+1) (K i)
theorem endsK_out {n:Nat} {K:Nat->List Int} {i:Nat} (h:n<=i):∀f,endsK n K f i = -1
 |0=>rfl
 |f+1=>by unfold endsK;rw[if_pos h]
theorem endsK_range (n:Nat) (K:Nat->List Int):∀ (f i:Nat),0<=endsK n K f i->(i:Int)+1<=endsK n K f i/\endsK n K f i<=n
 |0,i,h=>by simp[endsK]at h
 |f+1,i,h=>by
  unfold endsK at h ⊢
  split at h
  ·simp at h
  ·rename_i hi
   rw[if_neg hi]
   exact kidsEnd_range (endsK_range n K f) (K i) (i+1) (by omega) (by omega) h
theorem kidsEnd_congr {E F:Nat->Int} (h:∀k,E k=F k) (nx:Int) (ks:List Int):kidsEnd E nx ks=kidsEnd F nx ks:=by
 rw[show E=F from funext h]
theorem ends_eq (l:List GDNode):∀f i,ends l f i=endsK l.length (fun i=>(l[i]?.map (·.kids)).getD []) f i
 |0,_=>rfl
 |f+1,i=>by
  unfold ends endsK
  cases hi:l[i]? with
  |none=>rw[if_pos (by simpa using hi)]
  |some x=>
   rw[if_neg (by have:=(List.getElem?_eq_some_iff.1 hi).1;omega)]
   show kidsEnd (ends l f) (i+1) x.kids=_
   rw[kidsEnd_congr (ends_eq l f)]
   simp[hi]
def KidsGive (n:Nat) (K:Nat->List Int) (g:Nat) (lb:Array Value) (lo:Nat) (w:World):Prop:=
 ∀i:Nat,i<n->∃v,Sl IntR 1 lo w v (K i)/\∀W,Below w.heap.size w W->Calls Tryz.prog g (#[.int .i64 i] ++ lb) W fun e w'=>e=.returned v/\Below W.heap.size W w'
structure Four (w0:World) (n g:Nat) (lb:Array Value) (b1 b2 b3 b4:Nat) (z:Nat) (w:World):Prop where
 below:Below w0.heap.size w0 w
 up:w0.heap.size<=b1
 le:z<=n
 c1:w.cell? ⟨b1,0,none⟩=some (.int .i64 z)
 f1:w.frozen? ⟨b1,0,none⟩=false
 c2:w.cell? ⟨b2,0,none⟩=some (.int .i64 n)
 c3:w.cell? ⟨b3,0,none⟩=some (.func (.func g) #[] lb)
 c4:w.cell? ⟨b4,0,none⟩=some (.func (.func 111) #[] #[.pointer (some ⟨b1,0,none⟩),.pointer (some ⟨b2,0,none⟩),.pointer (some ⟨b3,0,none⟩),.pointer (some ⟨b4,0,none⟩)])
theorem Four.more {w0:World} {n g:Nat} {lb:Array Value} {b1 b2 b3 b4 z:Nat} {w w' : World} (h:Four w0 n g lb b1 b2 b3 b4 z w) (hb:Below w.heap.size w w'):Four w0 n g lb b1 b2 b3 b4 z w':=
 ⟨h.below.trans (hb.mono h.below.size),h.up,h.le,cell_below hb h.c1,by rw[hb.frozen (p:=⟨b1,0,none⟩) (World.block_lt_of_cell? w _ h.c1),h.f1],cell_below hb h.c2,cell_below hb h.c3,cell_below hb h.c4⟩
theorem cell_setCell_block (w:World) (g o b o' : Nat) (u:Value) (h:b≠g):(w.setCell ⟨g,o,none⟩ u).cell? ⟨b,o',none⟩=w.cell? ⟨b,o',none⟩:=
 World.cell?_of_block (w:=w) (a:=⟨b,o',none⟩) (Below.heap_setCell w ⟨g,o,none⟩ u b h)
theorem Four.next {w0:World} {n g:Nat} {lb:Array Value} {b1 b2 b3 b4 z:Nat} {w:World} (h:Four w0 n g lb b1 b2 b3 b4 z w) (h2:b2≠b1) (h3:b3≠b1) (h4:b4≠b1) (z' : Nat) (hz:z'<=n):Four w0 n g lb b1 b2 b3 b4 z' (w.setCell ⟨b1,0,none⟩ (.int .i64 z')):=
 ⟨h.below.trans (Below.setCell (Below.refl _ w) (p:=⟨b1,0,none⟩) h.up _),h.up,hz,cell_setCell_eq _ _ _ _ h.c1,by rw[frozen_setCell,h.f1],by rw[cell_setCell_block _ _ _ _ _ _ h2,h.c2],by rw[cell_setCell_block _ _ _ _ _ _ h3,h.c3],by rw[cell_setCell_block _ _ _ _ _ _ h4,h.c4]⟩
def WalkPost (n:Nat) (K:Nat->List Int) (g:Nat) (lb:Array Value) (w0:World) (b1 b2 b3 b4 f z:Nat) (i:Int) (e:Ending) (w' : World):Prop:=
 ∃z' : Nat,e=.returned (.bool (decide (i=z/\0<=endsK n K f z)))/\Four w0 n g lb b1 b2 b3 b4 z' w'/\(i=z->0<=endsK n K f z->(z' : Int)=endsK n K f z)
theorem walk_c (n:Nat) (hn:n<=1152921504606846976) (K:Nat->List Int) (g:Nat) (lb:Array Value) (lo:Nat) (w0:World) (hk:KidsGive n K g lb lo w0) (eg:∀args w,(callFunc g args).run Tryz.prog w=.ok (.enter g args) w)
  (b1 b2 b3 b4:Nat) (h2:b2≠b1) (h3:b3≠b1) (h4:b4≠b1):∀ (f z:Nat) (i:Int) (w:World),I64 i->n<z+f->Four w0 n g lb b1 b2 b3 b4 z w->
  Calls Tryz.prog 111 #[.int .i64 i,.pointer (some ⟨b1,0,none⟩),.pointer (some ⟨b2,0,none⟩),.pointer (some ⟨b3,0,none⟩),.pointer (some ⟨b4,0,none⟩)] w (WalkPost n K g lb w0 b1 b2 b3 b4 f z i)
 |0,z,i,w,hi,hf,hF=>absurd hF.le (by omega)
 |f+1,z,i,w,hi,hf,hF=>by
  have ih:=walk_c n hn K g lb lo w0 hk eg b1 b2 b3 b4 h2 h3 h4 f
  replace ih:=kH ih
  replace hk:=kH hk
  obtain⟨hi0,hi1⟩:=hi
  have e1:=hF.c1
  have e2:=hF.c2
  have e5:=hF.f1
  by_cases hiz:i=z
  ·subst hiz
   have d1:((z:Int) != (z:Int))=false:=by simp
   by_cases hzn:z<n
   ·have d2:decide ((n:Int)<=(z:Int))=false:=decide_eq_false (by omega)
    have d2' : decide (n<=z)=false:=decide_eq_false (by omega)
    obtain⟨v,hv,hc⟩:=hk.out z hzn
    go_enter Tryz.func111,Tryz.ntmps111
    go_upto_region 4 with fail
    generalize hW:w.setCell ⟨b1,0,none⟩ (.int .i64 ((z:Int)+1))=W
    have F1:Four w0 n g lb b1 b2 b3 b4 (z+1) W:=by rw[<- hW];exact hF.next h2 h3 h4 (z+1) hzn
    clear hW e1 e2 e5 hF
    have e3:=F1.c3
    replace hc:=hc W F1.below
    have hends:endsK n K (f+1) z=kidsEnd (endsK n K f) (z+1) (K z):=by conv=>lhs;unfold endsK;rw[if_neg (by omega)]
    obtain⟨ka,kc,rfl,kl,km,k0⟩:=hv
    obtain⟨m,hm⟩ : ∃m,m=(K z).length:=⟨_,rfl⟩
    rw[<- hm]at kl hc
    replace hm:=kH hm
    replace hends:=kH hends
    replace k0:=kH k0
    go_wp2_with (go_at_fn g;refine hc.mono ?_;rintro e w1 ⟨rfl,hb⟩)
    have F2:=F1.more hb
    clear e3 F1 hb hc
    go_loopw [23] (fun ii wr=>∃ (j:Nat) (z' : Nat),j<=m/\z+1<=z'/\ii=.int .i64 j/\Hid (kidsEnd (endsK n K f) (z+1) (K z)=kidsEnd (endsK n K f) z' ((K z).drop j))/\Four w0 n g lb b1 b2 b3 b4 z' wr) (fun ii _=>m-(intOf ii).toNat)
    case atStart=>exact⟨0,z+1,by omega,by omega,by simp,by simp[Hid],F2⟩
    case round=>
     clear F2
     obtain⟨j,z',hj,hz1,rfl,hK,F2⟩:=hrel
     by_cases hjm:j<m
     ·obtain⟨b5,o5,k,s5,_,rfl,P5,⟨rfl,hk64⟩,r5⟩:=((k0.out.below IntR.good F2.below).get hm hjm)
      have e0:wr.cell? ⟨b5,o5+j,none⟩=some (.int .i64 k):=by simpa using r5 0 _ rfl
      have e4:=F2.c4
      have hdrop:(K z).drop j=k :: (K z).drop (j+1):=by
       obtain⟨hjl,he⟩:=List.getElem?_eq_some_iff.1 P5.out
       rw[List.drop_eq_getElem_cons hjl,he]
      rw[hdrop]at hK
      clear r5 hdrop
      have hcall:=ih.out z' k wr hk64 (by omega) F2
      generalize hd:decide (k=(z' : Int)/\0<=endsK n K f z')=d
      replace hd:=kH hd
      have hcall:Calls Tryz.prog 111 #[.int .i64 k,.pointer (some ⟨b1,0,none⟩),.pointer (some ⟨b2,0,none⟩),.pointer (some ⟨b3,0,none⟩),.pointer (some ⟨b4,0,none⟩)] wr fun e w'=>∃z'' : Nat,e=.returned (.bool d)/\Four w0 n g lb b1 b2 b3 b4 z'' w'/\Hid (k=z'->0<=endsK n K f z'->(z'' : Int)=endsK n K f z'):=
       hcall.mono fun e w' ⟨z'',h1,h2,h3⟩=>⟨z'',by rw[<- hd.out];exact h1,h2,h3⟩
      cases d with
      |true=>
       go_wp2_with (go_at_call 111;refine hcall.mono ?_;rintro e w1 ⟨z'',rfl,F3,hz''⟩)
       go_roundw
       case rel=>
        have hd:=of_decide_eq_true hd.out
        have hz3:=hz''.out hd.1 hd.2
        have hr:=(endsK_range n K f z' hd.2).1
        refine⟨j+1,z'',by omega,by omega,by go_num,?_,F3⟩
        show _=_
        rw[hK.out,hz3]
        conv=>lhs;unfold kidsEnd
        rw[if_neg (by omega),hd.1,Int.toNat_natCast,if_neg (by omega)]
       case measure=>simp[intOf];omega
      |false=>
       go_wp2_with (go_at_call 111;refine hcall.mono ?_;rintro e w1 ⟨z'',rfl,F3,hz''⟩)
       go_returns
       have hd:=of_decide_eq_false hd.out
       have hneg:endsK n K (f+1) z = -1:=by
        rw[hends.out,hK.out]
        conv=>lhs;unfold kidsEnd
        by_cases hkz:k=z'
        ·rw[if_neg (by omega),hkz,Int.toNat_natCast,if_pos (by omega)]
        ·rw[if_pos hkz]
       exact⟨z'',by rw[hneg];simp,F3,fun _ h=>absurd h (by rw[hneg];omega)⟩
     ·obtain rfl:j=m:=by omega
      go_wp2
      go_returns
      have hpos:endsK n K (f+1) z=z':=by
       rw[hends.out,hK.out,hm.out,List.drop_length]
       unfold kidsEnd;rfl
      exact⟨z',by rw[hpos];simp,F2,fun _ _=>hpos.symm⟩
   ·have d2:decide ((n:Int)<=(z:Int))=true:=decide_eq_true (by omega)
    have d2' : decide (n<=z)=true:=decide_eq_true (by omega)
    go_enter Tryz.func111,Tryz.ntmps111
    go_wp2_with fail
    go_returns
    refine⟨z,?_,hF,fun _ h=>?_⟩
    ·rw[endsK_out (by omega)];simp
    ·rw[endsK_out (by omega)]at h;omega
  ·have d1:(i != (z:Int))=true:=by simpa using hiz
   go_enter Tryz.func111,Tryz.ntmps111
   go_wp2_with fail
   go_returns
   exact⟨z,by simp[hiz],hF,fun h=>absurd h hiz⟩
theorem inOrder_c (n:Nat) (hn:n<=1152921504606846976) (K:Nat->List Int) (g:Nat) (lb:Array Value) (lo:Nat) (w:World) (hk:KidsGive n K g lb lo w) (eg:∀args w,(callFunc g args).run Tryz.prog w=.ok (.enter g args) w) :
  Calls Tryz.prog 67 #[.int .i64 n,.func (.func g) #[] lb] w fun e w'=>e=.returned (.bool (decide (endsK n K (n+1) 0=n)))/\Below w.heap.size w w':=by
 have hw0:=walk_c n hn K g lb lo w hk eg (w.heap.size+1+1) w.heap.size (w.heap.size+1) (w.heap.size+1+1+1) (by omega) (by omega) (by omega) (n+1) 0 0
 replace hw0:=kH hw0
 clear hk
 go_enter Tryz.func67,Tryz.ntmps67
 go_upto_region 4 with fail
 have hfz:((((w.alloc (.cells #[.int .i64 n] 3)).alloc (.cells #[.func (.func g) #[] lb] 135)).alloc (.cells #[.int .i64 0] 3)).alloc (.cells #[.func (.func 111) #[] #[.pointer (some ⟨w.heap.size+1+1,0,none⟩),.pointer (some ⟨w.heap.size,0,none⟩),.pointer (some ⟨w.heap.size+1,0,none⟩),.pointer (some ⟨w.heap.size+1+1+1,0,none⟩)]] 182)).frozen? ⟨w.heap.size+1+1,0,none⟩=false:=by go_simp
 have B1:RowAt (w.alloc (.cells #[.int .i64 n] 3)) (w.heap.size) 0 [.int .i64 n]:=RowAt.box w #[.int .i64 n] 3
 have B1:=B1.below (show Below (w.alloc (.cells #[.int .i64 n] 3)).heap.size (w.alloc (.cells #[.int .i64 n] 3)) ((w.alloc (.cells #[.int .i64 n] 3)).alloc (.cells #[.func (.func g) #[] lb] 135)) by go_grown)
 have B2:RowAt ((w.alloc (.cells #[.int .i64 n] 3)).alloc (.cells #[.func (.func g) #[] lb] 135)) (w.heap.size+1) 0 [.func (.func g) #[] lb]:=by have h:=RowAt.box (w.alloc (.cells #[.int .i64 n] 3)) #[.func (.func g) #[] lb] 135;simp only[World.size_alloc]at h;exact h
 have B1:=B1.below (show Below ((w.alloc (.cells #[.int .i64 n] 3)).alloc (.cells #[.func (.func g) #[] lb] 135)).heap.size ((w.alloc (.cells #[.int .i64 n] 3)).alloc (.cells #[.func (.func g) #[] lb] 135)) (((w.alloc (.cells #[.int .i64 n] 3)).alloc (.cells #[.func (.func g) #[] lb] 135)).alloc (.cells #[.int .i64 0] 3)) by go_grown)
 have B2:=B2.below (show Below ((w.alloc (.cells #[.int .i64 n] 3)).alloc (.cells #[.func (.func g) #[] lb] 135)).heap.size ((w.alloc (.cells #[.int .i64 n] 3)).alloc (.cells #[.func (.func g) #[] lb] 135)) (((w.alloc (.cells #[.int .i64 n] 3)).alloc (.cells #[.func (.func g) #[] lb] 135)).alloc (.cells #[.int .i64 0] 3)) by go_grown)
 have B3:RowAt (((w.alloc (.cells #[.int .i64 n] 3)).alloc (.cells #[.func (.func g) #[] lb] 135)).alloc (.cells #[.int .i64 0] 3)) (w.heap.size+1+1) 0 [.int .i64 0]:=by have h:=RowAt.box ((w.alloc (.cells #[.int .i64 n] 3)).alloc (.cells #[.func (.func g) #[] lb] 135)) #[.int .i64 0] 3;simp only[World.size_alloc]at h;exact h
 have B1:=B1.below (show Below (((w.alloc (.cells #[.int .i64 n] 3)).alloc (.cells #[.func (.func g) #[] lb] 135)).alloc (.cells #[.int .i64 0] 3)).heap.size (((w.alloc (.cells #[.int .i64 n] 3)).alloc (.cells #[.func (.func g) #[] lb] 135)).alloc (.cells #[.int .i64 0] 3)) ((((w.alloc (.cells #[.int .i64 n] 3)).alloc (.cells #[.func (.func g) #[] lb] 135)).alloc (.cells #[.int .i64 0] 3)).alloc (.cells #[.func (.func 111) #[] #[.pointer (some ⟨w.heap.size+1+1,0,none⟩),.pointer (some ⟨w.heap.size,0,none⟩),.pointer (some ⟨w.heap.size+1,0,none⟩),.pointer (some ⟨w.heap.size+1+1+1,0,none⟩)]] 182)) by go_grown)
 have B2:=B2.below (show Below (((w.alloc (.cells #[.int .i64 n] 3)).alloc (.cells #[.func (.func g) #[] lb] 135)).alloc (.cells #[.int .i64 0] 3)).heap.size (((w.alloc (.cells #[.int .i64 n] 3)).alloc (.cells #[.func (.func g) #[] lb] 135)).alloc (.cells #[.int .i64 0] 3)) ((((w.alloc (.cells #[.int .i64 n] 3)).alloc (.cells #[.func (.func g) #[] lb] 135)).alloc (.cells #[.int .i64 0] 3)).alloc (.cells #[.func (.func 111) #[] #[.pointer (some ⟨w.heap.size+1+1,0,none⟩),.pointer (some ⟨w.heap.size,0,none⟩),.pointer (some ⟨w.heap.size+1,0,none⟩),.pointer (some ⟨w.heap.size+1+1+1,0,none⟩)]] 182)) by go_grown)
 have B3:=B3.below (show Below (((w.alloc (.cells #[.int .i64 n] 3)).alloc (.cells #[.func (.func g) #[] lb] 135)).alloc (.cells #[.int .i64 0] 3)).heap.size (((w.alloc (.cells #[.int .i64 n] 3)).alloc (.cells #[.func (.func g) #[] lb] 135)).alloc (.cells #[.int .i64 0] 3)) ((((w.alloc (.cells #[.int .i64 n] 3)).alloc (.cells #[.func (.func g) #[] lb] 135)).alloc (.cells #[.int .i64 0] 3)).alloc (.cells #[.func (.func 111) #[] #[.pointer (some ⟨w.heap.size+1+1,0,none⟩),.pointer (some ⟨w.heap.size,0,none⟩),.pointer (some ⟨w.heap.size+1,0,none⟩),.pointer (some ⟨w.heap.size+1+1+1,0,none⟩)]] 182)) by go_grown)
 have B4:RowAt ((((w.alloc (.cells #[.int .i64 n] 3)).alloc (.cells #[.func (.func g) #[] lb] 135)).alloc (.cells #[.int .i64 0] 3)).alloc (.cells #[.func (.func 111) #[] #[.pointer (some ⟨w.heap.size+1+1,0,none⟩),.pointer (some ⟨w.heap.size,0,none⟩),.pointer (some ⟨w.heap.size+1,0,none⟩),.pointer (some ⟨w.heap.size+1+1+1,0,none⟩)]] 182)) (w.heap.size+1+1+1) 0 [.func (.func 111) #[] #[.pointer (some ⟨w.heap.size+1+1,0,none⟩),.pointer (some ⟨w.heap.size,0,none⟩),.pointer (some ⟨w.heap.size+1,0,none⟩),.pointer (some ⟨w.heap.size+1+1+1,0,none⟩)]]:=by have h:=RowAt.box (((w.alloc (.cells #[.int .i64 n] 3)).alloc (.cells #[.func (.func g) #[] lb] 135)).alloc (.cells #[.int .i64 0] 3)) #[.func (.func 111) #[] #[.pointer (some ⟨w.heap.size+1+1,0,none⟩),.pointer (some ⟨w.heap.size,0,none⟩),.pointer (some ⟨w.heap.size+1,0,none⟩),.pointer (some ⟨w.heap.size+1+1+1,0,none⟩)]] 182;simp only[World.size_alloc]at h;exact h
 have hw:Below w.heap.size w ((((w.alloc (.cells #[.int .i64 n] 3)).alloc (.cells #[.func (.func g) #[] lb] 135)).alloc (.cells #[.int .i64 0] 3)).alloc (.cells #[.func (.func 111) #[] #[.pointer (some ⟨w.heap.size+1+1,0,none⟩),.pointer (some ⟨w.heap.size,0,none⟩),.pointer (some ⟨w.heap.size+1,0,none⟩),.pointer (some ⟨w.heap.size+1+1+1,0,none⟩)]] 182)):=by go_grown
 generalize ((((w.alloc (.cells #[.int .i64 n] 3)).alloc (.cells #[.func (.func g) #[] lb] 135)).alloc (.cells #[.int .i64 0] 3)).alloc (.cells #[.func (.func 111) #[] #[.pointer (some ⟨w.heap.size+1+1,0,none⟩),.pointer (some ⟨w.heap.size,0,none⟩),.pointer (some ⟨w.heap.size+1,0,none⟩),.pointer (some ⟨w.heap.size+1+1+1,0,none⟩)]] 182))=w1 at *
 have e4:=B4.box1
 have hcall:=hw0.out w1 ⟨by omega,by omega⟩ (by omega) ⟨hw,by omega,by omega,B3.box1,hfz,B1.box1,B2.box1,e4⟩
 clear hw0 B1 B2 B3 B4 hw hfz
 generalize hd:decide (0<=endsK n K (n+1) 0)=d
 replace hd:=kH hd
 have hcall:Calls Tryz.prog 111 #[.int .i64 0,.pointer (some ⟨w.heap.size+1+1,0,none⟩),.pointer (some ⟨w.heap.size,0,none⟩),.pointer (some ⟨w.heap.size+1,0,none⟩),.pointer (some ⟨w.heap.size+1+1+1,0,none⟩)] w1 fun e w'=>∃z:Nat,e=.returned (.bool d)/\Four w n g lb (w.heap.size+1+1) w.heap.size (w.heap.size+1) (w.heap.size+1+1+1) z w'/\Hid (0<=endsK n K (n+1) 0->(z:Int)=endsK n K (n+1) 0):=
  hcall.mono fun e w' ⟨z,h1,h2,h3⟩=>⟨z,by rw[<- hd.out,h1];simp,h2,fun h=>h3 rfl h⟩
 cases d with
 |true=>
  have h0:=of_decide_eq_true hd.out
  by_cases hz:endsK n K (n+1) 0=n
  ·replace hcall:Calls Tryz.prog 111 #[.int .i64 0,.pointer (some ⟨w.heap.size+1+1,0,none⟩),.pointer (some ⟨w.heap.size,0,none⟩),.pointer (some ⟨w.heap.size+1,0,none⟩),.pointer (some ⟨w.heap.size+1+1+1,0,none⟩)] w1 fun e w'=>e=.returned (.bool true)/\Four w n g lb (w.heap.size+1+1) w.heap.size (w.heap.size+1) (w.heap.size+1+1+1) n w':=
    hcall.mono fun e w' ⟨z,h1,h2,h3⟩=>⟨h1,by have h4:=h3 h0;obtain rfl:z=n:=(by omega);exact h2⟩
   have d3:((n:Int) == n)=true:=by simp
   replace hz:=kH hz
   clear h0
   go_wp2_with (go_at_call 111;refine hcall.mono ?_;rintro e w2 ⟨rfl,F⟩;have e1:=F.c1;have e2:=F.c2)
   go_returns
   exact⟨by rw[decide_eq_true hz.out];rfl,F.below⟩
  ·replace hcall:Calls Tryz.prog 111 #[.int .i64 0,.pointer (some ⟨w.heap.size+1+1,0,none⟩),.pointer (some ⟨w.heap.size,0,none⟩),.pointer (some ⟨w.heap.size+1,0,none⟩),.pointer (some ⟨w.heap.size+1+1+1,0,none⟩)] w1 fun e w'=>∃z:Nat,e=.returned (.bool true)/\Four w n g lb (w.heap.size+1+1) w.heap.size (w.heap.size+1) (w.heap.size+1+1+1) z w'/\((z:Int) == n)=false:=
    hcall.mono fun e w' ⟨z,h1,h2,h3⟩=>⟨z,h1,h2,by have h4:=h3 h0;simp;omega⟩
   replace hz:=kH hz
   clear h0
   go_wp2_with (go_at_call 111;refine hcall.mono ?_;rintro e w2 ⟨z,rfl,F,d3⟩;have e1:=F.c1;have e2:=F.c2)
   go_returns
   exact⟨by rw[decide_eq_false hz.out];rfl,F.below⟩
 |false=>
  have h0:=of_decide_eq_false hd.out
  have hz : ¬ endsK n K (n+1) 0=n:=by omega
  replace hz:=kH hz
  clear h0
  go_wp2_with (go_at_call 111;refine hcall.mono ?_;rintro e w2 ⟨z,rfl,F,-⟩)
  go_returns
  exact⟨by rw[decide_eq_false hz.out];rfl,F.below⟩
theorem kidsEnd_all {E:Nat->Int} {L:Int} {P:Nat->Prop} (hE:∀k,0<=E k->(k:Int)+1<=E k/\E k<=L) (hP:∀k,0<=E k->∀j:Nat,k<=j->(j:Int)<E k->P j):∀ (ks:List Int) (nx:Int),0<=nx->0<=kidsEnd E nx ks->
  (∀k∈ks,0<=k/\k<L)/\∀j:Nat,nx<=j->(j:Int)<kidsEnd E nx ks->P j
 |[],nx,h0,h=>⟨fun k hk=>by simp at hk,fun j h1 h2=>by unfold kidsEnd at h2;omega⟩
 |k :: ks,nx,h0,h=>by
  unfold kidsEnd at h ⊢
  split at h
  ·omega
  ·split at h
   ·omega
   ·rename_i h1 h2
    have e:k=nx:=by omega
    have h3:=hE k.toNat (by omega)
    have h4:=kidsEnd_all hE hP ks (E k.toNat) (by omega) h
    rw[if_neg h1,if_neg h2]
    refine⟨fun k' hk'=>?_,fun j h5 h6=>?_⟩
    ·rcases List.mem_cons.1 hk' with rfl|h7
     ·omega
     ·exact h4.1 k' h7
    ·by_cases h7:(j:Int)<E k.toNat
     ·exact hP k.toNat (by omega) j (by omega) h7
     ·exact h4.2 j (by omega) h6
theorem ends_kids (l:List GDNode):∀ (f i:Nat),0<=ends l f i->∀j:Nat,i<=j->(j:Int)<ends l f i->∀x,l[j]? = some x->∀k∈x.kids,0<=k/\k<(l.length:Int)
 |0,i,h=>by simp[ends]at h
 |f+1,i,h=>by
  unfold ends at h ⊢
  cases hi:l[i]? with
  |none=>rw[hi]at h;simp at h
  |some n=>
   rw[hi]at h
   have h1:=kidsEnd_all (ends_range l f) (P:=fun j=>∀x,l[j]? = some x->∀k∈x.kids,0<=k/\k<(l.length:Int)) (fun k hk j h2 h3=>ends_kids l f k hk j h2 h3) n.kids (i+1) (by omega) h
   intro j h2 h3 x hx
   by_cases e:i=j
   ·subst e
    obtain rfl:n=x:=Option.some.inj (hi.symm.trans hx)
    exact h1.1
   ·exact h1.2 j (by omega) h3 x hx
def kidsAt (l:List GDNode) (i:Nat):List Int:=(l[i]?.map (·.kids)).getD []
def dataOk (d:GData):Bool:=decide (1<=(d.nodes.length:Int)/\(d.nodes.length:Int)<=600)&&(decide (endsK d.nodes.length (kidsAt d.nodes) (d.nodes.length+1) 0=d.nodes.length) && !d.nodes.any fun x=>!nodeOk d.nodes x)
theorem kids_in {d:GData} (h:endsK d.nodes.length (kidsAt d.nodes) (d.nodes.length+1) 0=d.nodes.length) {i:Nat} {x:GDNode} (hx:d.nodes[i]? = some x):∀k∈x.kids,0<=k/\k<(d.nodes.length:Int):=by
 have h' : ends d.nodes (d.nodes.length+1) 0=d.nodes.length:=by rw[ends_eq];exact h
 have hi:=(List.getElem?_eq_some_iff.1 hx).1
 exact ends_kids d.nodes (d.nodes.length+1) 0 (by omega) i (by omega) (by omega) x hx
theorem kidsOf_c (d:GData) (hd:d.nodes.length<=1152921504606846976) (u:Value) (lo b:Nat) (w:World) (hu:Sl GDNode.R 4 lo w u d.nodes) (hb:w.cell? ⟨b,0,none⟩=some u) :
  KidsGive d.nodes.length (kidsAt d.nodes) 68 #[.pointer (some ⟨b,0,none⟩)] lo w:=by
 intro i hi
 obtain⟨ua,uc,rfl,ul,um,h0⟩:=hu
 obtain⟨b1,o1,x,r,_,rfl,P1,⟨u0,rfl,_,hk⟩,r1⟩:=h0.get (kH rfl) hi
 refine⟨u0,by unfold kidsAt;rw[P1.out];exact hk,fun W hW=>?_⟩
 have e1:=cell_below hW hb
 have e2:W.cell? ⟨b1,o1+i*4+3,none⟩=some u0:=cell_below hW (by simpa using r1 3 _ rfl)
 clear h0 P1 hk r1 hb hW
 generalize d.nodes.length=n at *
 show Calls Tryz.prog 68 #[.int .i64 i,.pointer (some ⟨b,0,none⟩)] W _
 go_enter Tryz.func68,Tryz.ntmps68
 go_wp2_with fail
 go_returns
 exact⟨rfl,by go_grown⟩
theorem badNode_c (d:GData) (hd:d.nodes.length<=1152921504606846976) (u:Value) (lo b:Nat) (w:World) (hu:Sl GDNode.R 4 lo w u d.nodes) (hb:w.cell? ⟨b,0,none⟩=some u) (x:GDNode) (hin:∀k∈x.kids,0<=k/\k<(d.nodes.length:Int)) (r:List Value) (W:World) (hW:Below w.heap.size w W) (lo' : Nat) (hx:GDNode.R lo' W r x) :
  Calls Tryz.prog 70 (#[.agg r.toArray] ++ #[.pointer (some ⟨b,0,none⟩)]) W fun e w'=>e=.returned (.bool (!nodeOk d.nodes x))/\Below W.heap.size W w':=by
 have Hx:=hx
 obtain⟨u0,rfl,hwf,hk⟩:=hx
 have c1:=fun W' (hW' : Below W.heap.size W W')=>dataNodeOk_c x hwf.2.2 d hd [u] [.int .i64 x.kind,.int .i64 x.n,.string x.s,u0] lo lo' W' ⟨u,rfl,trivial,hu.below GDNode.good (hW.trans (hW'.mono hW.size))⟩ (GDNode.good.below Hx hW') hin
 have e1:=cell_below hW hb
 obtain⟨a,c,rfl⟩:=hu.form
 obtain⟨a',c',rfl⟩:=hk.form
 clear hu hk Hx hin hb hW
 generalize nodeOk d.nodes x=q at *
 generalize d.nodes.length=n at *
 generalize x.kids.length=m at *
 replace c1:=kH c1
 show Calls Tryz.prog 70 #[.agg #[.int .i64 x.kind,.int .i64 x.n,.string x.s,.slice a' m c'],.pointer (some ⟨b,0,none⟩)] W _
 have hbW:=World.block_lt_of_cell? _ _ e1
 go_enter Tryz.func70,Tryz.ntmps70
 go_wp2_with (go_at_call 71;refine(c1.out _ (by go_grown)).mono ?_;rintro e w1 ⟨rfl,hb⟩)
 go_returns
 exact⟨rfl,Below.trans (by go_grown) (hb.mono (by go_grown))⟩
theorem DataOk_c (d:GData) (hd:d.nodes.length<=1152921504606846976) (r:List Value) (lo:Nat) (w:World) (hr:GData.R lo w r d) :
  Calls Tryz.prog 29 #[.agg r.toArray] w fun e w'=>e=.returned (.bool (dataOk d))/\Below w.heap.size w w':=by
 obtain⟨u,rfl,-,hu⟩:=hr
 have hu':=hu
 obtain⟨a,c,rfl⟩:=hu'.form
 clear hu'
 have H1:=fun W (hW:Below w.heap.size w W)=>kidsOf_c d hd (.slice a d.nodes.length c) lo w.heap.size W (hu.below GDNode.good hW)
 have H2:=fun W (hW:Below w.heap.size w W) (hb:W.cell? ⟨w.heap.size,0,none⟩=some (.slice a d.nodes.length c)) (hk:endsK d.nodes.length (kidsAt d.nodes) (d.nodes.length+1) 0=d.nodes.length)=>
  containsFuncDNode_c d.nodes (fun x=>!nodeOk d.nodes x) 70 #[.pointer (some ⟨w.heap.size,0,none⟩)] lo (.slice a d.nodes.length c) W (hu.below GDNode.good hW)
   (fun i x r W' hi hW' hx=>badNode_c d hd (.slice a d.nodes.length c) lo w.heap.size W (hu.below GDNode.good hW) hb x (kids_in hk hi) r W' hW' lo hx) (fun _ _=>by kernel_rfl)
 have H3:=fun W (hk:KidsGive d.nodes.length (kidsAt d.nodes) 68 #[.pointer (some ⟨w.heap.size,0,none⟩)] lo W)=>inOrder_c d.nodes.length hd (kidsAt d.nodes) 68 #[.pointer (some ⟨w.heap.size,0,none⟩)] lo W hk (fun _ _=>by kernel_rfl)
 by_cases h1:1<=(d.nodes.length:Int)/\(d.nodes.length:Int)<=600
 ·have hdk:dataOk d=(decide (endsK d.nodes.length (kidsAt d.nodes) (d.nodes.length+1) 0=d.nodes.length) && !d.nodes.any fun x=>!nodeOk d.nodes x):=by unfold dataOk;rw[decide_eq_true h1];rfl
  rw[hdk]
  have q1:decide (1<=(d.nodes.length:Int)/\(d.nodes.length:Int)<=600)=true:=decide_eq_true h1
  have W1:=fun W=>within_c d.nodes.length 1 600 W
  rw[q1]at W1
  clear q1 hdk h1
  cases hk:decide (endsK d.nodes.length (kidsAt d.nodes) (d.nodes.length+1) 0=d.nodes.length)
  ·rw[hk]at H3
   clear hk H2
   replace H1:=kH H1
   replace H3:=kH H3
   clear hu
   generalize d.nodes.length=n at *
   go_enter Tryz.func29,Tryz.ntmps29
   go_upto_region 1 with fail
   have B:RowAt (w.alloc (.cells #[.slice a n c] 43)) (w.heap.size) 0 [.slice a n c]:=RowAt.box w #[.slice a n c] 43
   have hw:Below w.heap.size w (w.alloc (.cells #[.slice a n c] 43)):=by go_grown
   generalize (w.alloc (.cells #[.slice a n c] 43))=w0 at *
   have b_0:=B.box1;have hsB:=bLt b_0
   go_wp2_with (first|(go_at_call 66;((with_reducible refine(W1 _).mono ?_);rintro e w1 ⟨rfl,rfl⟩))|(go_at_call 67;((with_reducible refine(H3.out _ (H1.out _ hw b_0)).mono ?_);rintro e w1 ⟨rfl,hb⟩;have hw:=hw.trans (hb.mono hw.size);have B:=B.below hb;have b_0:=B.box1;have hsB:=bLt b_0;clear hb)))
   go_returns
   exact⟨rfl,hw⟩
  ·have hk':=of_decide_eq_true hk
   rw[hk]at H3
   replace H2:=fun W hW hb=>H2 W hW hb hk'
   clear hk hk'
   generalize (d.nodes.any fun x=>!nodeOk d.nodes x)=q at *
   replace H1:=kH H1
   replace H2:=kH H2
   replace H3:=kH H3
   clear hu
   generalize d.nodes.length=n at *
   go_enter Tryz.func29,Tryz.ntmps29
   go_upto_region 1 with fail
   have B:RowAt (w.alloc (.cells #[.slice a n c] 43)) (w.heap.size) 0 [.slice a n c]:=RowAt.box w #[.slice a n c] 43
   have hw:Below w.heap.size w (w.alloc (.cells #[.slice a n c] 43)):=by go_grown
   generalize (w.alloc (.cells #[.slice a n c] 43))=w0 at *
   have b_0:=B.box1;have hsB:=bLt b_0
   go_wp2_with (first|(go_at_call 66;((with_reducible refine(W1 _).mono ?_);rintro e w1 ⟨rfl,rfl⟩))|(go_at_call 67;((with_reducible refine(H3.out _ (H1.out _ hw b_0)).mono ?_);rintro e w1 ⟨rfl,hb⟩;have hw:=hw.trans (hb.mono hw.size);have B:=B.below hb;have b_0:=B.box1;have hsB:=bLt b_0;clear hb))|(go_at_call 69;((with_reducible refine(H2.out _ hw b_0).mono ?_);rintro e w1 ⟨rfl,hb⟩;have hw:=hw.trans (hb.mono hw.size);have B:=B.below hb;have b_0:=B.box1;have hsB:=bLt b_0;clear hb)))
   go_returns
   exact⟨rfl,hw⟩
 ·have hdk:dataOk d=false:=by unfold dataOk;rw[decide_eq_false h1];rfl
  rw[hdk]
  have q1:decide (1<=(d.nodes.length:Int)/\(d.nodes.length:Int)<=600)=false:=decide_eq_false h1
  have W1:=fun W=>within_c d.nodes.length 1 600 W
  rw[q1]at W1
  clear q1 hdk h1 H1 H2 H3 hu
  generalize d.nodes.length=n at *
  go_enter Tryz.func29,Tryz.ntmps29
  go_upto_region 1 with fail
  have B:RowAt (w.alloc (.cells #[.slice a n c] 43)) (w.heap.size) 0 [.slice a n c]:=RowAt.box w #[.slice a n c] 43
  have hw:Below w.heap.size w (w.alloc (.cells #[.slice a n c] 43)):=by go_grown
  generalize (w.alloc (.cells #[.slice a n c] 43))=w0 at *
  have b_0:=B.box1;have hsB:=bLt b_0
  go_wp2_with (go_at_call 66;((with_reducible refine(W1 _).mono ?_);rintro e w1 ⟨rfl,rfl⟩))
  go_returns
  exact⟨rfl,hw⟩
theorem dataOk_bad {d:GData} {i:Nat} {x:GDNode} (hx:d.nodes[i]? = some x) (h:nodeOk d.nodes x=false):dataOk d=false:=by
 have:(d.nodes.any fun x=>!nodeOk d.nodes x)=true:=List.any_eq_true.2 ⟨x,List.mem_of_getElem? hx,by rw[h];rfl⟩
 unfold dataOk
 rw[this]
 simp
theorem dataOk_good {d:GData} (h0:1<=d.nodes.length) (h6:d.nodes.length<=600) (h:∀y∈d.nodes.take d.nodes.length,nodeOk d.nodes y=true):dataOk d=decide (ends d.nodes (d.nodes.length+1) 0=d.nodes.length):=by
 have:(d.nodes.any fun x=>!nodeOk d.nodes x)=false:=List.any_eq_false.2 fun y hy=>by rw[h y (by rw[List.take_length];exact hy)];decide
 unfold dataOk
 rw[this,ends_eq,decide_eq_true (by omega)]
 simp
 rfl
theorem all_step {d:GData} {i:Nat} {x:GDNode} (h:∀y∈d.nodes.take i,nodeOk d.nodes y=true) (hx:d.nodes[i]? = some x) (hq:nodeOk d.nodes x=true):∀y∈d.nodes.take (i+1),nodeOk d.nodes y=true:=by
 rw[take_snoc' hx]
 intro y hy
 rcases List.mem_append.1 hy with h'|h'
 ·exact h y h'
 ·simp at h';subst h';exact hq
theorem nodeOk_kind (l:List GDNode) (kd nn:Int) (s:ByteArray) (ks:List Int) :
  (kd=6/\nodeOk l ⟨kd,nn,s,ks⟩=(((ks.length:Int) == 0)&&((nn == 0)&&s.toList.isEmpty)))\/
  (kd=2/\nodeOk l ⟨kd,nn,s,ks⟩=(((ks.length:Int) == 0)&&(nn == 0)))\/
  (kd=3/\nodeOk l ⟨kd,nn,s,ks⟩=(((ks.length:Int) == 0)&&(s.toList.isEmpty&&(wrap63 nn == nn))))\/
  (kd=4/\nodeOk l ⟨kd,nn,s,ks⟩=((nn == 0)&&conShape s ks.length (pairOf l ks)))\/
  (kd=5/\nodeOk l ⟨kd,nn,s,ks⟩=(((ks.length:Int) == 2)&&((nn == 0)&&s.toList.isEmpty)))\/
  ((kd == 6)=false/\(kd == 2)=false/\(kd == 3)=false/\(kd == 4)=false/\(kd == 5)=false/\nodeOk l ⟨kd,nn,s,ks⟩=false):=by
 unfold nodeOk
 dsimp only
 by_cases h6:kd=6
 ·subst h6;exact .inl ⟨rfl,rfl⟩
 by_cases h2:kd=2
 ·subst h2;exact .inr (.inl ⟨rfl,rfl⟩)
 by_cases h3:kd=3
 ·subst h3
  refine .inr (.inr (.inl ⟨rfl,?_⟩))
  have:(wrap63 nn == nn)=decide (-4611686018427387904<=nn/\nn<=4611686018427387903):=by
   show decide (wrap63 nn=nn)=_
   simp only[wrap63_eq]
  rw[this,if_pos rfl]
 by_cases h4:kd=4
 ·subst h4;exact .inr (.inr (.inr (.inl ⟨rfl,rfl⟩)))
 by_cases h5:kd=5
 ·subst h5;exact .inr (.inr (.inr (.inr (.inl ⟨rfl,rfl⟩))))
 refine .inr (.inr (.inr (.inr (.inr ⟨by simpa using h6,by simpa using h2,by simpa using h3,by simpa using h4,by simpa using h5,?_⟩))))
 rw[if_neg h3,if_neg h2,if_neg h6,if_neg h5,if_neg h4]
theorem specDataOk_c (d:GData) (hd:d.nodes.length<=1152921504606846976) (r:List Value) (lo:Nat) (w:World) (hr:GData.R lo w r d) :
  Calls Tryz.prog 21 #[.agg r.toArray] w fun e w'=>e=.returned (.bool (dataOk d))/\Below w.heap.size w w':=by
 have Hr:=hr
 obtain⟨u,rfl,-,hu⟩:=hr
 obtain⟨a,c,rfl,ul,um,h0⟩:=hu
 have CE:=fun W (hW:Below w.heap.size w W)=>l07End_c d hd (d.nodes.length+1) 0 [.slice a d.nodes.length c] lo W (GData.good.below Hr hW) (by omega)
 replace CE:=kH CE
 replace h0:=kH h0
 clear Hr
 obtain⟨n,hn⟩ : ∃n,n=d.nodes.length:=⟨_,rfl⟩
 rw[<- hn]at ul hd ⊢
 replace hn:=kH hn
 by_cases hs:n<1
 ·have d1:decide ((n:Int)<1)=true:=decide_eq_true (by omega)
  go_enter Tryz.func21,Tryz.ntmps21
  go_wp2_with fail
  go_returns
  exact⟨by unfold dataOk;rw[<- hn.out,decide_eq_false (by omega)];rfl,by go_grown⟩
 by_cases hb:600<n
 ·have d1:decide ((n:Int)<1)=false:=decide_eq_false (by omega)
  have d2:decide (600<(n:Int))=true:=decide_eq_true (by omega)
  have d2' : decide (600<n)=true:=decide_eq_true (by omega)
  go_enter Tryz.func21,Tryz.ntmps21
  go_wp2_with fail
  go_returns
  exact⟨by unfold dataOk;rw[<- hn.out,decide_eq_false (by omega)];rfl,by go_grown⟩
 have d1:decide ((n:Int)<1)=false:=decide_eq_false (by omega)
 have d2:decide (600<(n:Int))=false:=decide_eq_false (by omega)
 have d2' : decide (600<n)=false:=decide_eq_false (by omega)
 go_enter Tryz.func21,Tryz.ntmps21
 go_upto_region 1 with fail
 have B:RowAt (w.alloc (.cells #[.slice a n c] 43)) (w.heap.size) 0 [.slice a n c]:=RowAt.box w #[.slice a n c] 43
 have hw:Below w.heap.size w (w.alloc (.cells #[.slice a n c] 43)):=by go_grown
 generalize (w.alloc (.cells #[.slice a n c] 43))=w0 at *
 have b_0:=B.box1;have hsB:=bLt b_0
 go_wp2_with fail
 go_loopw [20] (fun i wr=>∃k:Nat,k<=n/\i=.int .i64 k/\Below w.heap.size w wr/\RowAt wr w.heap.size 0 [.slice a n c]/\Hid (∀y∈d.nodes.take k,nodeOk d.nodes y=true)) (fun i _=>n-(intOf i).toNat)
 case atStart=>exact⟨0,by omega,rfl,hw,B,fun y hy=>by simp at hy⟩
 case round=>
  clear hw B b_0 hsB
  obtain⟨k,hk,rfl,hw,B,hF⟩:=hrel
  have b_0:=B.box1;have hsB:=bLt b_0
  by_cases hlt:k<n
  ·obtain⟨b1,o1,x,s1,_,rfl,P1,hx,r1⟩:=(h0.out.below GDNode.good hw).get hn hlt
   obtain⟨kd,nn,s,ks⟩:=x
   obtain⟨u0,rfl,hwf,hkd⟩:=hx
   obtain⟨ka,kc,rfl,kl,km,k0⟩:=hkd
   have hnn:I64 nn:=hwf.2.1
   have hss:StrOk s:=hwf.2.2
   dsimp only at r1 kl k0 hwf
   obtain⟨m,hm⟩ : ∃m,m=ks.length:=⟨_,rfl⟩
   rw[<- hm]at r1 kl
   replace hm:=kH hm
   obtain⟨e_0,e_1,e_2,e_3⟩:=r1.cells4
   clear r1 hwf
   replace k0:=kH k0
   go_upto_region 6 with fail
   have hz:=hw.size
   have B':=B.below (show Below wr.heap.size wr (wr.alloc (.cells #[.int .i64 kd,.int .i64 nn,.string s,.slice ka m kc] 109)) by go_grown)
   have D:RowAt (wr.alloc (.cells #[.int .i64 kd,.int .i64 nn,.string s,.slice ka m kc] 109)) wr.heap.size 0 [.int .i64 kd,.int .i64 nn,.string s,.slice ka m kc]:=RowAt.box _ _ _
   have hw' : Below w.heap.size w (wr.alloc (.cells #[.int .i64 kd,.int .i64 nn,.string s,.slice ka m kc] 109)):=by go_grown
   have hw1:Below wr.heap.size wr (wr.alloc (.cells #[.int .i64 kd,.int .i64 nn,.string s,.slice ka m kc] 109)):=by go_grown
   generalize wr.alloc (.cells #[.int .i64 kd,.int .i64 nn,.string s,.slice ka m kc] 109)=w1 at *
   clear hw B b_0 hsB e_0 e_1 e_2 e_3 hz
   have hw:=hw';have B:=B';clear hw' B'
   generalize hp:pairOf d.nodes ks=p
   replace hp:=kH hp
   go_cut [5] (fun sx wx=>sx=.bool p/\Below w.heap.size w wx/\RowAt wx w.heap.size 0 [.slice (some ⟨b1,o1,none⟩) n c]/\RowAt wx wr.heap.size 0 [.int .i64 kd,.int .i64 nn,.string s,.slice ka m kc])
   case first=>
    have b_0:=B.box1;have hsB:=bLt b_0;obtain⟨d_0,d_1,d_2,d_3⟩:=D.box4;have hsD:=bLt d_0
    by_cases h1:m=1
    ·subst h1
     obtain⟨b2,o2,j,s2,_,rfl,P2,⟨rfl,hj64⟩,r2⟩:=(k0.out.below IntR.good hw1).get (k:=0) hm (by omega)
     have e1:w1.cell? ⟨b2,o2,none⟩=some (.int .i64 j):=by simpa using r2 0 _ rfl
     have hbj:=World.block_lt_of_cell? _ _ e1
     dsimp only at hbj
     have hks:ks=[j]:=by
      obtain⟨y,rfl⟩:=List.length_eq_one_iff.1 hm.out.symm
      have:=P2.out
      simpa using this
     have hp' : (kindAt d.nodes j == 5)=p:=by rw[<- hp.out,hks];rfl
     clear r2 P2 hks
     by_cases hj0:0<=j
     ·obtain⟨i,rfl⟩ : ∃i:Nat,j=i:=⟨j.toNat,by omega⟩
      have hd0:decide ((0:Int)<=(i:Int))=true:=by simp
      by_cases hj1:i<n
      ·obtain⟨b3,o3,y,s3,_,hpa,P3,hy,r3⟩:=(h0.out.below GDNode.good hw).get hn hj1
       obtain⟨rfl,rfl⟩ : b3=b1/\o3=o1:=by injection hpa with h;injection h with h1 h2;exact⟨h1.symm,h2.symm⟩
       obtain⟨y0,rfl,-,-⟩:=hy
       have e2:w1.cell? ⟨b3,o3+i*4,none⟩=some (.int .i64 y.kind):=by simpa using r3 0 _ rfl
       have hb3:=World.block_lt_of_cell? _ _ e2
       dsimp only at hb3
       have hp5:(y.kind == 5)=p:=by
        rw[<- hp']
        unfold kindAt
        simp[P3.out]
       generalize y.kind=yk at *
       replace hp5:=kH hp5
       have hd1:decide ((i:Int)<(n:Int))=true:=decide_eq_true (by omega)
       have hd1' : decide (i<n)=true:=decide_eq_true (by omega)
       clear hp' r3 P3 hpa
       (refine wp_region_ext_lit (by kernel_rfl) (by kernel_rfl) ?_;(repeat (any_goals (first|go_big_quiet_step ((first|fail))|quiet_step ((first|fail))|(refine wpQuiet_step (fun K hK=>?_);go_simp;split<;>(refine hK _ ?_;clear hK K)))));all_goals (refine wpQuiet_nil ?_;rintro w1 ⟨⟨w2,hb⟩,rfl⟩;have hw:=hw.trans (hb.mono hw.size);have B:=B.below hb;have b_0:=B.box1;have hsB:=bLt b_0;have D:=D.below hb;obtain⟨d_0,d_1,d_2,d_3⟩:=D.box4;have hsD:=bLt d_0;clear hb))
       all_goals go_wp2_with fail
       all_goals go_meet
       all_goals exact⟨by rw[<- hp5.out],hw,B,D⟩
      ·have hp5:false=p:=by
        rw[<- hp']
        unfold kindAt
        rw[List.getElem?_eq_none (by have:=hn.out;omega)]
        simp
       subst hp5
       have hd1:decide ((i:Int)<(n:Int))=false:=decide_eq_false (by omega)
       have hd1' : decide (i<n)=false:=decide_eq_false (by omega)
       clear hp'
       (refine wp_region_ext_lit (by kernel_rfl) (by kernel_rfl) ?_;(repeat (any_goals (first|go_big_quiet_step ((first|fail))|quiet_step ((first|fail))|(refine wpQuiet_step (fun K hK=>?_);go_simp;split<;>(refine hK _ ?_;clear hK K)))));all_goals (refine wpQuiet_nil ?_;rintro w1 ⟨⟨w2,hb⟩,rfl⟩;have hw:=hw.trans (hb.mono hw.size);have B:=B.below hb;have b_0:=B.box1;have hsB:=bLt b_0;have D:=D.below hb;obtain⟨d_0,d_1,d_2,d_3⟩:=D.box4;have hsD:=bLt d_0;clear hb))
       all_goals go_wp2_with fail
       all_goals go_meet
       all_goals exact⟨rfl,hw,B,D⟩
     ·have hp5:false=p:=by
       rw[<- hp']
       unfold kindAt
       rw[if_neg hj0];rfl
      subst hp5
      have hd0:decide ((0:Int)<=j)=false:=decide_eq_false hj0
      clear hp' hj0
      (refine wp_region_ext_lit (by kernel_rfl) (by kernel_rfl) ?_;(repeat (any_goals (first|go_big_quiet_step ((first|fail))|quiet_step ((first|fail))|(refine wpQuiet_step (fun K hK=>?_);go_simp;split<;>(refine hK _ ?_;clear hK K)))));all_goals (refine wpQuiet_nil ?_;rintro w1 ⟨⟨w2,hb⟩,rfl⟩;have hw:=hw.trans (hb.mono hw.size);have B:=B.below hb;have b_0:=B.box1;have hsB:=bLt b_0;have D:=D.below hb;obtain⟨d_0,d_1,d_2,d_3⟩:=D.box4;have hsD:=bLt d_0;clear hb))
      all_goals go_wp2_with fail
      all_goals go_meet
      all_goals exact⟨rfl,hw,B,D⟩
    ·have hp5:false=p:=by
      rw[<- hp.out]
      unfold pairOf
      have:=hm.out
      match ks,this with
      |[],_=>rfl
      |[a],h=>exact absurd h h1
      |a :: b :: c,_=>rfl
     subst hp5
     have e1:((m:Int) == 1)=false:=by simp;omega
     clear h1
     (refine wp_region_ext_lit (by kernel_rfl) (by kernel_rfl) ?_;(repeat (any_goals (first|go_big_quiet_step ((first|fail))|quiet_step ((first|fail))|(refine wpQuiet_step (fun K hK=>?_);go_simp;split<;>(refine hK _ ?_;clear hK K)))));all_goals (refine wpQuiet_nil ?_;rintro w1 ⟨⟨w2,hb⟩,rfl⟩;have hw:=hw.trans (hb.mono hw.size);have B:=B.below hb;have b_0:=B.box1;have hsB:=bLt b_0;have D:=D.below hb;obtain⟨d_0,d_1,d_2,d_3⟩:=D.box4;have hsD:=bLt d_0;clear hb))
     all_goals go_wp2_with fail
     all_goals go_meet
     all_goals exact⟨rfl,hw,B,D⟩
   obtain⟨rfl,hw,B,D⟩:=hcut
   have b_0:=B.box1;have hsB:=bLt b_0;obtain⟨d_0,d_1,d_2,d_3⟩:=D.box4;have hsD:=bLt d_0
   have hC:=nodeOk_kind d.nodes kd nn s ks
   rw[hp.out,<- hm.out]at hC
   have c70:=fun W=>l04ConOk_c s m p hss W
   have c69:=fun W=>Wrap_c nn hnn W
   generalize conShape s m p=cs at *
   generalize wrap63 nn=wn at *
   generalize hq:nodeOk d.nodes ⟨kd,nn,s,ks⟩=q at hC
   have P1':=P1.out
   have hstep:Hid (q=true->∀y∈d.nodes.take (k+1),nodeOk d.nodes y=true):=fun h=>all_step hF.out P1' (hq.trans h)
   have hbad:Hid (q=false->dataOk d=false):=fun h=>dataOk_bad P1' (hq.trans h)
   clear hq P1 P1' hF hm hp k0 hw1
   rcases hC with⟨rfl,rfl⟩|⟨rfl,rfl⟩|⟨rfl,rfl⟩|⟨rfl,rfl⟩|⟨rfl,rfl⟩|⟨h6,h2,h3,h4,h5,rfl⟩
   ·cases e0:((m:Int) == 0)<;>cases e1:(nn == 0)<;>cases e2:s.toList.isEmpty
    all_goals rw[e0,e1,e2]at hstep hbad
    all_goals go_wp2_with fail
    all_goals first
     |(go_returns
       exact⟨by rw[hbad.out rfl];rfl,hw⟩)
     |(go_roundw
       case rel=>exact⟨k+1,by omega,by go_num,hw,B,hstep.out rfl⟩
       case measure=>simp[intOf];omega)
   ·cases e0:((m:Int) == 0)<;>cases e1:(nn == 0)
    all_goals rw[e0,e1]at hstep hbad
    all_goals go_wp2_with fail
    all_goals first
     |(go_returns
       exact⟨by rw[hbad.out rfl];rfl,hw⟩)
     |(go_roundw
       case rel=>exact⟨k+1,by omega,by go_num,hw,B,hstep.out rfl⟩
       case measure=>simp[intOf];omega)
   ·cases e0:((m:Int) == 0)<;>cases e1:(wn == nn)<;>cases e2:s.toList.isEmpty
    all_goals rw[e0,e1,e2]at hstep hbad
    all_goals go_upto_region 14 with fail
    all_goals (refine wp_region_ext_lit (by kernel_rfl) (by kernel_rfl) ?_;(repeat (any_goals (first|go_big_quiet_step ((first|(go_at_call 49;exact Calls.ext_same (c69 _))))|quiet_step ((first|(go_at_call 49;exact Calls.ext_same (c69 _))))|(refine wpQuiet_step (fun K hK=>?_);go_simp;split<;>(refine hK _ ?_;clear hK K)))));all_goals (refine wpQuiet_nil ?_;rintro w1 ⟨⟨w2,hb⟩,rfl⟩;have hw:=hw.trans (hb.mono hw.size);have B:=B.below hb;have b_0:=B.box1;have hsB:=bLt b_0;have D:=D.below hb;obtain⟨d_0,d_1,d_2,d_3⟩:=D.box4;have hsD:=bLt d_0;clear hb))
    all_goals go_wp2_with fail
    all_goals first
     |(go_returns
       exact⟨by rw[hbad.out rfl];rfl,hw⟩)
     |(go_roundw
       case rel=>exact⟨k+1,by omega,by go_num,hw,B,hstep.out rfl⟩
       case measure=>simp[intOf];omega)
   ·cases e1:(nn == 0)<;>cases cs
    all_goals rw[e1]at hstep hbad
    all_goals go_wp2_with (go_at_call 50;((with_reducible refine(c70 _).mono ?_);rintro e w1 ⟨rfl,rfl⟩))
    all_goals first
     |(go_returns
       exact⟨by rw[hbad.out rfl];rfl,hw⟩)
     |(go_roundw
       case rel=>exact⟨k+1,by omega,by go_num,hw,B,hstep.out rfl⟩
       case measure=>simp[intOf];omega)
   ·cases e0:((m:Int) == 2)<;>cases e1:(nn == 0)<;>cases e2:s.toList.isEmpty
    all_goals rw[e0,e1,e2]at hstep hbad
    all_goals go_wp2_with fail
    all_goals first
     |(go_returns
       exact⟨by rw[hbad.out rfl];rfl,hw⟩)
     |(go_roundw
       case rel=>exact⟨k+1,by omega,by go_num,hw,B,hstep.out rfl⟩
       case measure=>simp[intOf];omega)
   ·replace hbad:=kH (hbad.out rfl)
    clear hstep
    go_wp2_with fail
    go_returns
    exact⟨by rw[hbad.out];rfl,hw⟩
  ·obtain rfl:k=n:=by omega
   have CE':=fun W (hW:Below wr.heap.size wr W)=>CE.out W (hw.trans (hW.mono hw.size))
   have hgood:=dataOk_good (d:=d) (by have:=hn.out;omega) (by have:=hn.out;omega) (hn.out ▸ hF.out)
   rw[<- hn.out]at hgood CE'
   replace hgood:=kH hgood
   generalize ends d.nodes (k+1) 0=E at *
   replace CE':=kH CE'
   go_wp2_with fail
   (refine wp_region_ext_lit (by kernel_rfl) (by kernel_rfl) ?_;(repeat (any_goals (first|go_big_quiet_step ((first|(go_at_call 51;exact Calls.ext (CE'.out _ (Subtype.property _)))))|quiet_step ((first|(go_at_call 51;exact Calls.ext (CE'.out _ (Subtype.property _)))))|(refine wpQuiet_step (fun K hK=>?_);go_simp;split<;>(refine hK _ ?_;clear hK K)))));all_goals (refine wpQuiet_nil ?_;rintro w1 ⟨⟨w2,hb⟩,rfl⟩;have hw:=hw.trans (hb.mono hw.size);have B:=B.below hb;have b_0:=B.box1;have hsB:=bLt b_0;clear hb))
   all_goals go_wp2_with fail
   all_goals go_returns
   all_goals exact⟨by rw[hgood.out];rfl,hw⟩
end Go.Proofs.YtkikkfjmggobpaaGreat
