/- Parts of the proof, merged: Sz, DtL0. -/
import Derived.Test.YtkikkfjmggobpaaGreatRows
import Derived.Test.YtkikkfjmggobpaaGreatDt35
namespace Go.Proofs.YtkikkfjmggobpaaGreat
open Go.RowKit
set_option maxRecDepth 100000
set_option maxHeartbeats 16000000
set_option linter.unusedVariables false
set_option linter.unusedSimpArgs false
attribute [local go_sem] Ext.cell
theorem szIntS_c (x:List Int) (u:Value) (lo:Nat) (left:Int) (h0:0<=left) (h1:left<=1048576) (w:World) (hx:Sl IntR 1 lo w u x) :
  Calls Tryz.prog 87 #[u,.int .i64 left] w fun e w'=>∃n,e=.returned (.int .i64 n)/\SzPost (x.length:Int) left n/\Below w.heap.size w w':=by
 obtain⟨a1,c1,rfl,l1,m1,hh⟩:=hx
 go_enter Tryz.func87,Tryz.ntmps87
 go_wp2
 all_goals (go_returns;refine⟨_,rfl,?_,Below.refl _ _⟩;simp[SzPost];omega)
theorem szDNode_c (x:GDNode) (r:List Value) (lo:Nat) (left:Int) (h0:0<=left) (h1:left<=1048576) (w:World) (hx:GDNode.R lo w r x) :
  Calls Tryz.prog 44 #[.agg r.toArray,.int .i64 left] w fun e w'=>∃n,e=.returned (.int .i64 n)/\SzPost x.bulk left n/\Below w.heap.size w w':=by
 obtain⟨x0,x1,x2,x3⟩:=x
 obtain⟨u0,rfl,⟨wx0,wx1,wx2⟩,a0⟩:=hx
 dsimp only at *
 have z2:x2.size<=9223372036854775807:=wx2
 have z3:=length_nonneg x3
 go_enter Tryz.func44,Tryz.ntmps44
 go_wp2_with (first|(go_at_call 87;((with_reducible refine(szIntS_c x3 u0 lo _ ?_ ?_ _ ?_).mono ?_);omega;omega;exact a0.below IntR.good (by go_grown);rintro e w1 ⟨n1,rfl,(⟨g1,rfl⟩|⟨g1,rfl⟩),hb⟩<;>(have hw:Below w.heap.size w w1:=Below.trans (by go_grown) (hb.mono (by go_grown));obtain⟨hc,hf⟩:=bcell hb;have hz:=hw.size;have hz1:=hb.size;have hs0:w.heap.size<w1.heap.size:=(by have h:=hz1;(try simp only[World.size_alloc,World.size_setCell,World.size_drew]at h);omega);clear hb))))
 all_goals (go_returns;refine⟨_,rfl,?_,by go_grown⟩;(first|((refine Or.inl ⟨?_,?_⟩)<;>simp only[GDNode.bulk]at *<;>omega)|(refine Or.inr ⟨?_,rfl⟩;simp only[GDNode.bulk]at *;omega)))
theorem szDNodeS_c (x:List GDNode) (u:Value) (lo:Nat) (left:Int) (h0:0<=left) (h1:left<=1048576) (w:World) (hx:Sl GDNode.R 4 lo w u x) :
  Calls Tryz.prog 19 #[u,.int .i64 left] w fun e w'=>∃n,e=.returned (.int .i64 n)/\SzPost (bulkS GDNode.bulk x) left n/\Below w.heap.size w w':=by
 obtain⟨a1,c1,rfl,l1,m1,hh⟩:=hx
 obtain⟨n,hn⟩ : ∃n,n=x.length:=⟨_,rfl⟩
 rw[<- hn]at l1 ⊢
 have X1:=kH hn
 clear hn
 have S0:=sum_nonneg GDNode.bulk_nonneg x
 by_cases hl:left<n
 ·clear S0
  go_enter Tryz.func19,Tryz.ntmps19
  go_wp2
  go_returns
  refine⟨_,rfl,.inr ⟨?_,rfl⟩,Below.refl _ _⟩
  have D:=X1.out
  have S0:=sum_nonneg GDNode.bulk_nonneg x
  unfold bulkS
  omega
 ·clear S0
  go_enter Tryz.func19,Tryz.ntmps19
  go_wp2_with fail
  go_loopw [1,5] (fun l i wr=>∃ (k:Nat) (L:Int),k<=n/\i=.int .i64 k/\l=.int .i64 L/\0<=L/\L<=1048576/\Hid (L=left-n-((x.take k).map GDNode.bulk).sum)/\Below w.heap.size w wr) (fun _ i _=>n-(intOf i).toNat)
  case atStart=>exact⟨0,left-n,by omega,rfl,rfl,by omega,by omega,by show _=_;simp,Below.refl _ _⟩
  case round=>
   obtain⟨k,L,hk,rfl,rfl,hL0,hL1,hL,hw⟩:=hrel
   by_cases hlt:k<n
   ·obtain⟨b1,o1,p,s1,_,rfl,P1,q1,r1⟩:=(hh.below GDNode.good hw).get X1 hlt
    have Q1:=q1
    obtain⟨s0,rfl,_⟩:=q1
    have R1:wr.cell? ⟨b1,o1+k*4,none⟩=some (.int .i64 p.kind)/\wr.cell? ⟨b1,o1+k*4+1,none⟩=some (.int .i64 p.n)/\wr.cell? ⟨b1,o1+k*4+2,none⟩=some (.string p.s)/\wr.cell? ⟨b1,o1+k*4+3,none⟩=some (s0):=⟨by simpa using r1 0 _ rfl,by simpa using r1 1 _ rfl,by simpa using r1 2 _ rfl,by simpa using r1 3 _ rfl⟩
    have nb:=GDNode.bulk_nonneg p
    clear r1
    go_wp2_with (go_at_call 44;refine(szDNode_c p _ _ _ (by omega) (by omega) _ Q1).mono ?_;rintro e w1 ⟨n1,rfl,(⟨g1,rfl⟩|⟨g1,rfl⟩),hb⟩<;>(have hw1:=hw.trans (hb.mono hw.size);clear hb R1))
    ·go_roundw
     case rel=>exact⟨k+1,L-p.bulk,by omega,by go_num,rfl,by omega,by omega,by have E:=hL.out;have B:=sum_take (f:=GDNode.bulk) P1.out;show _=_;omega,hw1⟩
     case measure=>simp[intOf];omega
    ·go_returns
     refine⟨_,rfl,?_,hw1⟩
     have E:=hL.out
     have B:=sum_take (f:=GDNode.bulk) P1.out
     have C:=sum_take_le (f:=GDNode.bulk) GDNode.bulk_nonneg x (k+1)
     have D:=X1.out
     refine .inr ⟨?_,rfl⟩
     unfold bulkS
     omega
   ·go_wp2
    go_returns
    refine⟨_,rfl,.inl ?_,hw⟩
    obtain rfl:k=n:=by omega
    have E:=hL.out
    rw[take_full X1]at E
    have D:=X1.out
    unfold bulkS
    omega
theorem szData_c (x:GData) (r:List Value) (lo:Nat) (left:Int) (h0:0<=left) (h1:left<=1048576) (w:World) (hx:GData.R lo w r x) :
  Calls Tryz.prog 5 #[.agg r.toArray,.int .i64 left] w fun e w'=>∃n,e=.returned (.int .i64 n)/\SzPost x.bulk left n/\Below w.heap.size w w':=by
 obtain⟨x0⟩:=x
 obtain⟨u0,rfl,_,a0⟩:=hx
 dsimp only at *
 have z0:=bulkS_nonneg GDNode.bulk_nonneg x0
 go_enter Tryz.func5,Tryz.ntmps5
 go_wp2_with (first|(go_at_call 19;((with_reducible refine(szDNodeS_c x0 u0 lo _ ?_ ?_ _ ?_).mono ?_);omega;omega;exact a0.below GDNode.good (by go_grown);rintro e w1 ⟨n1,rfl,(⟨g1,rfl⟩|⟨g1,rfl⟩),hb⟩<;>(have hw:Below w.heap.size w w1:=Below.trans (by go_grown) (hb.mono (by go_grown));obtain⟨hc,hf⟩:=bcell hb;have hz:=hw.size;have hz1:=hb.size;have hs0:w.heap.size<w1.heap.size:=(by have h:=hz1;(try simp only[World.size_alloc,World.size_setCell,World.size_drew]at h);omega);clear hb))))
 all_goals (go_returns;refine⟨_,rfl,?_,by go_grown⟩;(first|((refine Or.inl ⟨?_,?_⟩)<;>simp only[GData.bulk]at *<;>omega)|(refine Or.inr ⟨?_,rfl⟩;simp only[GData.bulk]at *;omega)))
theorem szPNode_c (x:GPNode) (r:List Value) (lo:Nat) (left:Int) (h0:0<=left) (h1:left<=1048576) (w:World) (hx:GPNode.R lo w r x) :
  Calls Tryz.prog 178 #[.agg r.toArray,.int .i64 left] w fun e w'=>∃n,e=.returned (.int .i64 n)/\SzPost x.bulk left n/\Below w.heap.size w w':=by
 obtain⟨x0,x1,x2,x3⟩:=x
 obtain⟨u0,rfl,⟨wx0,wx1,wx2⟩,a0⟩:=hx
 dsimp only at *
 have z2:x2.size<=9223372036854775807:=wx2
 have z3:=length_nonneg x3
 go_enter Tryz.func178,Tryz.ntmps178
 go_wp2_with (first|(go_at_call 87;((with_reducible refine(szIntS_c x3 u0 lo _ ?_ ?_ _ ?_).mono ?_);omega;omega;exact a0.below IntR.good (by go_grown);rintro e w1 ⟨n1,rfl,(⟨g1,rfl⟩|⟨g1,rfl⟩),hb⟩<;>(have hw:Below w.heap.size w w1:=Below.trans (by go_grown) (hb.mono (by go_grown));obtain⟨hc,hf⟩:=bcell hb;have hz:=hw.size;have hz1:=hb.size;have hs0:w.heap.size<w1.heap.size:=(by have h:=hz1;(try simp only[World.size_alloc,World.size_setCell,World.size_drew]at h);omega);clear hb))))
 all_goals (go_returns;refine⟨_,rfl,?_,by go_grown⟩;(first|((refine Or.inl ⟨?_,?_⟩)<;>simp only[GPNode.bulk]at *<;>omega)|(refine Or.inr ⟨?_,rfl⟩;simp only[GPNode.bulk]at *;omega)))
theorem szPNodeS_c (x:List GPNode) (u:Value) (lo:Nat) (left:Int) (h0:0<=left) (h1:left<=1048576) (w:World) (hx:Sl GPNode.R 4 lo w u x) :
  Calls Tryz.prog 160 #[u,.int .i64 left] w fun e w'=>∃n,e=.returned (.int .i64 n)/\SzPost (bulkS GPNode.bulk x) left n/\Below w.heap.size w w':=by
 obtain⟨a1,c1,rfl,l1,m1,hh⟩:=hx
 obtain⟨n,hn⟩ : ∃n,n=x.length:=⟨_,rfl⟩
 rw[<- hn]at l1 ⊢
 have X1:=kH hn
 clear hn
 have S0:=sum_nonneg GPNode.bulk_nonneg x
 by_cases hl:left<n
 ·clear S0
  go_enter Tryz.func160,Tryz.ntmps160
  go_wp2
  go_returns
  refine⟨_,rfl,.inr ⟨?_,rfl⟩,Below.refl _ _⟩
  have D:=X1.out
  have S0:=sum_nonneg GPNode.bulk_nonneg x
  unfold bulkS
  omega
 ·clear S0
  go_enter Tryz.func160,Tryz.ntmps160
  go_wp2_with fail
  go_loopw [1,5] (fun l i wr=>∃ (k:Nat) (L:Int),k<=n/\i=.int .i64 k/\l=.int .i64 L/\0<=L/\L<=1048576/\Hid (L=left-n-((x.take k).map GPNode.bulk).sum)/\Below w.heap.size w wr) (fun _ i _=>n-(intOf i).toNat)
  case atStart=>exact⟨0,left-n,by omega,rfl,rfl,by omega,by omega,by show _=_;simp,Below.refl _ _⟩
  case round=>
   obtain⟨k,L,hk,rfl,rfl,hL0,hL1,hL,hw⟩:=hrel
   by_cases hlt:k<n
   ·obtain⟨b1,o1,p,s1,_,rfl,P1,q1,r1⟩:=(hh.below GPNode.good hw).get X1 hlt
    have Q1:=q1
    obtain⟨s0,rfl,_⟩:=q1
    have R1:wr.cell? ⟨b1,o1+k*4,none⟩=some (.int .i64 p.kind)/\wr.cell? ⟨b1,o1+k*4+1,none⟩=some (.int .i64 p.n)/\wr.cell? ⟨b1,o1+k*4+2,none⟩=some (.string p.s)/\wr.cell? ⟨b1,o1+k*4+3,none⟩=some (s0):=⟨by simpa using r1 0 _ rfl,by simpa using r1 1 _ rfl,by simpa using r1 2 _ rfl,by simpa using r1 3 _ rfl⟩
    have nb:=GPNode.bulk_nonneg p
    clear r1
    go_wp2_with (go_at_call 178;refine(szPNode_c p _ _ _ (by omega) (by omega) _ Q1).mono ?_;rintro e w1 ⟨n1,rfl,(⟨g1,rfl⟩|⟨g1,rfl⟩),hb⟩<;>(have hw1:=hw.trans (hb.mono hw.size);clear hb R1))
    ·go_roundw
     case rel=>exact⟨k+1,L-p.bulk,by omega,by go_num,rfl,by omega,by omega,by have E:=hL.out;have B:=sum_take (f:=GPNode.bulk) P1.out;show _=_;omega,hw1⟩
     case measure=>simp[intOf];omega
    ·go_returns
     refine⟨_,rfl,?_,hw1⟩
     have E:=hL.out
     have B:=sum_take (f:=GPNode.bulk) P1.out
     have C:=sum_take_le (f:=GPNode.bulk) GPNode.bulk_nonneg x (k+1)
     have D:=X1.out
     refine .inr ⟨?_,rfl⟩
     unfold bulkS
     omega
   ·go_wp2
    go_returns
    refine⟨_,rfl,.inl ?_,hw⟩
    obtain rfl:k=n:=by omega
    have E:=hL.out
    rw[take_full X1]at E
    have D:=X1.out
    unfold bulkS
    omega
theorem szPat_c (x:GPat) (r:List Value) (lo:Nat) (left:Int) (h0:0<=left) (h1:left<=1048576) (w:World) (hx:GPat.R lo w r x) :
  Calls Tryz.prog 128 #[.agg r.toArray,.int .i64 left] w fun e w'=>∃n,e=.returned (.int .i64 n)/\SzPost x.bulk left n/\Below w.heap.size w w':=by
 obtain⟨x0⟩:=x
 obtain⟨u0,rfl,_,a0⟩:=hx
 dsimp only at *
 have z0:=bulkS_nonneg GPNode.bulk_nonneg x0
 go_enter Tryz.func128,Tryz.ntmps128
 go_wp2_with (first|(go_at_call 160;((with_reducible refine(szPNodeS_c x0 u0 lo _ ?_ ?_ _ ?_).mono ?_);omega;omega;exact a0.below GPNode.good (by go_grown);rintro e w1 ⟨n1,rfl,(⟨g1,rfl⟩|⟨g1,rfl⟩),hb⟩<;>(have hw:Below w.heap.size w w1:=Below.trans (by go_grown) (hb.mono (by go_grown));obtain⟨hc,hf⟩:=bcell hb;have hz:=hw.size;have hz1:=hb.size;have hs0:w.heap.size<w1.heap.size:=(by have h:=hz1;(try simp only[World.size_alloc,World.size_setCell,World.size_drew]at h);omega);clear hb))))
 all_goals (go_returns;refine⟨_,rfl,?_,by go_grown⟩;(first|((refine Or.inl ⟨?_,?_⟩)<;>simp only[GPat.bulk]at *<;>omega)|(refine Or.inr ⟨?_,rfl⟩;simp only[GPat.bulk]at *;omega)))
theorem szPatS_c (x:List GPat) (u:Value) (lo:Nat) (left:Int) (h0:0<=left) (h1:left<=1048576) (w:World) (hx:Sl GPat.R 1 lo w u x) :
  Calls Tryz.prog 88 #[u,.int .i64 left] w fun e w'=>∃n,e=.returned (.int .i64 n)/\SzPost (bulkS GPat.bulk x) left n/\Below w.heap.size w w':=by
 obtain⟨a1,c1,rfl,l1,m1,hh⟩:=hx
 obtain⟨n,hn⟩ : ∃n,n=x.length:=⟨_,rfl⟩
 rw[<- hn]at l1 ⊢
 have X1:=kH hn
 clear hn
 have S0:=sum_nonneg GPat.bulk_nonneg x
 by_cases hl:left<n
 ·clear S0
  go_enter Tryz.func88,Tryz.ntmps88
  go_wp2
  go_returns
  refine⟨_,rfl,.inr ⟨?_,rfl⟩,Below.refl _ _⟩
  have D:=X1.out
  have S0:=sum_nonneg GPat.bulk_nonneg x
  unfold bulkS
  omega
 ·clear S0
  go_enter Tryz.func88,Tryz.ntmps88
  go_wp2_with fail
  go_loopw [1,5] (fun l i wr=>∃ (k:Nat) (L:Int),k<=n/\i=.int .i64 k/\l=.int .i64 L/\0<=L/\L<=1048576/\Hid (L=left-n-((x.take k).map GPat.bulk).sum)/\Below w.heap.size w wr) (fun _ i _=>n-(intOf i).toNat)
  case atStart=>exact⟨0,left-n,by omega,rfl,rfl,by omega,by omega,by show _=_;simp,Below.refl _ _⟩
  case round=>
   obtain⟨k,L,hk,rfl,rfl,hL0,hL1,hL,hw⟩:=hrel
   by_cases hlt:k<n
   ·obtain⟨b1,o1,p,s1,_,rfl,P1,q1,r1⟩:=(hh.below GPat.good hw).get X1 hlt
    have Q1:=q1
    obtain⟨s0,rfl,_⟩:=q1
    have R1:wr.cell? ⟨b1,o1+k,none⟩=some (s0):=(by simpa using r1 0 _ rfl)
    have nb:=GPat.bulk_nonneg p
    clear r1
    go_wp2_with (go_at_call 128;refine(szPat_c p _ _ _ (by omega) (by omega) _ Q1).mono ?_;rintro e w1 ⟨n1,rfl,(⟨g1,rfl⟩|⟨g1,rfl⟩),hb⟩<;>(have hw1:=hw.trans (hb.mono hw.size);clear hb R1))
    ·go_roundw
     case rel=>exact⟨k+1,L-p.bulk,by omega,by go_num,rfl,by omega,by omega,by have E:=hL.out;have B:=sum_take (f:=GPat.bulk) P1.out;show _=_;omega,hw1⟩
     case measure=>simp[intOf];omega
    ·go_returns
     refine⟨_,rfl,?_,hw1⟩
     have E:=hL.out
     have B:=sum_take (f:=GPat.bulk) P1.out
     have C:=sum_take_le (f:=GPat.bulk) GPat.bulk_nonneg x (k+1)
     have D:=X1.out
     refine .inr ⟨?_,rfl⟩
     unfold bulkS
     omega
   ·go_wp2
    go_returns
    refine⟨_,rfl,.inl ?_,hw⟩
    obtain rfl:k=n:=by omega
    have E:=hL.out
    rw[take_full X1]at E
    have D:=X1.out
    unfold bulkS
    omega
theorem szTyItem_c (x:GTyItem) (r:List Value) (lo:Nat) (left:Int) (h0:0<=left) (h1:left<=1048576) (w:World) (hx:GTyItem.R lo w r x) :
  Calls Tryz.prog 187 #[.agg r.toArray,.int .i64 left] w fun e w'=>∃n,e=.returned (.int .i64 n)/\SzPost x.bulk left n/\Below w.heap.size w w':=by
 obtain⟨x0,x1,x2⟩:=x
 obtain⟨rfl,⟨wx0,wx1,wx2⟩⟩:=hx
 dsimp only at *
 have z1:x1.size<=9223372036854775807:=wx1
 go_enter Tryz.func187,Tryz.ntmps187
 go_wp2
 all_goals (go_returns;refine⟨_,rfl,?_,by go_grown⟩;(first|((refine Or.inl ⟨?_,?_⟩)<;>simp only[GTyItem.bulk]at *<;>omega)|(refine Or.inr ⟨?_,rfl⟩;simp only[GTyItem.bulk]at *;omega)))
theorem szTyItemS_c (x:List GTyItem) (u:Value) (lo:Nat) (left:Int) (h0:0<=left) (h1:left<=1048576) (w:World) (hx:Sl GTyItem.R 3 lo w u x) :
  Calls Tryz.prog 177 #[u,.int .i64 left] w fun e w'=>∃n,e=.returned (.int .i64 n)/\SzPost (bulkS GTyItem.bulk x) left n/\Below w.heap.size w w':=by
 obtain⟨a1,c1,rfl,l1,m1,hh⟩:=hx
 obtain⟨n,hn⟩ : ∃n,n=x.length:=⟨_,rfl⟩
 rw[<- hn]at l1 ⊢
 have X1:=kH hn
 clear hn
 have S0:=sum_nonneg GTyItem.bulk_nonneg x
 by_cases hl:left<n
 ·clear S0
  go_enter Tryz.func177,Tryz.ntmps177
  go_wp2
  go_returns
  refine⟨_,rfl,.inr ⟨?_,rfl⟩,Below.refl _ _⟩
  have D:=X1.out
  have S0:=sum_nonneg GTyItem.bulk_nonneg x
  unfold bulkS
  omega
 ·clear S0
  go_enter Tryz.func177,Tryz.ntmps177
  go_wp2_with fail
  go_loopw [1,5] (fun l i wr=>∃ (k:Nat) (L:Int),k<=n/\i=.int .i64 k/\l=.int .i64 L/\0<=L/\L<=1048576/\Hid (L=left-n-((x.take k).map GTyItem.bulk).sum)/\Below w.heap.size w wr) (fun _ i _=>n-(intOf i).toNat)
  case atStart=>exact⟨0,left-n,by omega,rfl,rfl,by omega,by omega,by show _=_;simp,Below.refl _ _⟩
  case round=>
   obtain⟨k,L,hk,rfl,rfl,hL0,hL1,hL,hw⟩:=hrel
   by_cases hlt:k<n
   ·obtain⟨b1,o1,p,s1,_,rfl,P1,q1,r1⟩:=(hh.below GTyItem.good hw).get X1 hlt
    have Q1:=q1
    obtain⟨rfl,_⟩:=q1
    have R1:wr.cell? ⟨b1,o1+k*3,none⟩=some (.int .i64 p.var)/\wr.cell? ⟨b1,o1+k*3+1,none⟩=some (.string p.name)/\wr.cell? ⟨b1,o1+k*3+2,none⟩=some (.int .i64 p.arity):=⟨by simpa using r1 0 _ rfl,by simpa using r1 1 _ rfl,by simpa using r1 2 _ rfl⟩
    have nb:=GTyItem.bulk_nonneg p
    clear r1
    go_wp2_with (go_at_call 187;refine(szTyItem_c p _ _ _ (by omega) (by omega) _ Q1).mono ?_;rintro e w1 ⟨n1,rfl,(⟨g1,rfl⟩|⟨g1,rfl⟩),hb⟩<;>(have hw1:=hw.trans (hb.mono hw.size);clear hb R1))
    ·go_roundw
     case rel=>exact⟨k+1,L-p.bulk,by omega,by go_num,rfl,by omega,by omega,by have E:=hL.out;have B:=sum_take (f:=GTyItem.bulk) P1.out;show _=_;omega,hw1⟩
     case measure=>simp[intOf];omega
    ·go_returns
     refine⟨_,rfl,?_,hw1⟩
     have E:=hL.out
     have B:=sum_take (f:=GTyItem.bulk) P1.out
     have C:=sum_take_le (f:=GTyItem.bulk) GTyItem.bulk_nonneg x (k+1)
     have D:=X1.out
     refine .inr ⟨?_,rfl⟩
     unfold bulkS
     omega
   ·go_wp2
    go_returns
    refine⟨_,rfl,.inl ?_,hw⟩
    obtain rfl:k=n:=by omega
    have E:=hL.out
    rw[take_full X1]at E
    have D:=X1.out
    unfold bulkS
    omega
theorem szTy_c (x:GTy) (r:List Value) (lo:Nat) (left:Int) (h0:0<=left) (h1:left<=1048576) (w:World) (hx:GTy.R lo w r x) :
  Calls Tryz.prog 159 #[.agg r.toArray,.int .i64 left] w fun e w'=>∃n,e=.returned (.int .i64 n)/\SzPost x.bulk left n/\Below w.heap.size w w':=by
 obtain⟨x0⟩:=x
 obtain⟨u0,rfl,_,a0⟩:=hx
 dsimp only at *
 have z0:=bulkS_nonneg GTyItem.bulk_nonneg x0
 go_enter Tryz.func159,Tryz.ntmps159
 go_wp2_with (first|(go_at_call 177;((with_reducible refine(szTyItemS_c x0 u0 lo _ ?_ ?_ _ ?_).mono ?_);omega;omega;exact a0.below GTyItem.good (by go_grown);rintro e w1 ⟨n1,rfl,(⟨g1,rfl⟩|⟨g1,rfl⟩),hb⟩<;>(have hw:Below w.heap.size w w1:=Below.trans (by go_grown) (hb.mono (by go_grown));obtain⟨hc,hf⟩:=bcell hb;have hz:=hw.size;have hz1:=hb.size;have hs0:w.heap.size<w1.heap.size:=(by have h:=hz1;(try simp only[World.size_alloc,World.size_setCell,World.size_drew]at h);omega);clear hb))))
 all_goals (go_returns;refine⟨_,rfl,?_,by go_grown⟩;(first|((refine Or.inl ⟨?_,?_⟩)<;>simp only[GTy.bulk]at *<;>omega)|(refine Or.inr ⟨?_,rfl⟩;simp only[GTy.bulk]at *;omega)))
theorem szCon_c (x:GCon) (r:List Value) (lo:Nat) (left:Int) (h0:0<=left) (h1:left<=1048576) (w:World) (hx:GCon.R lo w r x) :
  Calls Tryz.prog 127 #[.agg r.toArray,.int .i64 left] w fun e w'=>∃n,e=.returned (.int .i64 n)/\SzPost x.bulk left n/\Below w.heap.size w w':=by
 obtain⟨x0,x1,⟨x2⟩⟩:=x
 obtain⟨u0,rfl,wx0,a0⟩:=hx
 dsimp only at *
 have z0:x0.size<=9223372036854775807:=wx0
 have z2:=GTy.bulk_nonneg (⟨x2⟩ : GTy)
 go_enter Tryz.func127,Tryz.ntmps127
 go_wp2_with (first|(go_at_call 159;((with_reducible refine(szTy_c (⟨x2⟩ : GTy) _ lo _ ?_ ?_ _ ?_).mono ?_);omega;omega;exact⟨u0,rfl,trivial,(a0.below GTyItem.good (by go_grown))⟩;rintro e w1 ⟨n1,rfl,(⟨g1,rfl⟩|⟨g1,rfl⟩),hb⟩<;>(have hw:Below w.heap.size w w1:=Below.trans (by go_grown) (hb.mono (by go_grown));obtain⟨hc,hf⟩:=bcell hb;have hz:=hw.size;have hz1:=hb.size;have hs0:w.heap.size<w1.heap.size:=(by have h:=hz1;(try simp only[World.size_alloc,World.size_setCell,World.size_drew]at h);omega);clear hb))))
 all_goals (go_returns;refine⟨_,rfl,?_,by go_grown⟩;(first|((refine Or.inl ⟨?_,?_⟩)<;>simp only[GCon.bulk,GTy.bulk]at *<;>omega)|(refine Or.inr ⟨?_,rfl⟩;simp only[GCon.bulk,GTy.bulk]at *;omega)))
theorem szConS_c (x:List GCon) (u:Value) (lo:Nat) (left:Int) (h0:0<=left) (h1:left<=1048576) (w:World) (hx:Sl GCon.R 3 lo w u x) :
  Calls Tryz.prog 86 #[u,.int .i64 left] w fun e w'=>∃n,e=.returned (.int .i64 n)/\SzPost (bulkS GCon.bulk x) left n/\Below w.heap.size w w':=by
 obtain⟨a1,c1,rfl,l1,m1,hh⟩:=hx
 obtain⟨n,hn⟩ : ∃n,n=x.length:=⟨_,rfl⟩
 rw[<- hn]at l1 ⊢
 have X1:=kH hn
 clear hn
 have S0:=sum_nonneg GCon.bulk_nonneg x
 by_cases hl:left<n
 ·clear S0
  go_enter Tryz.func86,Tryz.ntmps86
  go_wp2
  go_returns
  refine⟨_,rfl,.inr ⟨?_,rfl⟩,Below.refl _ _⟩
  have D:=X1.out
  have S0:=sum_nonneg GCon.bulk_nonneg x
  unfold bulkS
  omega
 ·clear S0
  go_enter Tryz.func86,Tryz.ntmps86
  go_wp2_with fail
  go_loopw [1,5] (fun l i wr=>∃ (k:Nat) (L:Int),k<=n/\i=.int .i64 k/\l=.int .i64 L/\0<=L/\L<=1048576/\Hid (L=left-n-((x.take k).map GCon.bulk).sum)/\Below w.heap.size w wr) (fun _ i _=>n-(intOf i).toNat)
  case atStart=>exact⟨0,left-n,by omega,rfl,rfl,by omega,by omega,by show _=_;simp,Below.refl _ _⟩
  case round=>
   obtain⟨k,L,hk,rfl,rfl,hL0,hL1,hL,hw⟩:=hrel
   by_cases hlt:k<n
   ·obtain⟨b1,o1,p,s1,_,rfl,P1,q1,r1⟩:=(hh.below GCon.good hw).get X1 hlt
    have Q1:=q1
    obtain⟨s0,rfl,_⟩:=q1
    have R1:wr.cell? ⟨b1,o1+k*3,none⟩=some (.string p.name)/\wr.cell? ⟨b1,o1+k*3+1,none⟩=some (.bool p.has)/\wr.cell? ⟨b1,o1+k*3+2,none⟩=some (s0):=⟨by simpa using r1 0 _ rfl,by simpa using r1 1 _ rfl,by simpa using r1 2 _ rfl⟩
    have nb:=GCon.bulk_nonneg p
    clear r1
    go_wp2_with (go_at_call 127;refine(szCon_c p _ _ _ (by omega) (by omega) _ Q1).mono ?_;rintro e w1 ⟨n1,rfl,(⟨g1,rfl⟩|⟨g1,rfl⟩),hb⟩<;>(have hw1:=hw.trans (hb.mono hw.size);clear hb R1))
    ·go_roundw
     case rel=>exact⟨k+1,L-p.bulk,by omega,by go_num,rfl,by omega,by omega,by have E:=hL.out;have B:=sum_take (f:=GCon.bulk) P1.out;show _=_;omega,hw1⟩
     case measure=>simp[intOf];omega
    ·go_returns
     refine⟨_,rfl,?_,hw1⟩
     have E:=hL.out
     have B:=sum_take (f:=GCon.bulk) P1.out
     have C:=sum_take_le (f:=GCon.bulk) GCon.bulk_nonneg x (k+1)
     have D:=X1.out
     refine .inr ⟨?_,rfl⟩
     unfold bulkS
     omega
   ·go_wp2
    go_returns
    refine⟨_,rfl,.inl ?_,hw⟩
    obtain rfl:k=n:=by omega
    have E:=hL.out
    rw[take_full X1]at E
    have D:=X1.out
    unfold bulkS
    omega
theorem szType_c (x:GType) (r:List Value) (lo:Nat) (left:Int) (h0:0<=left) (h1:left<=1048576) (w:World) (hx:GType.R lo w r x) :
  Calls Tryz.prog 42 #[.agg r.toArray,.int .i64 left] w fun e w'=>∃n,e=.returned (.int .i64 n)/\SzPost x.bulk left n/\Below w.heap.size w w':=by
 obtain⟨x0,x1,x2⟩:=x
 obtain⟨u0,rfl,⟨wx0,wx1⟩,a0⟩:=hx
 dsimp only at *
 have z0:x0.size<=9223372036854775807:=wx0
 have z2:=bulkS_nonneg GCon.bulk_nonneg x2
 go_enter Tryz.func42,Tryz.ntmps42
 go_wp2_with (first|(go_at_call 86;((with_reducible refine(szConS_c x2 u0 lo _ ?_ ?_ _ ?_).mono ?_);omega;omega;exact a0.below GCon.good (by go_grown);rintro e w1 ⟨n1,rfl,(⟨g1,rfl⟩|⟨g1,rfl⟩),hb⟩<;>(have hw:Below w.heap.size w w1:=Below.trans (by go_grown) (hb.mono (by go_grown));obtain⟨hc,hf⟩:=bcell hb;have hz:=hw.size;have hz1:=hb.size;have hs0:w.heap.size<w1.heap.size:=(by have h:=hz1;(try simp only[World.size_alloc,World.size_setCell,World.size_drew]at h);omega);clear hb))))
 all_goals (go_returns;refine⟨_,rfl,?_,by go_grown⟩;(first|((refine Or.inl ⟨?_,?_⟩)<;>simp only[GType.bulk]at *<;>omega)|(refine Or.inr ⟨?_,rfl⟩;simp only[GType.bulk]at *;omega)))
theorem szTypeS_c (x:List GType) (u:Value) (lo:Nat) (left:Int) (h0:0<=left) (h1:left<=1048576) (w:World) (hx:Sl GType.R 3 lo w u x) :
  Calls Tryz.prog 17 #[u,.int .i64 left] w fun e w'=>∃n,e=.returned (.int .i64 n)/\SzPost (bulkS GType.bulk x) left n/\Below w.heap.size w w':=by
 obtain⟨a1,c1,rfl,l1,m1,hh⟩:=hx
 obtain⟨n,hn⟩ : ∃n,n=x.length:=⟨_,rfl⟩
 rw[<- hn]at l1 ⊢
 have X1:=kH hn
 clear hn
 have S0:=sum_nonneg GType.bulk_nonneg x
 by_cases hl:left<n
 ·clear S0
  go_enter Tryz.func17,Tryz.ntmps17
  go_wp2
  go_returns
  refine⟨_,rfl,.inr ⟨?_,rfl⟩,Below.refl _ _⟩
  have D:=X1.out
  have S0:=sum_nonneg GType.bulk_nonneg x
  unfold bulkS
  omega
 ·clear S0
  go_enter Tryz.func17,Tryz.ntmps17
  go_wp2_with fail
  go_loopw [1,5] (fun l i wr=>∃ (k:Nat) (L:Int),k<=n/\i=.int .i64 k/\l=.int .i64 L/\0<=L/\L<=1048576/\Hid (L=left-n-((x.take k).map GType.bulk).sum)/\Below w.heap.size w wr) (fun _ i _=>n-(intOf i).toNat)
  case atStart=>exact⟨0,left-n,by omega,rfl,rfl,by omega,by omega,by show _=_;simp,Below.refl _ _⟩
  case round=>
   obtain⟨k,L,hk,rfl,rfl,hL0,hL1,hL,hw⟩:=hrel
   by_cases hlt:k<n
   ·obtain⟨b1,o1,p,s1,_,rfl,P1,q1,r1⟩:=(hh.below GType.good hw).get X1 hlt
    have Q1:=q1
    obtain⟨s0,rfl,_⟩:=q1
    have R1:wr.cell? ⟨b1,o1+k*3,none⟩=some (.string p.name)/\wr.cell? ⟨b1,o1+k*3+1,none⟩=some (.int .i64 p.params)/\wr.cell? ⟨b1,o1+k*3+2,none⟩=some (s0):=⟨by simpa using r1 0 _ rfl,by simpa using r1 1 _ rfl,by simpa using r1 2 _ rfl⟩
    have nb:=GType.bulk_nonneg p
    clear r1
    go_wp2_with (go_at_call 42;refine(szType_c p _ _ _ (by omega) (by omega) _ Q1).mono ?_;rintro e w1 ⟨n1,rfl,(⟨g1,rfl⟩|⟨g1,rfl⟩),hb⟩<;>(have hw1:=hw.trans (hb.mono hw.size);clear hb R1))
    ·go_roundw
     case rel=>exact⟨k+1,L-p.bulk,by omega,by go_num,rfl,by omega,by omega,by have E:=hL.out;have B:=sum_take (f:=GType.bulk) P1.out;show _=_;omega,hw1⟩
     case measure=>simp[intOf];omega
    ·go_returns
     refine⟨_,rfl,?_,hw1⟩
     have E:=hL.out
     have B:=sum_take (f:=GType.bulk) P1.out
     have C:=sum_take_le (f:=GType.bulk) GType.bulk_nonneg x (k+1)
     have D:=X1.out
     refine .inr ⟨?_,rfl⟩
     unfold bulkS
     omega
   ·go_wp2
    go_returns
    refine⟨_,rfl,.inl ?_,hw⟩
    obtain rfl:k=n:=by omega
    have E:=hL.out
    rw[take_full X1]at E
    have D:=X1.out
    unfold bulkS
    omega
theorem szNode_c (x:GNode) (r:List Value) (lo:Nat) (left:Int) (h0:0<=left) (h1:left<=1048576) (w:World) (hx:GNode.R lo w r x) :
  Calls Tryz.prog 43 #[.agg r.toArray,.int .i64 left] w fun e w'=>∃n,e=.returned (.int .i64 n)/\SzPost x.bulk left n/\Below w.heap.size w w':=by
 obtain⟨x0,x1,x2,x3,x4,x5⟩:=x
 obtain⟨u0,u1,rfl,⟨wx0,wx1,wx2,wx3⟩,a0,a1⟩:=hx
 dsimp only at *
 have z3:x3.size<=9223372036854775807:=wx3
 have z4:=length_nonneg x4
 have z5:=bulkS_nonneg GPat.bulk_nonneg x5
 go_enter Tryz.func43,Tryz.ntmps43
 go_wp2_with (first|(go_at_call 87;((with_reducible refine(szIntS_c x4 u0 lo _ ?_ ?_ _ ?_).mono ?_);omega;omega;exact a0.below IntR.good (by go_grown);rintro e w1 ⟨n1,rfl,(⟨g1,rfl⟩|⟨g1,rfl⟩),hb⟩<;>(have hw:Below w.heap.size w w1:=Below.trans (by go_grown) (hb.mono (by go_grown));obtain⟨hc,hf⟩:=bcell hb;have hz:=hw.size;have hz1:=hb.size;have hs0:w.heap.size<w1.heap.size:=(by have h:=hz1;(try simp only[World.size_alloc,World.size_setCell,World.size_drew]at h);omega);clear hb)))|(go_at_call 88;((with_reducible refine(szPatS_c x5 u1 lo _ ?_ ?_ _ ?_).mono ?_);omega;omega;exact a1.below GPat.good (by go_grown);rintro e w1 ⟨n1,rfl,(⟨g1,rfl⟩|⟨g1,rfl⟩),hb⟩<;>(have hw:Below w.heap.size w w1:=Below.trans (by go_grown) (hb.mono (by go_grown));obtain⟨hc,hf⟩:=bcell hb;have hz:=hw.size;have hz1:=hb.size;have hs0:w.heap.size<w1.heap.size:=(by have h:=hz1;(try simp only[World.size_alloc,World.size_setCell,World.size_drew]at h);omega);clear hb))))
 all_goals (go_returns;refine⟨_,rfl,?_,by go_grown⟩;(first|((refine Or.inl ⟨?_,?_⟩)<;>simp only[GNode.bulk]at *<;>omega)|(refine Or.inr ⟨?_,rfl⟩;simp only[GNode.bulk]at *;omega)))
theorem szNodeS_c (x:List GNode) (u:Value) (lo:Nat) (left:Int) (h0:0<=left) (h1:left<=1048576) (w:World) (hx:Sl GNode.R 6 lo w u x) :
  Calls Tryz.prog 18 #[u,.int .i64 left] w fun e w'=>∃n,e=.returned (.int .i64 n)/\SzPost (bulkS GNode.bulk x) left n/\Below w.heap.size w w':=by
 obtain⟨a1,c1,rfl,l1,m1,hh⟩:=hx
 obtain⟨n,hn⟩ : ∃n,n=x.length:=⟨_,rfl⟩
 rw[<- hn]at l1 ⊢
 have X1:=kH hn
 clear hn
 have S0:=sum_nonneg GNode.bulk_nonneg x
 by_cases hl:left<n
 ·clear S0
  go_enter Tryz.func18,Tryz.ntmps18
  go_wp2
  go_returns
  refine⟨_,rfl,.inr ⟨?_,rfl⟩,Below.refl _ _⟩
  have D:=X1.out
  have S0:=sum_nonneg GNode.bulk_nonneg x
  unfold bulkS
  omega
 ·clear S0
  go_enter Tryz.func18,Tryz.ntmps18
  go_wp2_with fail
  go_loopw [1,5] (fun l i wr=>∃ (k:Nat) (L:Int),k<=n/\i=.int .i64 k/\l=.int .i64 L/\0<=L/\L<=1048576/\Hid (L=left-n-((x.take k).map GNode.bulk).sum)/\Below w.heap.size w wr) (fun _ i _=>n-(intOf i).toNat)
  case atStart=>exact⟨0,left-n,by omega,rfl,rfl,by omega,by omega,by show _=_;simp,Below.refl _ _⟩
  case round=>
   obtain⟨k,L,hk,rfl,rfl,hL0,hL1,hL,hw⟩:=hrel
   by_cases hlt:k<n
   ·obtain⟨b1,o1,p,s1,_,rfl,P1,q1,r1⟩:=(hh.below GNode.good hw).get X1 hlt
    have Q1:=q1
    obtain⟨s0,s1,rfl,_⟩:=q1
    have R1:wr.cell? ⟨b1,o1+k*6,none⟩=some (.int .i64 p.kind)/\wr.cell? ⟨b1,o1+k*6+1,none⟩=some (.int .i64 p.at_)/\wr.cell? ⟨b1,o1+k*6+2,none⟩=some (.int .i64 p.n)/\wr.cell? ⟨b1,o1+k*6+3,none⟩=some (.string p.s)/\wr.cell? ⟨b1,o1+k*6+4,none⟩=some (s0)/\wr.cell? ⟨b1,o1+k*6+5,none⟩=some (s1):=⟨by simpa using r1 0 _ rfl,by simpa using r1 1 _ rfl,by simpa using r1 2 _ rfl,by simpa using r1 3 _ rfl,by simpa using r1 4 _ rfl,by simpa using r1 5 _ rfl⟩
    have nb:=GNode.bulk_nonneg p
    clear r1
    go_wp2_with (go_at_call 43;refine(szNode_c p _ _ _ (by omega) (by omega) _ Q1).mono ?_;rintro e w1 ⟨n1,rfl,(⟨g1,rfl⟩|⟨g1,rfl⟩),hb⟩<;>(have hw1:=hw.trans (hb.mono hw.size);clear hb R1))
    ·go_roundw
     case rel=>exact⟨k+1,L-p.bulk,by omega,by go_num,rfl,by omega,by omega,by have E:=hL.out;have B:=sum_take (f:=GNode.bulk) P1.out;show _=_;omega,hw1⟩
     case measure=>simp[intOf];omega
    ·go_returns
     refine⟨_,rfl,?_,hw1⟩
     have E:=hL.out
     have B:=sum_take (f:=GNode.bulk) P1.out
     have C:=sum_take_le (f:=GNode.bulk) GNode.bulk_nonneg x (k+1)
     have D:=X1.out
     refine .inr ⟨?_,rfl⟩
     unfold bulkS
     omega
   ·go_wp2
    go_returns
    refine⟨_,rfl,.inl ?_,hw⟩
    obtain rfl:k=n:=by omega
    have E:=hL.out
    rw[take_full X1]at E
    have D:=X1.out
    unfold bulkS
    omega
theorem szProgram_c (x:GProgram) (r:List Value) (lo:Nat) (left:Int) (h0:0<=left) (h1:left<=1048576) (w:World) (hx:GProgram.R lo w r x) :
  Calls Tryz.prog 4 #[.agg r.toArray,.int .i64 left] w fun e w'=>∃n,e=.returned (.int .i64 n)/\SzPost x.bulk left n/\Below w.heap.size w w':=by
 obtain⟨x0,x1⟩:=x
 obtain⟨u0,u1,rfl,_,a0,a1⟩:=hx
 dsimp only at *
 have z0:=bulkS_nonneg GType.bulk_nonneg x0
 have z1:=bulkS_nonneg GNode.bulk_nonneg x1
 go_enter Tryz.func4,Tryz.ntmps4
 go_wp2_with (first|(go_at_call 17;((with_reducible refine(szTypeS_c x0 u0 lo _ ?_ ?_ _ ?_).mono ?_);omega;omega;exact a0.below GType.good (by go_grown);rintro e w1 ⟨n1,rfl,(⟨g1,rfl⟩|⟨g1,rfl⟩),hb⟩<;>(have hw:Below w.heap.size w w1:=Below.trans (by go_grown) (hb.mono (by go_grown));obtain⟨hc,hf⟩:=bcell hb;have hz:=hw.size;have hz1:=hb.size;have hs0:w.heap.size<w1.heap.size:=(by have h:=hz1;(try simp only[World.size_alloc,World.size_setCell,World.size_drew]at h);omega);clear hb)))|(go_at_call 18;((with_reducible refine(szNodeS_c x1 u1 lo _ ?_ ?_ _ ?_).mono ?_);omega;omega;exact a1.below GNode.good (by go_grown);rintro e w1 ⟨n1,rfl,(⟨g1,rfl⟩|⟨g1,rfl⟩),hb⟩<;>(have hw:Below w.heap.size w w1:=Below.trans (by go_grown) (hb.mono (by go_grown));obtain⟨hc,hf⟩:=bcell hb;have hz:=hw.size;have hz1:=hb.size;have hs0:w.heap.size<w1.heap.size:=(by have h:=hz1;(try simp only[World.size_alloc,World.size_setCell,World.size_drew]at h);omega);clear hb))))
 all_goals (go_returns;refine⟨_,rfl,?_,by go_grown⟩;(first|((refine Or.inl ⟨?_,?_⟩)<;>simp only[GProgram.bulk]at *<;>omega)|(refine Or.inr ⟨?_,rfl⟩;simp only[GProgram.bulk]at *;omega)))
theorem both_cnt {p:GProgram} {d:GData} (h:p.bulk<=1048576) (h' : d.bulk<=1048576):1+cntL cntType p.types+cntL cntNode p.nodes+cntData d<=4611686018427387904:=by
 have hb:bulkS GType.bulk p.types+bulkS GNode.bulk p.nodes<=1048576:=h
 have n1:=bulkS_nonneg GType.bulk_nonneg p.types
 have n2:=bulkS_nonneg GNode.bulk_nonneg p.nodes
 have h1:=cntL_bulk 4 (by omega) p.types fun x _=>cntType_bulk x
 have h2:=cntL_bulk 4 (by omega) p.nodes fun x _=>cntNode_bulk x
 have h3:=cntDNode_le d.nodes
 have h4:bulkS GDNode.bulk d.nodes<=1048576:=h'
 unfold cntData
 omega
theorem data_lenD {x:GData} (h:x.bulk<=1048576):x.nodes.length<=1152921504606846976:=by
 have h2:bulkS GDNode.bulk x.nodes<=1048576:=h
 have h3:=length_le_bulkS (f:=GDNode.bulk) GDNode.bulk_nonneg x.nodes
 omega
theorem eqProgram_eqD (y:GProgram) (r s:List Value) (lo lo' : Nat) (W:World) (h1:GProgram.R lo W r y) (h2:GProgram.R lo' W s y) :
  Calls Tryz.prog 11 #[.agg r.toArray,.agg s.toArray] W fun e W'=>e=.returned (.bool true)/\Below W.heap.size W W':=
 (eqProgram_c y y r s lo lo' W h1 h2).mono fun e W' ⟨he,hb⟩=>⟨by rw[he];simp,hb⟩
theorem eqData_eqD (y:GData) (r s:List Value) (lo lo' : Nat) (W:World) (h1:GData.R lo W r y) (h2:GData.R lo' W s y) :
  Calls Tryz.prog 12 #[.agg r.toArray,.agg s.toArray] W fun e W'=>e=.returned (.bool true)/\Below W.heap.size W W':=
 (eqData_c y y r s lo lo' W h1 h2).mono fun e W' ⟨he,hb⟩=>⟨by rw[he];simp,hb⟩
theorem eqTy_eqD (y:List GTyItem) (u v:Value) (lo lo' : Nat) (W:World) (h1:Sl GTyItem.R 3 lo W u y) (h2:Sl GTyItem.R 3 lo' W v y) :
  Calls Tryz.prog 10 #[.agg #[u],.agg #[v]] W fun e W'=>e=.returned (.bool true)/\Below W.heap.size W W':=
 (eqTy_c ⟨y⟩ ⟨y⟩ [u] [v] lo lo' W ⟨u,rfl,trivial,h1⟩ ⟨v,rfl,trivial,h2⟩).mono fun e W' ⟨he,hb⟩=>⟨by rw[he];simp,hb⟩
theorem ownT_slO {lo:Nat} {w:World} {v:Value} {xs:List GTyItem} (h:OwnT lo w v xs):SlO 107 3 GTyItem.O v.ownBlock.toList w v xs:=by
 have hp:(xs.map fun _=>([] : List Nat)).flatten=[]:=by
  induction xs with
  |nil=>rfl
  |cons x xs ih=>simp
 have hG:GrowO 107 3 GTyItem.O lo w v (xs.map fun _=>[]) xs:=⟨xs.map tyRow,h.1,⟨by simp,by simp,fun r hr=>by obtain⟨x,_,rfl⟩:=List.mem_map.1 hr;rfl,fun i p r x h1 h2 h3=>by
  rw[List.getElem?_map,h3]at h1 h2
  simp at h1 h2
  exact⟨by first|exact h1|exact h1.symm,by first|exact h2|exact h2.symm,h.2 x (List.mem_of_getElem? h3)⟩⟩⟩
 have:=hG.slO
 unfold fpO at this
 rw[hp,List.append_nil]at this
 exact this
def MkTy (y:List GTyItem) (w:World) (v:Value):Prop:=SlO 107 3 GTyItem.O v.ownBlock.toList w v (markL mkTyItem cntTyItem 1 y)
theorem MkTy.below {y:List GTyItem} {w w' : World} {v:Value} (h:MkTy y w v) (hb:Below w.heap.size w w'):MkTy y w' v:=SlO.below GTyItem.ok h hb
theorem cntTy_le:∀y:List GTyItem,cntL cntTyItem y=3*y.length
 |[]=>rfl
 |a :: y=>by
  have h:=cntTy_le y
  unfold cntL at h ⊢
  rw[List.map_cons,List.sum_cons,h,List.length_cons]
  unfold cntTyItem
  omega
theorem markTy_c (y:List GTyItem) (hy:y.length<=200) (v:Value) (lo:Nat) (w:World) (h:OwnT lo w v y) (hlo:lo<=w.heap.size) :
  Calls Tryz.prog 15 #[.agg #[v],.int .i64 1] w fun e w'=>e=.returned (.int .i64 ((1+cntL cntTyItem y:Nat):Int))/\MkTy y w' v/\Kept (fun q=>v.ownBlock=some q) w w'/\Below lo w w':=by
 have hc:=cntTy_le y
 have S:=ownT_slO h
 have hbase:=h.base
 have cM:=fun W (hW:Below w.heap.size w W)=>markTyItemS_c v v.ownBlock.toList 1 lo 1 rfl y W (SlO.below GTyItem.ok S hW) (by cases v.ownBlock<;>simp) (fun b hb=>(hbase b (by simpa using hb)).1) (Nat.le_trans hlo hW.size) (by omega) (by unfold LenOkTyItem;omega)
 obtain⟨a,c,rfl⟩:=h.form
 obtain⟨n,hn⟩ : ∃n,n=y.length:=⟨_,rfl⟩
 rw[<- hn]at cM hbase ⊢
 obtain⟨k,hk⟩ : ∃k,k=1+cntL cntTyItem y:=⟨_,rfl⟩
 rw[<- hk]at cM ⊢
 replace cM:=kH cM;replace hbase:=kH hbase;replace hn:=kH hn;replace hk:=kH hk
 clear S h hc
 go_enter Tryz.func15,Tryz.ntmps15
 go_upto_region 1 with fail
 have C:RowAt (w.alloc (.cells #[.slice a n c] 33)) (w.heap.size) 0 [.slice a n c]:=RowAt.box w #[.slice a n c] 33
 have hw:Below w.heap.size w (w.alloc (.cells #[.slice a n c] 33)):=by go_grown
 generalize (w.alloc (.cells #[.slice a n c] 33))=w0 at *
 have c_0:=C.box1;have hsC:=bLt c_0
 go_wp2_with fail
 refine(cM.out _ hw).mono ?_
 rintro e w1 ⟨rfl,S1,hK1,hb1⟩
 have hz0:=hw.size
 have K1:Kept (fun q=>(Value.slice a n c).ownBlock=some q) w w1:=fun b h1 h2=>by rw[hK1 b (by omega) (fun h=>h2 (by simpa using h)),hw.block b h1]
 have B1:Below lo w w1:=(hw.mono hlo).trans hb1
 replace K1:=kH K1;replace B1:=kH B1;replace S1:=kH S1
 clear hK1 hb1 hw
 go_wp2_with fail
 go_returns
 exact⟨rfl,S1.out,K1.out,B1.out⟩
theorem heldTy_c (y:List GTyItem) (hy:y.length<=200) (v:Value) (w:World) (h:MkTy y w v) :
  Calls Tryz.prog 16 #[.agg #[v],.int .i64 1] w fun e w'=>e=.returned (.int .i64 ((1+cntL cntTyItem y:Nat):Int))/\Below w.heap.size w w':=by
 have hc:=cntTy_le y
 have S:Sl GTyItem.R 3 0 w v (markL mkTyItem cntTyItem 1 y):=SlO.sl GTyItem.ok h (fun _ _=>Nat.zero_le _)
 have cM:=fun W (hW:Below w.heap.size w W)=>heldTyItemS_c v 1 0 1 rfl y W (S.below GTyItem.good hW) (by omega) (by unfold LenOkTyItem;omega)
 obtain⟨a,c,rfl⟩:=S.form
 rw[markL_length]at *
 obtain⟨n,hn⟩ : ∃n,n=y.length:=⟨_,rfl⟩
 rw[<- hn]at cM ⊢
 obtain⟨k,hk⟩ : ∃k,k=1+cntL cntTyItem y:=⟨_,rfl⟩
 rw[<- hk]at cM ⊢
 have dk:decide ((k:Int)<0)=false:=decide_eq_false (by omega)
 replace cM:=kH cM;replace hn:=kH hn;replace hk:=kH hk
 clear S h hc
 go_enter Tryz.func16,Tryz.ntmps16
 go_upto_region 1 with fail
 have C:RowAt (w.alloc (.cells #[.slice a n c] 33)) (w.heap.size) 0 [.slice a n c]:=RowAt.box w #[.slice a n c] 33
 have hw:Below w.heap.size w (w.alloc (.cells #[.slice a n c] 33)):=by go_grown
 generalize (w.alloc (.cells #[.slice a n c] 33))=w0 at *
 have c_0:=C.box1;have hsC:=bLt c_0
 go_wp2_with fail
 refine(cM.out _ hw).mono ?_
 rintro e w1 ⟨rfl,hb1⟩
 have hw1:=hw.trans (hb1.mono hw.size)
 clear hb1 hw
 go_wp2_with fail
 go_returns
 exact⟨rfl,hw1⟩
end Go.Proofs.YtkikkfjmggobpaaGreat
