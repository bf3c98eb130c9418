/- What the functions that FnMadeSure reaches compute: further. -/
import Derived.Test.YtapikgcgahomlaaGreatFMadeSureD
namespace Go.Proofs.YtapikgcgahomlaaGreat.Eng
open Go Go.RowKit
set_option linter.unusedSimpArgs false
set_option linter.unusedVariables false
set_option maxRecDepth 10000
abbrev F4H:=List (Int×Int×Int×List (Int×ByteArray×ByteArray)×Bool)
abbrev B0L:List PSh:=[.t T4]
noncomputable def A5l (a0:List Int):=let z1:=W2 a0;B8e (z1.1) (z1.2.1) (z1.2.2.1) (z1.2.2.2.1) (z1.2.2.2.2)
noncomputable def A5u (a0:List Int):=let z1:=A1j a0;C15 (z1.1) (z1.2.1) (z1.2.2.1) (z1.2.2.2.1) (z1.2.2.2.2.1) (z1.2.2.2.2.2)
noncomputable def A8U (a0:List Int):=let z1:=W2 a0;B8g (z1.1) (z1.2.1) (z1.2.2.1) (z1.2.2.2.1) (z1.2.2.2.2)
noncomputable def A8Y (a0:List Int):=let z1:=A1j a0;C1N (z1.1) (z1.2.1) (z1.2.2.1) (z1.2.2.2.1) (z1.2.2.2.2.1) (z1.2.2.2.2.2)
noncomputable def A9H (a0:List Int):=let z1:=A5l a0;A46 (z1.1) (z1.2.1) (z1.2.2.1) (z1.2.2.2.1) (z1.2.2.2.2)
noncomputable def A9P (a0:List Int):=let z1:=W2 a0;A6T (z1.1) (z1.2.1) (z1.2.2.1) (z1.2.2.2.1) (z1.2.2.2.2)
noncomputable def B5j (a0:List Int):=let z1:=A5u a0;A9N (z1.1) (z1.2.1) (z1.2.2.1) (z1.2.2.2.1) (z1.2.2.2.2.1) (z1.2.2.2.2.2)
noncomputable def B43 (a0:List Int):=let z1:=A1j a0;B1R (z1.1) (z1.2.1) (z1.2.2.1) (z1.2.2.2.1) (z1.2.2.2.2.1) (z1.2.2.2.2.2)
noncomputable def A70 (a0:List Int):Bool:=let z1:=A5u a0;let z2:=A1j a0;let z3:=A5l a0;(cond (lbig a0) true (cond ((z3.2.2.1) != ((A8U a0).2.2.1)) false (cond ((z1.2.2.2.2.2) != ((A8Y a0).2.2.2.2.2)) false (cond (!(A95 (z3.2.1) ((W2 a0).2.1))) false (cond (!(A7A (z3.2.2.2.1) ((W2 a0).2.2.2.1))) false (cond ((((z1.2.2.2.2.1).length:Nat):Int) != (((z2.2.2.2.2.1).length:Nat):Int)) false (cond ((((z1.2.2.2.1).length:Nat):Int) != (((z2.2.2.2.1).length:Nat):Int)) false (cond ((A9H a0)==(A9P a0)) (cond ((B5j a0)==(B43 a0)) (cond ((z1.2.2.1)==(z2.2.2.1)) ((z1.2.1)==(z2.2.1)) false) false) false))))))))
noncomputable abbrev E6 (r:Bool):AV×List AObj:=((.t true .bool r),[])
noncomputable abbrev C45:A1 B0L→AV×List AObj:=fun d=>E6 (A70 d.1)
noncomputable def A4n (a0:List Int):Bool:=let z1:=W2 a0;let z2:=A1j a0;let z3:=A5l a0;let z4:=A5u a0;cond (lbig a0) true ((A0Z a0)&&((A3u (z1.1) (z1.2.1) (z1.2.2.1) (z1.2.2.2.1) (z1.2.2.2.2))&&((A1K a0)&&((A5m (z2.1) (z2.2.1) (z2.2.2.1) (z2.2.2.2.1) (z2.2.2.2.2.1) (z2.2.2.2.2.2))&&((A3x (z1.1) (z1.2.1) (z1.2.2.1) (z1.2.2.2.1) (z1.2.2.2.2))&&(cond ((z3.2.2.1) != ((A8U a0).2.2.1)) true ((A5h (z2.1) (z2.2.1) (z2.2.2.1) (z2.2.2.2.1) (z2.2.2.2.2.1) (z2.2.2.2.2.2))&&(cond ((z4.2.2.2.2.2) != ((A8Y a0).2.2.2.2.2)) true ((A3v (z3.2.1) (z1.2.1))&&(cond (!(A95 (z3.2.1) (z1.2.1))) true ((A2A (z3.2.2.2.1) (z1.2.2.2.1))&&(cond (!(A7A (z3.2.2.2.1) (z1.2.2.2.1))) true (cond ((((z4.2.2.2.2.1).length:Nat):Int) != (((z2.2.2.2.2.1).length:Nat):Int)) true (cond ((((z4.2.2.2.1).length:Nat):Int) != (((z2.2.2.2.1).length:Nat):Int)) true ((A05 (z3.1) (z3.2.1) (z3.2.2.1) (z3.2.2.2.1) (z3.2.2.2.2))&&((A1Y (z1.1) (z1.2.1) (z1.2.2.1) (z1.2.2.2.1) (z1.2.2.2.2))&&(cond ((A9H a0)==(A9P a0)) ((A1a (z4.1) (z4.2.1) (z4.2.2.1) (z4.2.2.2.1) (z4.2.2.2.2.1) (z4.2.2.2.2.2))&&(A2K (z2.1) (z2.2.1) (z2.2.2.1) (z2.2.2.2.1) (z2.2.2.2.2.1) (z2.2.2.2.2.2))) true)))))))))))))))))
noncomputable abbrev A4d:A1 B0L→Bool:=fun d=>A4n d.1
theorem D2F:N0 true F3z aLn Tryz.f3 B0L A4d C45:=by
 rintro ⟨a0,_⟩ hp
 change A4n a0=true at hp
 unfold A4n at hp
 refine Eq.trans (b:=(let z1:=A1j a0;let z2:=W2 a0;let z3:=A5u a0;let z4:=A5l a0;cond (lbig a0) (some (E6 true)) (cond (A0Z a0) (cond (A3u (z2.1) (z2.2.1) (z2.2.2.1) (z2.2.2.2.1) (z2.2.2.2.2)) (cond (A1K a0) (cond (A5m (z1.1) (z1.2.1) (z1.2.2.1) (z1.2.2.2.1) (z1.2.2.2.2.1) (z1.2.2.2.2.2)) (cond (A3x (z2.1) (z2.2.1) (z2.2.2.1) (z2.2.2.2.1) (z2.2.2.2.2)) (cond ((z4.2.2.1) != ((A8U a0).2.2.1)) (some (E6 false)) (cond (A5h (z1.1) (z1.2.1) (z1.2.2.1) (z1.2.2.2.1) (z1.2.2.2.2.1) (z1.2.2.2.2.2)) (cond ((z3.2.2.2.2.2) != ((A8Y a0).2.2.2.2.2)) (some (E6 false)) (cond (A3v (z4.2.1) (z2.2.1)) (cond (!(A95 (z4.2.1) (z2.2.1))) (some (E6 false)) (cond (A2A (z4.2.2.2.1) (z2.2.2.2.1)) (cond (!(A7A (z4.2.2.2.1) (z2.2.2.2.1))) (some (E6 false)) (cond ((((z3.2.2.2.2.1).length:Nat):Int) != (((z1.2.2.2.2.1).length:Nat):Int)) (some (E6 false)) (cond ((((z3.2.2.2.1).length:Nat):Int) != (((z1.2.2.2.1).length:Nat):Int)) (some (E6 false)) (cond (A05 (z4.1) (z4.2.1) (z4.2.2.1) (z4.2.2.2.1) (z4.2.2.2.2)) (cond (A1Y (z2.1) (z2.2.1) (z2.2.2.1) (z2.2.2.2.1) (z2.2.2.2.2)) (cond ((A9H a0)==(A9P a0)) (cond (A1a (z3.1) (z3.2.1) (z3.2.2.1) (z3.2.2.2.1) (z3.2.2.2.2.1) (z3.2.2.2.2.2)) (cond (A2K (z1.1) (z1.2.1) (z1.2.2.1) (z1.2.2.2.1) (z1.2.2.2.2.1) (z1.2.2.2.2.2)) (cond ((B5j a0)==(B43 a0)) (cond ((z3.2.2.1)==(z1.2.2.1)) (some (E6 ((z3.2.1)==(z1.2.1)))) (some (E6 false))) (some (E6 false))) none) none) (some (E6 false))) none) none)))) none)) none)) none)) none) none) none) none) none))) (by kernel_rfl) ?_
 exact (A9 E6 hp (fun hp=>rfl) (fun hp=>(B2 hp fun hp=>(B2 hp fun hp=>(B2 hp fun hp=>(B2 hp fun hp=>(B2 hp fun hp=>(A9 E6 hp (fun hp=>rfl) (fun hp=>(B2 hp fun hp=>(A9 E6 hp (fun hp=>rfl) (fun hp=>(B2 hp fun hp=>(A9 E6 hp (fun hp=>rfl) (fun hp=>(B2 hp fun hp=>(A9 E6 hp (fun hp=>rfl) (fun hp=>(A9 E6 hp (fun hp=>rfl) (fun hp=>(A9 E6 hp (fun hp=>rfl) (fun hp=>(B2 hp fun hp=>(B2 hp fun hp=>(A9 E6 hp (fun hp=>(B2 hp fun hp=>(B7 hp fun _h=>(A18 E6 (fun _h=>(A18 E6 (fun _h=>rfl) (fun _h=>rfl))) (fun _h=>rfl))))) (fun hp=>rfl))))))))))))))))))))))))))
theorem D6v:aPP 3 (A7 B0L A4d C45):=pcD true F3z hlz D2F
noncomputable abbrev H6:=(Int)×(Int)×Lq2
noncomputable abbrev D8:=(Int)×(List H6)×(Int)×LBBe×List H6
noncomputable def F35 (l:Lq2):Prop:=L1 l=true
noncomputable def F3Q (x:H6):Prop:=F35 x.2.2
noncomputable def A02 (l:List H6):Prop:=l.length≤1048576∧∀ x∈l,F3Q x
noncomputable abbrev A1B:=ByteArray×ByteArray
noncomputable def C6q (k:ByteArray) (ops:Lq2):Bool:=ops.any fun x=>k.toList==x.2.1.toList
noncomputable def B9x (l ops:Lq2):Bool:=l.any fun o=>C6q o.2.1 ops
noncomputable def A2R (held:List H6) (ops:Lq2):Bool:=held.any fun r=>B9x r.2.2 ops
noncomputable def misses (m:LBBe) (o:Int×ByteArray×ByteArray):Bool:=cond (o.1 != 3) false (cond (!((A9e m o.2.1).2==(!(o.2.2.toList==bE.toList)))) true (!((A9e m o.2.1).1.toList==o.2.2.toList)))
noncomputable def A8r (m:LBBe) (ops:Lq2):Bool:=!(ops.any (misses m))
noncomputable def D3 (t:Int) (r:H6):Bool:=r.2.1==t
noncomputable def B9:H6:=((0:Int),((0:Int),([]:Lq2)))
noncomputable def isK (k:ByteArray) (p:ByteArray×ByteArray):Bool:=p.1.toList==k.toList
noncomputable def dP:ByteArray×ByteArray:=(bE,bE)
noncomputable def A87 (k:ByteArray) (p:ByteArray×ByteArray):Bool:=!(Op.bytesLess p.1.toList k.toList||p.1.toList==k.toList)
noncomputable def E0D (l:LBBe) (k v:ByteArray):LBBe :=
 cond (decide (l.findIdx (isK k)<l.length)) (l.set (l.findIdx (isK k)) ((l.getD (l.findIdx (isK k)) dP).1,v)) (l.take (l.findIdx (A87 k))++((k,v)::l.drop (l.findIdx (A87 k))))
noncomputable def C9U (l:LBBe) (k:ByteArray):LBBe:=l.filter fun p=>!isK k p
noncomputable def B8E (l:LBBe) (o:Int×ByteArray×ByteArray):LBBe:=cond (o.1==1) (E0D l o.2.1 o.2.2) (cond (o.1==2) (C9U l o.2.1) l)
noncomputable def A42 (kn:Bool) (m:List A1B) (held:List H6) (r:H6):Option (List A1B×List H6) :=
 cond (!(A2I r.1 r.2.1 r.2.2)) none (cond (r.1==1)
  (cond kn none (cond (A2R held r.2.2) none (cond (!(A8r m r.2.2)) none (some (m,held++[((1:Int),(r.2.1,r.2.2))])))))
  (cond (!(held.any (D3 r.2.1))) (cond (r.1==3) (cond kn none (some (m,held))) none)
   (cond (r.1==2) (cond (decide (((((held.getD (held.findIdx (D3 r.2.1)) B9).2.2.foldl B8E m).length:Nat):Int)≤60)) (some ((held.getD (held.findIdx (D3 r.2.1)) B9).2.2.foldl B8E m,held.eraseIdx (held.findIdx (D3 r.2.1)))) none)
    (cond (decide ((m.length:Int)≤60)) (some (m,held.eraseIdx (held.findIdx (D3 r.2.1)))) none))))
noncomputable def A0D (l:List H6):Nat→Option (List A1B×List H6)
 | 0=>some ([],[])
 | i+1=>(A0D l i).bind fun s=>A42 ((l.take i).any (D3 (l.getD i B9).2.1)) s.1 s.2 (l.getD i B9)
noncomputable abbrev B0E (x:D8):Prop:=(0≤x.1∧x.1≤7)∧(0≤x.2.2.1∧x.2.2.1≤(x.2.1.length:Int))∧(x.2.1.length:Int)+(x.2.2.2.2.length:Int)≤300∧A0D x.2.1 x.2.1.length=some (x.2.2.2.1,x.2.2.2.2)
noncomputable def B1N (h:List H6):Nat:=(h.map fun r=>r.2.2.length).sum
noncomputable abbrev DrawnS (x:D8):Prop:=A02 x.2.1∧B0E x∧∀ i,i≤x.2.1.length→∀ m h,A0D x.2.1 i=some (m,h)→m.length+B1N h≤60∧i+h.length≤300
noncomputable abbrev D9F (x:D8):Prop:=A02 x.2.1∧x.2.2.2.1.length≤100000∧A02 x.2.2.2.2∧(B0E x→DrawnS x)∧x.2.1.length≤100000∧x.2.2.2.2.length≤100000
theorem A1O {l:List H6} (h:A02 l):∀ x∈l,L1 x.2.2=true:=fun x hx=>h.2 x hx
theorem I7 {α:Type} {l:List α} {i:Nat} (h:i<l.length) (d:α):l.getD i d∈l:=by
 simp [List.getD_eq_getElem?_getD,h]
theorem D5 {α:Type} {l:List α} {i:Nat} (hi:i<l.length) (d:α):l.take (i+1)=l.take i++[l.getD i d]:=by
 rw [List.take_add_one,List.getElem?_eq_getElem hi];simp [List.getD_eq_getElem?_getD,hi]
theorem A2O (l:List H6) (i:Nat):l.getD i ((0:Int),((0:Int),[]))=l.getD i B9:=rfl
theorem C27 {l:List H6} (hl:A02 l):A0g l=true∧A5Q l=l:=by
 have h1:=hl.1
 have e:A2S l 0 []=(0,l):=by
  refine A0n (ss:=fun v:A4a=>A3e v.1 v.2.1 v.2.2) (fa:=A2T)
   (fun v=>∃ i:Nat,v=(l,(i:Int),l.take i)∧i≤l.length) (fun a=>a=(0,l)) (fun v=>l.length - v.2.1.toNat) ?_ ⟨0,rfl,Nat.zero_le _⟩ (by simp;omega)
  rintro v ⟨i,rfl,hi⟩
  by_cases hlt:i<l.length
  ·have e1:decide ((i:Int)<(l.length:Int))=true:=decide_eq_true (by omega)
   have e2:decide (0≤(i:Int)∧(i:Int)<(l.length:Int))=true:=decide_eq_true (by omega)
   have ho:=L4 (A1O hl _ (I7 hlt B9))
   have f3:N5 (l.getD i B9).1 (l.getD i B9).2.1 (l.getD i B9).2.2=true:=decide_eq_true (by simp only [List.length_nil,MAXB];omega)
   have f4:U6 (l.getD i B9).1 (l.getD i B9).2.1 (l.getD i B9).2.2=l.getD i B9:=rfl
   have f1:decide (((l.take i).length+[((l.getD i B9).1,((l.getD i B9).2.1,(l.getD i B9).2.2))].length)*40≤MAXB)=true:=decide_eq_true (by simp only [List.length_singleton,List.length_take,MAXB];omega)
   refine .inl ⟨(l,((i+1:Nat):Int),l.take (i+1)),?_,⟨i+1,rfl,by omega⟩,by simp only [Int.toNat_natCast];omega⟩
   rw [D5 hlt B9]
   simp only [A3e,B4F,e1,e2,cond_true,Int.toNat_natCast,A2O,f3,f4,f1,K6 i (by omega)]
  ·obtain rfl:i=l.length:=by omega
   have e1:decide ((l.length:Int)<(l.length:Int))=false:=decide_eq_false (by omega)
   simp only [A3e,e1,cond_false,List.take_length]
   exact .inr ⟨_,rfl,rfl⟩
 simp only [A0g,A5Q,e]
 exact ⟨rfl,trivial⟩
theorem C2R {l:List H6} (hl:A02 l):A2l l=true∧B0k l=l:=by
 have h1:=hl.1
 have e:A9o l=(0,l):=by
  refine A0n (ss:=fun v:A62=>A50 v.1 v.2.1 v.2.2.1 v.2.2.2) (fa:=A5f)
   (fun v=>∃ i:Nat,v=(l,(l.length:Int),(i:Int),l.take i)∧i≤l.length) (fun a=>a=(0,l)) (fun v=>l.length - v.2.2.1.toNat) ?_ ⟨0,rfl,Nat.zero_le _⟩ (by simp;omega)
  rintro v ⟨i,rfl,hi⟩
  by_cases hlt:i<l.length
  ·have e1:decide ((i:Int)<(l.length:Int))=true:=decide_eq_true (by omega)
   have e2:decide (0≤(i:Int)∧(i:Int)<(l.length:Int))=true:=decide_eq_true (by omega)
   have ho:=L4 (A1O hl _ (I7 hlt B9))
   have f3:C4 (l.getD i B9).2.2=true:=decide_eq_true (by simp only [List.length_nil,MAXB];omega)
   have f4:D4 (l.getD i B9).2.2=(l.getD i B9).2.2:=rfl
   have f1:decide (((l.take i).length+[((l.getD i B9).1,((l.getD i B9).2.1,(l.getD i B9).2.2))].length)*40≤MAXB)=true:=decide_eq_true (by simp only [List.length_singleton,List.length_take,MAXB];omega)
   refine .inl ⟨(l,(l.length:Int),((i+1:Nat):Int),l.take (i+1)),?_,⟨i+1,rfl,by omega⟩,by simp only [Int.toNat_natCast];omega⟩
   rw [D5 hlt B9]
   simp only [A50,e1,e2,cond_true,Int.toNat_natCast,A2O,f3,f4,f1,K6 i (by omega)]
  ·obtain rfl:i=l.length:=by omega
   have e1:decide ((l.length:Int)<(l.length:Int))=false:=decide_eq_false (by omega)
   simp only [A50,e1,cond_false,List.take_length]
   exact .inr ⟨_,rfl,rfl⟩
 simp only [A2l,B0k,e]
 exact ⟨rfl,trivial⟩
theorem E4C {x:D8} (h1:A02 x.2.1) (h3:x.2.2.2.1.length≤1048576) (h4:A02 x.2.2.2.2):A3I x.1 x.2.1 x.2.2.1 x.2.2.2.1 x.2.2.2.2=true∧B34 x.1 x.2.1 x.2.2.1 x.2.2.2.1 x.2.2.2.2=x:=by
 obtain ⟨a1,a2⟩:=C2R h1
 obtain ⟨b1,b2⟩:=C2R h4
 have c1:E8 x.2.2.2.1=true:=decide_eq_true (by simp only [List.length_nil,MAXB];omega)
 have c2:I6 x.2.2.2.1=x.2.2.2.1:=rfl
 simp only [A3I,B34,a1,a2,b1,b2,c1,c2,Bool.and_self]
 exact ⟨trivial,trivial⟩
noncomputable def O1 (l:List H6):List A1B×List H6×Bool:=match A0D l l.length with
 | none=>([],[],false)
 | some s=>(s.1,s.2,true)
noncomputable def C76 (l:List H6):Prop:=(l.map (·.2.1)).Nodup
noncomputable abbrev RepOk (l:List H6) (i:Nat) (m:List A1B) (held:List H6):Prop:=C76 held∧(∀ x∈held,L1 x.2.2=true∧(l.take i).any (D3 x.2.1)=true)∧held.length≤i∧m.length≤60
theorem D3N {l:List H6} {i:Nat} {t:Int} (h:(l.take i).any (D3 t)=true):(l.take (i+1)).any (D3 t)=true:=by
 obtain ⟨x,hx,hp⟩:=List.any_eq_true.1 h
 exact List.any_eq_true.2 ⟨x,List.mem_of_mem_take (i:=i) (by rw [List.take_take,Nat.min_eq_left (by omega)];exact hx),hp⟩
theorem RepOk.hone {l:List H6} {i:Nat} {m:List A1B} {held:List H6} (h:RepOk l i m held):C76 held:=h.1
theorem RepOk.hmem {l:List H6} {i:Nat} {m:List A1B} {held:List H6} (h:RepOk l i m held):∀ x∈held,L1 x.2.2=true∧(l.take i).any (D3 x.2.1)=true:=h.2.1
theorem RepOk.hlen {l:List H6} {i:Nat} {m:List A1B} {held:List H6} (h:RepOk l i m held):held.length≤i:=h.2.2.1
theorem RepOk.hml {l:List H6} {i:Nat} {m:List A1B} {held:List H6} (h:RepOk l i m held):m.length≤60:=h.2.2.2
theorem E9K {l:List H6} {i:Nat} {m m':List A1B} {held h':List H6} (hi:i<l.length) (hr:∀ x∈l,L1 x.2.2=true) (I:RepOk l i m held) (h:A42 ((l.take i).any (D3 (l.getD i B9).2.1)) m held (l.getD i B9)=some (m', h')):RepOk l (i+1) m' h':=by
 have hx:(l.take (i+1)).any (D3 (l.getD i B9).2.1)=true:=by
  refine List.any_eq_true.2 ⟨l.getD i B9,?_,by simp [D3]⟩
  rw [D5 hi B9];simp
 have sub:∀ k,RepOk l (i+1) m (held.eraseIdx k):=fun k=>by
  have hsub:(held.eraseIdx k).Sublist held:=List.eraseIdx_sublist _ _
  exact ⟨List.Nodup.sublist (hsub.map _) I.hone,fun x hx=>⟨(I.hmem x (hsub.subset hx)).1,D3N (I.hmem x (hsub.subset hx)).2⟩,by have:=hsub.length_le;have:=I.hlen;omega,I.hml⟩
 simp only [A42] at h
 cases hok:A2I (l.getD i B9).1 (l.getD i B9).2.1 (l.getD i B9).2.2 with
 | false=>rw [hok] at h;simp at h
 | true =>
  simp only [hok,Bool.not_true,cond_false] at h
  cases hk:((l.getD i B9).1==1) with
  | true =>
   simp only [hk,cond_true] at h
   cases hkn:(l.take i).any (D3 (l.getD i B9).2.1) with
   | true=>rw [hkn] at h;simp at h
   | false =>
    rw [hkn] at h
    cases hlk:A2R held (l.getD i B9).2.2 with
    | true=>rw [hlk] at h;simp at h
    | false =>
     rw [hlk] at h
     cases hmt:A8r m (l.getD i B9).2.2 with
     | false=>rw [hmt] at h;simp at h
     | true =>
      rw [hmt] at h
      simp only [Bool.not_true,cond_false,Option.some.injEq,Prod.mk.injEq] at h
      obtain ⟨rfl,rfl⟩:=h
      refine ⟨?_,fun x hm=>?_,by rw [List.length_append];have:=I.hlen;simp;omega,I.hml⟩
      ·simp only [C76,List.map_append,List.map_cons,List.map_nil]
       rw [List.nodup_append]
       refine ⟨I.hone,by simp,fun a ha b hb=>?_⟩
       simp only [List.mem_singleton] at hb
       subst hb
       intro e
       obtain ⟨x,hx1,hx2⟩:=List.mem_map.1 ha
       have:=(I.hmem x hx1).2
       rw [show x.2.1=(l.getD i B9).2.1 from hx2.trans e,hkn] at this
       cases this
      ·rcases List.mem_append.1 hm with hm | hm
       ·exact ⟨(I.hmem x hm).1,D3N (I.hmem x hm).2⟩
       ·simp only [List.mem_singleton] at hm
        subst hm
        have hq:=hr _ (I7 hi B9)
        exact ⟨hq,hx⟩
  | false =>
   simp only [hk,cond_false] at h
   cases ha:held.any (D3 (l.getD i B9).2.1) with
   | false =>
    simp only [ha,Bool.not_false,cond_true] at h
    cases h3:((l.getD i B9).1==3) with
    | false=>rw [h3] at h;simp at h
    | true =>
     rw [h3] at h
     cases hkn:(l.take i).any (D3 (l.getD i B9).2.1) with
     | true=>rw [hkn] at h;simp at h
     | false =>
      rw [hkn] at h
      simp only [cond_true,cond_false,Option.some.injEq,Prod.mk.injEq] at h
      obtain ⟨rfl,rfl⟩:=h
      exact ⟨I.hone,fun x hx=>⟨(I.hmem x hx).1,D3N (I.hmem x hx).2⟩,by have:=I.hlen;omega,I.hml⟩
   | true =>
    simp only [ha,Bool.not_true,cond_false] at h
    cases h2:((l.getD i B9).1==2) with
    | true =>
     simp only [h2,cond_true] at h
     by_cases hc:((((held.getD (held.findIdx (D3 (l.getD i B9).2.1)) B9).2.2.foldl B8E m).length:Nat):Int)≤60
     ·rw [decide_eq_true hc] at h
      simp only [cond_true,Option.some.injEq,Prod.mk.injEq] at h
      obtain ⟨rfl,rfl⟩:=h
      have:=sub (held.findIdx (D3 (l.getD i B9).2.1))
      exact ⟨this.hone,this.hmem,this.hlen,by omega⟩
     ·rw [decide_eq_false hc] at h;simp at h
    | false =>
     simp only [h2,cond_false] at h
     by_cases hc:(m.length:Int)≤60
     ·rw [decide_eq_true hc] at h
      simp only [cond_true,Option.some.injEq,Prod.mk.injEq] at h
      obtain ⟨rfl,rfl⟩:=h
      exact sub _
     ·rw [decide_eq_false hc] at h;simp at h
theorem D3v {l:List H6} (hr:∀ x∈l,L1 x.2.2=true):∀ i,i≤l.length→∀ m held,A0D l i=some (m,held)→RepOk l i m held:=by
 intro i
 induction i with
 | zero =>
  intro _ m held h
  simp only [A0D,Option.some.injEq,Prod.mk.injEq] at h
  obtain ⟨rfl,rfl⟩:=h
  exact ⟨by simp [C76],fun x hx=>by simp at hx,by simp,by simp⟩
 | succ i ih =>
  intro hi m held h
  simp only [A0D] at h
  cases hp:A0D l i with
  | none=>rw [hp] at h;cases h
  | some s =>
   rw [hp] at h
   exact E9K (by omega) hr (ih (by omega) s.1 s.2 (by rw [hp])) h
noncomputable def A45 {A:Type} (f:Nat→Option A) (last:A):Nat→Nat→A
 | 0,_=>last
 | k+1,i=>match f i with
  | some a=>a
  | none=>A45 f last k (i+1)
theorem A23 {V A:Type} {ss:V→V ⊕ A} {fa:A} (pk:Nat→V) (n:Nat) (f:Nat→Option A) (last:A) (hn:n<4611686018427387904)
  (h:∀ i,i<n→ss (pk i)=(match f i with | some a=>.inr a | none=>.inl (pk (i+1)))) (hl:ss (pk n)=.inr last):itX ss fa (pk 0)=A45 f last n 0:=by
 rw [D0d]
 have key:∀ k N i,i+k=n→k<N→itN ss fa N (pk i)=A45 f last k i:=by
  intro k
  induction k with
  | zero =>
   intro N i hi hN
   obtain ⟨M,rfl⟩:∃ M,N=M+1:=⟨N - 1,by omega⟩
   obtain rfl:i=n:=by omega
   rw [C7Y,hl];rfl
  | succ k ih =>
   intro N i hi hN
   obtain ⟨M,rfl⟩:∃ M,N=M+1:=⟨N - 1,by omega⟩
   rw [C7Y,h i (by omega)]
   simp only [A45]
   cases hf:f i with
   | some a=>rfl
   | none=>exact ih M (i+1) (by omega) (by omega)
 exact key n _ 0 (by omega) hn
theorem V7 {A:Type} (f:Nat→Option A) (last:A):∀ k i,(∃ j a,i≤j∧j<i+k∧f j=some a∧(∀ m,i≤m→m<j→f m=none)∧A45 f last k i=a)∨((∀ j,i≤j→j<i+k→f j=none)∧A45 f last k i=last):=by
 intro k
 induction k with
 | zero=>intro i;exact .inr ⟨fun j h1 h2=>by omega,rfl⟩
 | succ k ih =>
  intro i
  simp only [A45]
  cases hf:f i with
  | some a=>exact .inl ⟨i,a,Nat.le_refl _,by omega,hf,fun m h1 h2=>by omega,rfl⟩
  | none =>
   rcases ih (i+1) with ⟨j,a,h1,h2,h3,h4,h5⟩ | ⟨h1,h2⟩
   ·refine .inl ⟨j,a,by omega,by omega,h3,fun m m1 m2=>?_,h5⟩
    by_cases hm:m=i
    ·rw [hm];exact hf
    ·exact h4 m (by omega) m2
   ·refine .inr ⟨fun j j1 j2=>?_,h2⟩
    by_cases hj:j=i
    ·rw [hj];exact hf
    ·exact h1 j (by omega) (by omega)
theorem A8O {V A α:Type} {ss:V→V ⊕ A} {fa:A} (pk:Nat→V) (l:List α) (d:α) (p:α→Bool) (good:Nat→A) (last:A) (hn:l.length<4611686018427387904)
  (h:∀ i,i<l.length→ss (pk i)=cond (p (l.getD i d)) (.inr (good i)) (.inl (pk (i+1)))) (hl:ss (pk l.length)=.inr last) :
  itX ss fa (pk 0)=cond (decide (l.findIdx p<l.length)) (good (l.findIdx p)) last:=by
 rw [A23 pk l.length (fun i=>cond (p (l.getD i d)) (some (good i)) none) last hn (fun i hi=>by rw [h i hi];cases p (l.getD i d)<;>rfl) hl]
 rcases V7 (fun i=>cond (p (l.getD i d)) (some (good i)) none) last l.length 0 with ⟨j,a,h1,h2,h3,h4,h5⟩ | ⟨h1,h2⟩
 ·have hj:j<l.length:=by omega
  have hg:l.getD j d=l[j]:=by simp [List.getD_eq_getElem?_getD,hj]
  have hp:p l[j]=true:=by
   cases hc:p (l.getD j d) with
   | true=>rw [hg] at hc;exact hc
   | false=>simp only [hc,cond_false] at h3;cases h3
  have hf:l.findIdx p=j:=by
   rw [List.findIdx_eq hj]
   refine ⟨hp,fun m hm=>?_⟩
   have:=h4 m (by omega) hm
   have hgm:l.getD m d=l[m]:=by simp [List.getD_eq_getElem?_getD,Nat.lt_trans hm hj]
   rw [← hgm]
   cases hc:p (l.getD m d) with
   | false=>rfl
   | true=>simp only [hc,cond_true] at this;cases this
  rw [h5,hf,decide_eq_true hj]
  rw [hg,hp] at h3
  exact (Option.some.inj h3).symm
 ·have hf : ¬ l.findIdx p < l.length := by
   intro hlt
   have hp:=List.findIdx_getElem (w:=hlt)
   have:=h1 (l.findIdx p) (by omega) (by omega)
   have hg:l.getD (l.findIdx p) d=l[l.findIdx p]:=by simp [List.getD_eq_getElem?_getD,hlt]
   rw [hg,hp] at this
   cases this
  rw [h2,decide_eq_false hf];rfl
theorem B3L (l:List H6) (t:Int) (hl:l.length≤1099511627776):A9E l t=true∧A72 l t=cond (decide (l.findIdx (D3 t)<l.length)) ((l.findIdx (D3 t):Nat):Int) (-1):=by
 have e:B4H l t 0=cond (decide (l.findIdx (D3 t)<l.length)) (0,((l.findIdx (D3 t):Nat):Int)) (1,0):=by
  refine A8O (ss:=fun v:B3G=>B3T v.1 v.2.1 v.2.2) (fa:=C6c) (fun i=>((l,t,(i:Int)):B3G)) l B9 (D3 t) (fun i=>((0,(i:Int)):B3D)) _ (by omega) (fun i hi=>?_) ?_
  ·have h1:decide ((i:Int)<(l.length:Int))=true:=decide_eq_true (by omega)
   have h2:decide (0≤(i:Int)∧(i:Int)<(l.length:Int))=true:=decide_eq_true (by omega)
   simp only [B3T,h1,h2,cond_true,Int.toNat_natCast,K6 i (by omega),A2O,D3]
  ·have h1:decide ((l.length:Int)<(l.length:Int))=false:=decide_eq_false (by omega)
   simp only [B3T,h1,cond_false]
 simp only [A9E,A72,e]
 cases decide (l.findIdx (D3 t)<l.length)<;>exact ⟨rfl,rfl⟩
theorem D3a (l:List H6) (t:Int) (hl:l.length≤1099511627776):decide (A72 l t<0)=!(l.any (D3 t)):=by
 rw [(B3L l t hl).2]
 cases ha:l.any (D3 t) with
 | true =>
  rw [decide_eq_true (List.findIdx_lt_length.2 (List.any_eq_true.1 ha))]
  exact decide_eq_false (by simp only [cond_true];omega)
 | false =>
  have:¬ l.findIdx (D3 t)<l.length:=by
   intro hc
   obtain ⟨x,hx,hp⟩:=List.findIdx_lt_length.1 hc
   rw [List.any_eq_true.2 ⟨x,hx,hp⟩] at ha
   cases ha
  rw [decide_eq_false this]
  rfl
theorem B4l {l:List Int} (hl:l.length≤1048576) (x:Int):O5 l x=true∧Y7 l x=decide (x∈l):=by
 have key:A78 l x 0=(0,true)∧x∈l∨A78 l x 0=(1,false)∧x ∉ l:=by
  refine A0n (fun v:B3Q=>∃ i:Nat,v=(l,x,(i:Int))∧i≤l.length∧x ∉ l.take i) (fun a:A98=>a=(0,true)∧x∈l∨a=(1,false)∧x ∉ l) (fun v=>l.length - v.2.2.toNat) ?_ ⟨0,rfl,Nat.zero_le _,by simp⟩ (by simp;omega)
  rintro v ⟨i,rfl,hi,hx⟩
  by_cases hlt:i<l.length
  ·have e1:decide ((i:Int)<(l.length:Int))=true:=decide_eq_true (by omega)
   have e2:decide (0≤(i:Int)∧(i:Int)<(l.length:Int))=true:=decide_eq_true (by omega)
   simp only [B5T,e1,e2,cond_true,Int.toNat_natCast,K6 i (by omega)]
   cases hc:(l.getD i 0==x) with
   | true=>exact .inr ⟨_,rfl,.inl ⟨rfl,by have:=I7 hlt 0;simp only [beq_iff_eq] at hc;rw [hc] at this;exact this⟩⟩
   | false =>
    refine .inl ⟨_,rfl,⟨i+1,rfl,by omega,?_⟩,by simp only [Int.toNat_natCast];omega⟩
    rw [D5 hlt 0]
    simp only [beq_eq_false_iff_ne] at hc
    simp only [List.mem_append,List.mem_singleton,not_or]
    exact ⟨hx,fun h=>hc h.symm⟩
  ·obtain rfl:i=l.length:=by omega
   have e1:decide ((l.length:Int)<(l.length:Int))=false:=decide_eq_false (by omega)
   simp only [B5T,e1,cond_false]
   rw [List.take_length] at hx
   exact .inr ⟨_,rfl,.inr ⟨rfl,hx⟩⟩
 simp only [O5,Y7]
 rcases key with ⟨h1,h2⟩ | ⟨h1,h2⟩
 ·rw [h1,decide_eq_true h2];exact ⟨rfl,rfl⟩
 ·rw [h1,decide_eq_false h2];exact ⟨rfl,rfl⟩
theorem B3v {V A α:Type} {ss:V→V ⊕ A} {fa:A} (pk:Nat→V) (l:List α) (d:α) (p:α→Bool) (good last:A) (hn:l.length<4611686018427387904)
  (h:∀ i,i<l.length→ss (pk i)=cond (p (l.getD i d)) (.inr good) (.inl (pk (i+1)))) (hl:ss (pk l.length)=.inr last):itX ss fa (pk 0)=cond (l.any p) good last:=by
 rw [A8O pk l d p (fun _=>good) last hn h hl]
 cases ha:l.any p with
 | true=>rw [decide_eq_true (List.findIdx_lt_length.2 (List.any_eq_true.1 ha))]
 | false =>
  rw [decide_eq_false]
  intro hc
  obtain ⟨x,hx,hp⟩:=List.findIdx_lt_length.1 hc
  rw [List.any_eq_true.2 ⟨x,hx,hp⟩] at ha
  cases ha
theorem B56 (l:Lq2) (i:Nat):l.getD i ((0:Int),((⟨#[]⟩:ByteArray),(⟨#[]⟩:ByteArray)))=l.getD i dOp:=rfl
theorem E53 (held:List H6) (ops:Lq2) (i k:Nat) (hi:i<held.length) (hk:k<(held.getD i B9).2.2.length) (ho:ops.length≤1048576) :
  A5r held ops (i:Int) (k:Int) 0=cond (C6q ((held.getD i B9).2.2.getD k dOp).2.1 ops) (0,true,[],[],0,0) (1,false,held,ops,(i:Int),(k:Int)):=by
 refine B3v (ss:=fun v:A4p=>A24 v.1 v.2.1 v.2.2.1 v.2.2.2.1 v.2.2.2.2) (fa:=A5y) (fun m=>((held,ops,(i:Int),(k:Int),(m:Int)):A4p)) ops dOp (fun x=>((held.getD i B9).2.2.getD k dOp).2.1.toList==x.2.1.toList) _ _ (by omega) (fun m hm=>?_) ?_
 ·have h1:decide ((m:Int)<(ops.length:Int))=true:=decide_eq_true (by omega)
  have h2:decide (0≤(i:Int)∧(i:Int)<(held.length:Int))=true:=decide_eq_true (by omega)
  have h3:decide (0≤(k:Int)∧(k:Int)<(((held.getD (i:Int).toNat ((0:Int),((0:Int),[]))).2.2.length:Nat):Int))=true:=decide_eq_true (show 0≤(k:Int)∧(k:Int)<(((held.getD i B9).2.2.length:Nat):Int) by omega)
  have h4:decide (0≤(m:Int)∧(m:Int)<(ops.length:Int))=true:=decide_eq_true (by omega)
  show A24 held ops (i:Int) (k:Int) (m:Int)=_
  simp only [A24,h1,h2,h3,h4,cond_true]
  simp only [A2O,B56,Int.toNat_natCast,K6 m (by omega)]
 ·have h1:decide ((ops.length:Int)<(ops.length:Int))=false:=decide_eq_false (by omega)
  simp only [A24,h1,cond_false]
theorem E3I (held:List H6) (ops:Lq2) (i:Nat) (hi:i<held.length) (hk:(held.getD i B9).2.2.length≤1048576) (ho:ops.length≤1048576) :
  A5C held ops (i:Int) 0=cond (B9x (held.getD i B9).2.2 ops) (0,true,[],[],0) (1,false,held,ops,(i:Int)):=by
 have h2:decide (0≤(i:Int)∧(i:Int)<(held.length:Int))=true:=decide_eq_true (by omega)
 refine B3v (ss:=fun v:A4w=>A1J v.1 v.2.1 v.2.2.1 v.2.2.2) (fa:=A8N) (fun k=>((held,ops,(i:Int),(k:Int)):A4w)) (held.getD i B9).2.2 dOp (fun o=>C6q o.2.1 ops) _ _ (by omega) (fun k hk2=>?_) ?_
 ·have h1:decide ((k:Int)<(((held.getD (i:Int).toNat ((0:Int),((0:Int),[]))).2.2.length:Nat):Int))=true:=decide_eq_true (show (k:Int)<(((held.getD i B9).2.2.length:Nat):Int) by omega)
  show A1J held ops (i:Int) (k:Int)=_
  simp only [A1J,h1,h2,cond_true,E53 held ops i k hi hk2 ho]
  cases C6q ((held.getD i B9).2.2.getD k dOp).2.1 ops
  ·simp only [cond_false,K6 k (by omega)];rfl
  ·rfl
 ·have h1:decide ((((held.getD i B9).2.2.length:Nat):Int)<(((held.getD (i:Int).toNat ((0:Int),((0:Int),[]))).2.2.length:Nat):Int))=false:=decide_eq_false (show ¬ (((held.getD i B9).2.2.length:Nat):Int)<(((held.getD i B9).2.2.length:Nat):Int) by omega)
  show A1J held ops (i:Int) (((held.getD i B9).2.2.length:Nat):Int)=_
  simp only [A1J,h1,h2,cond_true,cond_false]
theorem D1E (held:List H6) (ops:Lq2) (hl:held.length≤1099511627776) (hh:∀ r∈held,r.2.2.length≤1048576) (ho:ops.length≤1048576):A0u held ops=true∧A2g held ops=A2R held ops:=by
 have e:A5M held ops 0=cond (A2R held ops) (0,true) (1,false):=by
  refine B3v (ss:=fun v:A4x=>A5b v.1 v.2.1 v.2.2) (fa:=B49) (fun i=>((held,ops,(i:Int)):A4x)) held B9 (fun r=>B9x r.2.2 ops) _ _ (by omega) (fun i hi=>?_) ?_
  ·have h1:decide ((i:Int)<(held.length:Int))=true:=decide_eq_true (by omega)
   simp only [A5b,h1,cond_true,E3I held ops i hi (hh _ (I7 hi B9)) ho]
   cases B9x (held.getD i B9).2.2 ops
   ·simp only [cond_false,K6 i (by omega)];rfl
   ·rfl
  ·have h1:decide ((held.length:Int)<(held.length:Int))=false:=decide_eq_false (by omega)
   simp only [A5b,h1,cond_false]
 simp only [A0u,A2g,e]
 cases A2R held ops<;>exact ⟨rfl,rfl⟩
noncomputable def E8B (l:LBBe) (k:ByteArray):Option ByteArray:=(l.find? (isK k)).map (·.2)
theorem A53 (l:LBBe) (i:Nat):l.getD i ((⟨#[]⟩:ByteArray),(⟨#[]⟩:ByteArray))=l.getD i dP:=rfl
theorem D5A {α:Type} (p:α→Bool) (d:α):∀ l:List α,l.find? p=cond (decide (l.findIdx p<l.length)) (some (l.getD (l.findIdx p) d)) none
 | []=>by simp
 | x::l=>by
  have ih:=D5A p d l
  cases h:p x with
  | true=>simp [List.find?_cons,List.findIdx_cons,h]
  | false =>
   simp only [List.find?_cons,List.findIdx_cons,h,List.length_cons,cond_false,List.getD_cons_succ]
   rw [ih]
   by_cases hl:l.findIdx p<l.length
   ·rw [decide_eq_true hl,decide_eq_true (show l.findIdx p+1<l.length+1 by omega)]
   ·rw [decide_eq_false hl,decide_eq_false (show ¬ l.findIdx p+1<l.length+1 by omega)]
theorem C9d (l:LBBe) (k:ByteArray) (hl:l.length≤1099511627776):A7W l k=true∧A9e l k=(match E8B l k with | some v=>(v,true) | none=>((⟨#[]⟩:ByteArray),false)):=by
 have e:A8C l k 0=cond (decide (l.findIdx (isK k)<l.length)) (0,(l.getD (l.findIdx (isK k)) dP).2,true) (1,(⟨#[]⟩:ByteArray),false):=by
  refine A8O (ss:=fun v:A71=>A86 v.1 v.2.1 v.2.2) (fa:=B3c) (fun i=>((l,k,(i:Int)):A71)) l dP (isK k) (fun i=>((0,(l.getD i dP).2,true):A7P)) _ (by omega) (fun i hi=>?_) ?_
  ·have h1:decide ((i:Int)<(l.length:Int))=true:=decide_eq_true (by omega)
   have h2:decide (0≤(i:Int)∧(i:Int)<(l.length:Int))=true:=decide_eq_true (by omega)
   simp only [A86,h1,h2,cond_true,Int.toNat_natCast,K6 i (by omega),A53,isK]
  ·have h1:decide ((l.length:Int)<(l.length:Int))=false:=decide_eq_false (by omega)
   simp only [A86,h1,cond_false]
 simp only [A7W,A9e,e,E8B,D5A (isK k) dP l]
 cases decide (l.findIdx (isK k)<l.length)<;>exact ⟨rfl,rfl⟩
theorem D1A (m:LBBe) (ops:Lq2) (hm:m.length≤1099511627776) (ho:ops.length≤1048576):A48 m ops=true∧B2H m ops=A8r m ops:=by
 have e:B14 m ops 0=cond (ops.any (misses m)) (0,false) (1,false):=by
  refine B3v (ss:=fun v:B0H=>B16 v.1 v.2.1 v.2.2) (fa:=A5O) (fun i=>((m,ops,(i:Int)):B0H)) ops dOp (misses m) _ _ (by omega) (fun i hi=>?_) ?_
  ·have h1:decide ((i:Int)<(ops.length:Int))=true:=decide_eq_true (by omega)
   have h2:decide (0≤(i:Int)∧(i:Int)<(ops.length:Int))=true:=decide_eq_true (by omega)
   simp only [B16,C4A,B56,Int.toNat_natCast,h1,h2,cond_true,K6 i (by omega),(C9d m _ hm).1,misses]
   generalize ((ops.getD i dOp).1 != 3)=a
   generalize (!((A9e m (ops.getD i dOp).2.1).2==(!((ops.getD i dOp).2.2.toList==(⟨#[]⟩:ByteArray).toList))))=b
   generalize (!((A9e m (ops.getD i dOp).2.1).1.toList==(ops.getD i dOp).2.2.toList))=c
   cases a<;>cases b<;>cases c<;>rfl
  ·have h1:decide ((ops.length:Int)<(ops.length:Int))=false:=decide_eq_false (by omega)
   simp only [B16,h1,cond_false]
 simp only [A48,B2H,e,A8r]
 cases ops.any (misses m)<;>exact ⟨rfl,rfl⟩
theorem B7g {α:Type} (l:List α) (k:Nat):(l.drop k).take (l.length - k)=l.drop k:=List.take_of_length_le (by simp)
theorem E2j {V A α β:Type} {ss:V→V ⊕ A} {fa:A} (pk:Nat→β→V) (l:List α) (d:α) (f:β→α→β) (last:β→A) (ok:Nat→β→Prop) (hn:l.length<4611686018427387904)
  (h:∀ i b,i<l.length→ok i b→ss (pk i b)=.inl (pk (i+1) (f b (l.getD i d)))∧ok (i+1) (f b (l.getD i d))) (hl:∀ b,ok l.length b→ss (pk l.length b)=.inr (last b)) {b:β} (h0:ok 0 b):itX ss fa (pk 0 b)=last (l.foldl f b):=by
 rw [D0d]
 have key:∀ k N i b,i+k=l.length→k<N→ok i b→itN ss fa N (pk i b)=last ((l.drop i).foldl f b):=by
  intro k
  induction k with
  | zero =>
   intro N i b hi hN ho
   obtain ⟨M,rfl⟩:∃ M,N=M+1:=⟨N - 1,by omega⟩
   obtain rfl:i=l.length:=by omega
   rw [C7Y,hl b ho,List.drop_length];rfl
  | succ k ih =>
   intro N i b hi hN ho
   obtain ⟨M,rfl⟩:∃ M,N=M+1:=⟨N - 1,by omega⟩
   have hlt:i<l.length:=by omega
   obtain ⟨h1,h2⟩:=h i b hlt ho
   rw [C7Y,h1]
   simp only
   rw [ih M (i+1) _ (by omega) (by omega) h2,List.drop_eq_getElem_cons hlt,List.foldl_cons]
   simp [List.getD_eq_getElem?_getD,hlt]
 have:=key l.length _ 0 b (by omega) hn h0
 simpa using this
theorem E2O (l:LBBe) (k:ByteArray):(C9U l k).length≤l.length:=List.length_filter_le _ _
theorem A8e {α:Type} (p:α→Bool) (l:List α):l.findIdx p≤l.length:=List.findIdx_le_length
theorem E8r (l:LBBe) (k v:ByteArray):(E0D l k v).length≤l.length+1:=by
 simp only [E0D]
 cases decide (l.findIdx (isK k)<l.length)
 ·have:=A8e (A87 k) l
  simp only [cond_false,List.length_append,List.length_take,List.length_cons,List.length_drop];omega
 ·simp
theorem D3D (l:LBBe) (o:Int×ByteArray×ByteArray):(B8E l o).length≤l.length+1:=by
 simp only [B8E]
 cases o.1==1
 ·cases o.1==2
  ·simp
  ·have:=E2O l o.2.1;simp only [cond_true,cond_false];omega
 ·exact E8r _ _ _
theorem E0n (l:LBBe) (k v:ByteArray) (hl:l.length≤1099511627776):A8k l k v=true∧D2S l k v=E0D l k v:=by
 have hlt:∀ i:Nat,i<l.length→decide ((i:Int)<(l.length:Int))=true∧decide (0≤(i:Int)∧(i:Int)<(l.length:Int))=true:=fun i hi=>⟨decide_eq_true (by omega),decide_eq_true (by omega)⟩
 have hge:decide ((l.length:Int)<(l.length:Int))=false:=decide_eq_false (by omega)
 have e0:A6p l k v 0 l=cond (decide (l.findIdx (isK k)<l.length)) (0,l.set (l.findIdx (isK k)) ((l.getD (l.findIdx (isK k)) dP).1,v),([]:LBBe),(⟨#[]⟩:ByteArray),(⟨#[]⟩:ByteArray)) (1,([]:LBBe),l,k,v):=by
  refine A8O (ss:=fun v:A8n=>A9F v.1 v.2.1 v.2.2.1 v.2.2.2.1 v.2.2.2.2) (fa:=B24) (fun i=>((l,k,v,(i:Int),l):A8n)) l dP (isK k) (fun i=>((0,l.set i ((l.getD i dP).1,v),[],⟨#[]⟩,⟨#[]⟩):A7S)) _ (by omega) (fun i hi=>?_) ?_
  ·obtain ⟨h1,h2⟩:=hlt i hi
   simp only [A9F,h1,h2,cond_true,Int.toNat_natCast,K6 i (by omega),A53]
   rfl
  ·simp only [A9F,hge,cond_false]
 have e1:B9B l k v 0=(0,l,k,v,((l.findIdx (A87 k):Nat):Int)):=by
  have h:=A8O (ss:=fun v:A74=>A8X v.1 v.2.1 v.2.2.1 v.2.2.2) (fa:=B9d) (fun i=>((l,k,v,(i:Int)):A74)) l dP (A87 k) (fun i=>(0,l,k,v,(i:Int))) (0,l,k,v,(l.length:Int)) (by omega) (fun i hi=>?_) ?_
  ·refine h.trans ?_
   by_cases hc:l.findIdx (A87 k)<l.length
   ·rw [decide_eq_true hc];rfl
   ·have:=A8e (A87 k) l
    have he:l.findIdx (A87 k)=l.length:=by omega
    rw [decide_eq_false hc,he];rfl
  ·obtain ⟨h1,h2⟩:=hlt i hi
   simp only [A8X,h1,h2,cond_true,Int.toNat_natCast,K6 i (by omega),A53,A87]
   cases (Op.bytesLess (l.getD i dP).1.toList k.toList||(l.getD i dP).1.toList==k.toList)<;>rfl
  ·simp only [A8X,hge,cond_false]
 have hle:=A8e (A87 k) l
 simp only [A8k,D2S,B9y,List.nil_append,e0]
 cases hc:decide (l.findIdx (isK k)<l.length) with
 | true =>
  simp only [cond_true,E0D,hc]
  refine ⟨?_,rfl⟩
  have e:decide ((([]:LBBe).length+l.length)*32≤MAXB)=true:=decide_eq_true (by simp [MAXB];omega)
  rw [e];rfl
 | false =>
  have f1:((1:Nat)==0)=false:=rfl
  have f2:((1:Nat)==1)=true:=rfl
  have f3:((0:Nat)==0)=true:=rfl
  simp only [cond_false,f1,f2,f3,e1,E0D,hc,Int.toNat_natCast,Bool.true_and,Int.toNat_zero,List.drop_zero,List.take_length]
  refine ⟨?_,by rw [List.append_assoc];rfl⟩
  simp only [Bool.and_eq_true,decide_eq_true_eq,MAXB,List.length_nil,List.length_take,List.length_append,List.length_cons,List.length_drop]
  refine ⟨decide_eq_true (by omega),?_,?_,?_,?_,?_⟩<;>omega
theorem E0d (l:LBBe) (k:ByteArray) (hl:l.length≤1099511627776):A8j l k=true∧D22 l k=C9U l k:=by
 have h:A82 l k 0 []=(0,C9U l k):=by
  refine F05 (fun v:B1H=>∃ i:Nat,v=(l,k,(i:Int),(l.take i).filter (fun p=>!isK k p))∧i≤l.length) (fun v=>(0,v.2.2.2++(l.drop v.2.2.1.toNat).filter (fun p=>!isK k p))) (fun v=>l.length - v.2.2.1.toNat) (fun v hv=>?_) ⟨0,rfl,by omega⟩ (by simp;omega)
  obtain ⟨i,rfl,hi⟩:=hv
  by_cases hlt:i<l.length
  ·left
   have h1:decide ((i:Int)<(l.length:Int))=true:=decide_eq_true (by omega)
   have h2:decide (0≤(i:Int)∧(i:Int)<(l.length:Int))=true:=decide_eq_true (by omega)
   have hfl:=List.length_filter_le (fun p=>!isK k p) (l.take i)
   rw [List.length_take] at hfl
   have h3:∀ x:ByteArray×ByteArray,decide ((((l.take i).filter (fun p=>!isK k p)).length+[x].length)*32≤MAXB)=true:=fun x=>decide_eq_true (by simp only [MAXB,List.length_singleton];omega)
   have hd:l.drop i=l.getD i dP::l.drop (i+1):=by rw [List.drop_eq_getElem_cons hlt];simp [List.getD_eq_getElem?_getD,hlt]
   have ht:l.take (i+1)=l.take i++[l.getD i dP]:=D5 hlt dP
   refine ⟨(l,k,((i+1:Nat):Int),(l.take (i+1)).filter (fun p=>!isK k p)),?_,⟨i+1,rfl,by omega⟩,?_,by simp only [Int.toNat_natCast];omega⟩
   ·simp only [B2W,h1,h2,h3,cond_true,Int.toNat_natCast,K6 i (by omega),A53,ht,List.filter_append,List.filter_cons,List.filter_nil]
    show cond (!isK k (l.getD i dP)) _ _=_
    cases isK k (l.getD i dP)<;>simp
   ·simp only [Int.toNat_natCast,ht,hd,List.filter_append,List.filter_cons,List.filter_nil]
    cases isK k (l.getD i dP)<;>simp
  ·right
   obtain rfl:i=l.length:=by omega
   have h1:decide ((l.length:Int)<(l.length:Int))=false:=decide_eq_false (by omega)
   simp only [B2W,h1,cond_false,Int.toNat_natCast,List.drop_length,List.filter_nil,List.append_nil]
 exact ⟨by simp only [A8j,h];rfl,by simp only [D22,h]⟩
theorem D0W (m:LBBe) (l:Lq2) (hm:m.length≤1000000000) (hl:l.length≤1000000000):A9g m l=true∧B8Z m l=l.foldl B8E m:=by
 have h:B10 l 0 m=(0,l.foldl B8E m):=by
  refine E2j (ss:=fun v:B0C=>B1w v.1 v.2.1 v.2.2) (fa:=A3o) (fun i b=>((l,(i:Int),b):B0C)) l dOp B8E (fun b=>((0,b):B0D)) (fun i b=>b.length≤m.length+i) (by omega) (fun i b hi hb=>⟨?_,by have:=D3D b (l.getD i dOp);omega⟩) (fun b hb=>?_) (by simp)
  ·have h1:decide ((i:Int)<(l.length:Int))=true:=decide_eq_true (by omega)
   have h2:decide (0≤(i:Int)∧(i:Int)<(l.length:Int))=true:=decide_eq_true (by omega)
   have e:l.getD i ((0:Int),((⟨#[]⟩:ByteArray),(⟨#[]⟩:ByteArray)))=l.getD i dOp:=rfl
   obtain ⟨p1,p2⟩:=E0n b (l.getD i dOp).2.1 (l.getD i dOp).2.2 (by omega)
   obtain ⟨d1,d2⟩:=E0d b (l.getD i dOp).2.1 (by omega)
   simp only [B1w,h1,h2,cond_true,Int.toNat_natCast,K6 i (by omega),e,C4z,C4b,p1,p2,d1,d2,B8E]
   cases (l.getD i dOp).1==1<;>cases (l.getD i dOp).1==2<;>rfl
  ·have h1:decide ((l.length:Int)<(l.length:Int))=false:=decide_eq_false (by omega)
   simp only [B1w,h1,cond_false]
 have hq:decide ((([]:LBBe).length+m.length)*32≤MAXB)=true:=decide_eq_true (by simp [MAXB];omega)
 simp only [A9g,B8Z,List.nil_append,h,hq]
 exact ⟨rfl,trivial⟩
theorem D3V (r:H6) (m:List A1B) (held:List H6) (seen:List Int) (hr:L1 r.2.2=true) (hm:m.length≤1000) (hh:held.length≤1048576) (ho:∀ x∈held,L1 x.2.2=true) (hs:seen.length≤1048576) :
  A2x r.1 r.2.1 r.2.2 m held seen=true∧(match A42 (decide (r.2.1∈seen)) m held r with
   | none=>(A93 r.1 r.2.1 r.2.2 m held seen).1=false
   | some (m', h')=>∃ s', A93 r.1 r.2.1 r.2.2 m held seen=(true,m', h', s')∧(s'=seen++[r.2.1]∨s'=seen∧held.any (D3 r.2.1)=true)):=by
 have a1:=(B3L held r.2.1 (by omega)).1
 have a2:=D3a held r.2.1 (by omega)
 have hl:=L4 hr
 obtain ⟨b1,b2⟩:=B4l hs r.2.1
 obtain ⟨c1,c2⟩:=D1E held r.2.2 (by omega) (fun x hx=>L4 (ho x hx)) hl
 obtain ⟨d1,d2⟩:=D1A m r.2.2 (by omega) hl
 have f1:decide ((held.length+[(r.1,(r.2.1,r.2.2))].length)*40≤MAXB)=true:=decide_eq_true (by simp only [List.length_singleton,MAXB];omega)
 have f2:decide ((seen.length+[r.2.1].length)*8≤MAXB)=true:=decide_eq_true (by simp only [List.length_singleton,MAXB];omega)
 have f3:N5 r.1 r.2.1 r.2.2=true:=decide_eq_true (by simp only [List.length_nil,MAXB];omega)
 have f4:U6 r.1 r.2.1 r.2.2=(r.1,r.2.1,r.2.2):=rfl
 have g0:B1h r.1 r.2.1 r.2.2=true:=hr
 simp only [A2x,A93,A42,a1,a2,b1,b2,c1,c2,d1,d2,f2,f3,f4,g0,Bool.true_and,Bool.and_true]
 cases hok:A2I r.1 r.2.1 r.2.2 with
 | false=>exact ⟨rfl,rfl⟩
 | true =>
  simp only [Bool.not_true,cond_false]
  cases hk:(r.1==1) with
  | true =>
   have hk1:r.1=1:=by simpa using hk
   simp only [cond_true]
   cases decide (r.2.1∈seen) with
   | true=>exact ⟨rfl,rfl⟩
   | false =>
    cases A2R held r.2.2 with
    | true=>exact ⟨rfl,rfl⟩
    | false =>
     cases A8r m r.2.2 with
     | false=>exact ⟨rfl,rfl⟩
     | true=>exact ⟨f1,_,by rw [hk1];rfl,.inl rfl⟩
  | false =>
   simp only [cond_false]
   cases ha:held.any (D3 r.2.1) with
   | false =>
    simp only [Bool.not_false,cond_true]
    cases (r.1==3) with
    | false=>exact ⟨rfl,rfl⟩
    | true=>cases decide (r.2.1∈seen) with
     | true=>exact ⟨rfl,rfl⟩
     | false=>exact ⟨rfl,_,rfl,.inl rfl⟩
   | true =>
    have hlt:=List.findIdx_lt_length.2 (List.any_eq_true.1 ha)
    have e1:A72 held r.2.1=((held.findIdx (D3 r.2.1):Nat):Int):=by rw [(B3L held r.2.1 (by omega)).2,decide_eq_true hlt];rfl
    generalize hi:held.findIdx (D3 r.2.1)=i at hlt e1 ⊢
    have e2:=K6 i (by omega)
    have e3:=B7g held (i+1)
    have e4:[]++held.take i++held.drop (i+1)=held.eraseIdx i:=by rw [List.nil_append,List.eraseIdx_eq_take_drop_succ]
    have q0:decide (0≤(i:Int)∧(i:Int)<(held.length:Int))=true:=decide_eq_true (by omega)
    have q1:decide (0≤(0:Int)∧(0:Int)≤(i:Int)∧(i:Int)≤(held.length:Int))=true:=decide_eq_true (by omega)
    have q2:decide (0≤((i+1:Nat):Int)∧((i+1:Nat):Int)≤(held.length:Int)∧(held.length:Int)≤(held.length:Int))=true:=decide_eq_true (by omega)
    have q3:decide ((([]:List H6).length+(held.take i).length)*40≤MAXB)=true:=decide_eq_true (by simp only [List.length_nil,List.length_take,MAXB];omega)
    have q4:decide ((([]++held.take i).length+(held.drop (i+1)).length)*40≤MAXB)=true:=decide_eq_true (by simp only [List.nil_append,List.length_drop,List.length_take,MAXB];omega)
    obtain ⟨s1,s2⟩:=D0W m (held.getD i B9).2.2 (by omega) (by have:=L4 (ho _ (I7 hlt B9));omega)
    simp only [Bool.not_true,cond_false,e1,e2,Int.toNat_natCast,e3,e4,q0,q1,q2,q3,q4,A2O,s1,s2,Bool.true_and,Bool.and_true]
    cases (r.1==2) with
    | true =>
     simp only [cond_true]
     refine ⟨trivial,?_⟩
     cases decide (((((held.getD i B9).2.2.foldl B8E m).length:Nat):Int)≤60) with
     | true=>exact ⟨_,rfl,.inr ⟨rfl,trivial⟩⟩
     | false=>rfl
    | false =>
     simp only [cond_false]
     refine ⟨trivial,?_⟩
     cases decide ((m.length:Int)≤60) with
     | true=>exact ⟨_,rfl,.inr ⟨rfl,trivial⟩⟩
     | false=>rfl
theorem D7G {l:List H6} {i:Nat} (h:A0D l i=none):∀ k,A0D l (i+k)=none:=by
 intro k
 induction k with
 | zero=>exact h
 | succ k ih=>rw [Nat.add_succ];simp only [A0D,ih,Option.bind_none]
theorem D3e {l:List H6} {i:Nat} (hi:i<l.length) {m:List A1B} {held:List H6} (hp:A0D l i=some (m,held)) (hs:A42 ((l.take i).any (D3 (l.getD i B9).2.1)) m held (l.getD i B9)=none):A0D l l.length=none:=by
 have h1:A0D l (i+1)=none:=by simp only [A0D,hp,Option.bind_some];exact hs
 have:=D7G h1 (l.length - (i+1))
 rwa [show i+1+(l.length - (i+1))=l.length by omega] at this
theorem E11 (l:List H6) (hl:l.length≤1048576) (hr:∀ x∈l,L1 x.2.2=true):((P9 l).1=0∧(P9 l).2.1=false∧(P9 l).2.2.1=[]∧(P9 l).2.2.2.1=[]∧A0D l l.length=none)∨((P9 l).1=1∧A0D l l.length=some ((P9 l).2.2.2.2.1,(P9 l).2.2.2.2.2.1)):=by
 refine A0n (ss:=fun v:A38=>A2Z v.1 v.2.1 v.2.2.1 v.2.2.2.1 v.2.2.2.2) (fa:=A51)
  (fun v=>∃ (i:Nat) (m:List A1B) (held:List H6) (seen:List Int),v=(l,(i:Int),m,held,seen)∧i≤l.length∧A0D l i=some (m,held)∧seen.length≤i∧∀ t,t∈seen↔(l.take i).any (D3 t)=true)
  (fun a:A2c=>(a.1=0∧a.2.1=false∧a.2.2.1=[]∧a.2.2.2.1=[]∧A0D l l.length=none)∨(a.1=1∧A0D l l.length=some (a.2.2.2.2.1,a.2.2.2.2.2.1))) (fun v=>l.length - v.2.1.toNat) ?_ ⟨0,[],[],[],rfl,Nat.zero_le _,rfl,by simp,by simp⟩ (by simp;omega)
 rintro v ⟨i,m,held,seen,rfl,hi,hp,hs,hse⟩
 by_cases hlt:i<l.length
 ·have e1:decide ((i:Int)<(l.length:Int))=true:=decide_eq_true (by omega)
  have e2:decide (0≤(i:Int)∧(i:Int)<(l.length:Int))=true:=decide_eq_true (by omega)
  have I:=D3v hr i hi m held hp
  have o:=D3V (l.getD i B9) m held seen (hr _ (I7 hlt B9)) (by have:=I.hml;omega) (by have:=I.hlen;omega) (fun x hx=>(I.hmem x hx).1) (by omega)
  have hkn:decide ((l.getD i B9).2.1∈seen)=(l.take i).any (D3 (l.getD i B9).2.1):=by
   cases hc:(l.take i).any (D3 (l.getD i B9).2.1) with
   | true=>exact decide_eq_true ((hse _).2 hc)
   | false=>exact decide_eq_false (fun h=>by rw [(hse _).1 h] at hc;cases hc)
  rw [hkn] at o
  obtain ⟨o1,o2⟩:=o
  simp only [A2Z,A9s,e1,e2,cond_true,Int.toNat_natCast,A2O,o1,K6 i (by omega)]
  cases hst:A42 ((l.take i).any (D3 (l.getD i B9).2.1)) m held (l.getD i B9) with
  | none =>
   rw [hst] at o2
   simp only [o2,Bool.not_false,cond_true]
   exact .inr ⟨_,rfl,.inl ⟨rfl,rfl,rfl,rfl,D3e hlt hp hst⟩⟩
  | some s =>
   obtain ⟨m', h'⟩:=s
   rw [hst] at o2
   obtain ⟨s', o3,o4⟩:=o2
   simp only [o3,Bool.not_true,cond_false]
   refine .inl ⟨_,rfl,⟨i+1,m', h', s', rfl,by omega,by simp only [A0D,hp,Option.bind_some];exact hst,?_,fun t=>?_⟩,by simp only [Int.toNat_natCast];omega⟩
   ·rcases o4 with rfl | ⟨rfl,_⟩
    ·rw [List.length_append];simp;omega
    ·omega
   ·rw [D5 hlt B9,List.any_append,Bool.or_eq_true]
    have hone:([l.getD i B9].any (D3 t)=true)↔(l.getD i B9).2.1=t:=by simp [D3]
    rw [hone]
    rcases o4 with rfl | ⟨rfl,hany⟩
    ·rw [List.mem_append,hse t,List.mem_singleton]
     exact or_congr Iff.rfl eq_comm
    ·rw [hse t]
     refine ⟨.inl,?_⟩
     rintro (h | h)
     ·exact h
     ·subst h
      obtain ⟨x,hx1,hx2⟩:=List.any_eq_true.1 hany
      have:=(I.hmem x hx1).2
      rw [show x.2.1=(l.getD i B9).2.1 from beq_iff_eq.1 hx2] at this
      exact this
 ·obtain rfl:i=l.length:=by omega
  have e1:decide ((l.length:Int)<(l.length:Int))=false:=decide_eq_false (by omega)
  simp only [A2Z,e1,cond_false]
  exact .inr ⟨_,rfl,.inr ⟨rfl,hp⟩⟩
theorem D0J (l:List H6) (hl:l.length≤1048576) (hr:∀ x∈l,L1 x.2.2=true):M8 l=true∧T3 l=((O1 l).2.2,(O1 l).1,(O1 l).2.1):=by
 simp only [M8,T3,O1]
 rcases E11 l hl hr with ⟨h1,h2,h3,h4,h5⟩ | ⟨h1,h2⟩
 ·rw [h1,h2,h3,h4,h5];exact ⟨rfl,rfl⟩
 ·rw [h1,h2];exact ⟨rfl,rfl⟩
theorem D0s {l:List H6} (h:A02 l):(O1 l).1.length≤60∧(O1 l).2.1.length≤l.length∧∀ x∈(O1 l).2.1,x.2.2.length≤1048576:=by
 simp only [O1]
 cases hp:A0D l l.length with
 | none=>exact ⟨by simp,by simp,fun x hx=>by simp at hx⟩
 | some s =>
  have I:=D3v (A1O h) l.length (Nat.le_refl _) s.1 s.2 (by rw [hp])
  exact ⟨I.hml,I.hlen,fun x hx=>L4 (I.hmem x hx).1⟩
noncomputable def B0u {α:Type} (q:α→α→Bool) (a b:List α):Bool:=(a.zip b).all fun p=>q p.1 p.2
noncomputable def A1s {α:Type} (q:α→α→Bool) (a b:List α):Bool:=cond ((a.length:Int) != (b.length:Int)) false (B0u q a b)
noncomputable def qP (x y:ByteArray×ByteArray):Bool:=(x.1.toList==y.1.toList)&&((x.2.toList==y.2.toList)&&true)
theorem E8s {α:Type} (a b:List α) (d:α) {i:Nat} (ha:i<a.length) (hb:i<b.length):(a.zip b).getD i (d,d)=(a.getD i d,b.getD i d):=by
 have hz:i<(a.zip b).length:=by rw [List.length_zip];omega
 simp only [List.getD_eq_getElem?_getD,List.getElem?_eq_getElem hz,List.getElem?_eq_getElem ha,List.getElem?_eq_getElem hb,Option.getD_some,List.getElem_zip]
theorem B3y {V A α:Type} {ss:V→V ⊕ A} {fa:A} (pk:Nat→V) (a b:List α) (d:α) (q:α→α→Bool) (bad last:A) (hab:a.length=b.length) (hn:a.length<4611686018427387904)
  (h:∀ i,i<a.length→ss (pk i)=cond (q (a.getD i d) (b.getD i d)) (.inl (pk (i+1))) (.inr bad)) (hl:ss (pk a.length)=.inr last):itX ss fa (pk 0)=cond (B0u q a b) last bad:=by
 have hz:(a.zip b).length=a.length:=by rw [List.length_zip];omega
 rw [B3v pk (a.zip b) (d,d) (fun p=>!(q p.1 p.2)) bad last (by omega) (fun i hi=>by
  rw [hz] at hi
  rw [h i hi,E8s a b d hi (by omega)]
  cases q (a.getD i d) (b.getD i d)<;>rfl) (by rw [hz];exact hl)]
 have:(a.zip b).any (fun p=>!(q p.1 p.2))=!(B0u q a b):=by
  simp only [B0u,List.all_eq_not_any_not,Bool.not_not]
 rw [this]
 cases B0u q a b<;>rfl
theorem B4j {α:Type} {a b:List α} (h:a.length=b.length):((a.length:Int) != (b.length:Int))=false:=by
 rw [h];simp
theorem B6Q {α:Type} {a b:List α} (h:¬ a.length=b.length):((a.length:Int) != (b.length:Int))=true:=by
 simp only [bne_iff_ne,ne_eq];omega
theorem D3s (a b:List A1B) (hl:a.length≤1099511627776):A1W a b=true∧A6a a b=A1s qP a b:=by
 simp only [A1W,A6a,A1s]
 by_cases hab:a.length=b.length
 ·have e : A2w a b 0 = cond (B0u qP a b) (1, false) (0, false) := by
   refine B3y (ss:=fun v:A1F=>A2m v.1 v.2.1 v.2.2) (fa:=A4U) (fun i=>((a,b,(i:Int)):A1F)) a b dP qP _ _ hab (by omega) (fun i hi=>?_) ?_
   ·have h1:decide ((i:Int)<(a.length:Int))=true:=decide_eq_true (by omega)
    have h2:decide (0≤(i:Int)∧(i:Int)<(a.length:Int))=true:=decide_eq_true (by omega)
    have h3:decide (0≤(i:Int)∧(i:Int)<(b.length:Int))=true:=decide_eq_true (by omega)
    simp only [A2m,h1,h2,h3,cond_true,Int.toNat_natCast,K6 i (by omega),A53,qP]
    generalize ((a.getD i dP).1.toList==(b.getD i dP).1.toList&&((a.getD i dP).2.toList==(b.getD i dP).2.toList&&true))=z
    cases z<;>rfl
   ·have h1:decide ((a.length:Int)<(a.length:Int))=false:=decide_eq_false (by omega)
    simp only [A2m,h1,cond_false]
  rw [B4j hab,e]
  cases B0u qP a b<;>exact ⟨rfl,rfl⟩
 ·rw [B6Q hab];exact ⟨rfl,rfl⟩
noncomputable def qO (x y:Int×ByteArray×ByteArray):Bool:=(x.1==y.1)&&((x.2.1.toList==y.2.1.toList)&&((x.2.2.toList==y.2.2.toList)&&true))
noncomputable def qR (x y:H6):Bool:=cond (x.1 != y.1) false (cond (x.2.1 != y.2.1) false (A1s qO x.2.2 y.2.2))
theorem D9C (a b:Lq2) (hl:a.length≤1099511627776):A2k a b=true∧B97 a b=A1s qO a b:=by
 simp only [A2k,B97,A1s]
 by_cases hab:a.length=b.length
 ·have e : A35 a b 0 = cond (B0u qO a b) (1, false) (0, false) := by
   refine B3y (ss:=fun v:A3a=>A4j v.1 v.2.1 v.2.2) (fa:=A7e) (fun i=>((a,b,(i:Int)):A3a)) a b dOp qO _ _ hab (by omega) (fun i hi=>?_) ?_
   ·have h1:decide ((i:Int)<(a.length:Int))=true:=decide_eq_true (by omega)
    have h2:decide (0≤(i:Int)∧(i:Int)<(a.length:Int))=true:=decide_eq_true (by omega)
    have h3:decide (0≤(i:Int)∧(i:Int)<(b.length:Int))=true:=decide_eq_true (by omega)
    simp only [A4j,h1,h2,h3,cond_true,Int.toNat_natCast,K6 i (by omega),B56,qO]
    generalize ((a.getD i dOp).1==(b.getD i dOp).1&&((a.getD i dOp).2.1.toList==(b.getD i dOp).2.1.toList&&((a.getD i dOp).2.2.toList==(b.getD i dOp).2.2.toList&&true)))=z
    cases z<;>rfl
   ·have h1:decide ((a.length:Int)<(a.length:Int))=false:=decide_eq_false (by omega)
    simp only [A4j,h1,cond_false]
  rw [B4j hab,e]
  cases B0u qO a b<;>exact ⟨rfl,rfl⟩
 ·rw [B6Q hab];exact ⟨rfl,rfl⟩
theorem D56 (a b:List H6) (hl:a.length≤1099511627776) (ho:∀ x∈a,x.2.2.length≤1048576):A2L a b=true∧B1M a b=A1s qR a b:=by
 simp only [A2L,B1M,A1s]
 by_cases hab:a.length=b.length
 ·have e : A26 a b 0 = cond (B0u qR a b) (1, false) (0, false) := by
   refine B3y (ss:=fun v:A19=>A2W v.1 v.2.1 v.2.2) (fa:=Q7) (fun i=>((a,b,(i:Int)):A19)) a b B9 qR _ _ hab (by omega) (fun i hi=>?_) ?_
   ·have h1:decide ((i:Int)<(a.length:Int))=true:=decide_eq_true (by omega)
    have h2:decide (0≤(i:Int)∧(i:Int)<(a.length:Int))=true:=decide_eq_true (by omega)
    have h3:decide (0≤(i:Int)∧(i:Int)<(b.length:Int))=true:=decide_eq_true (by omega)
    obtain ⟨o1,o2⟩:=D9C (a.getD i B9).2.2 (b.getD i B9).2.2 (by have:=ho _ (I7 hi B9);omega)
    simp only [A2W,A9I,h1,h2,h3,cond_true,Int.toNat_natCast,K6 i (by omega),A2O,o1,o2,qR]
    cases ((a.getD i B9).1 != (b.getD i B9).1)<;>cases ((a.getD i B9).2.1 != (b.getD i B9).2.1)<;>cases A1s qO (a.getD i B9).2.2 (b.getD i B9).2.2<;>rfl
   ·have h1:decide ((a.length:Int)<(a.length:Int))=false:=decide_eq_false (by omega)
    simp only [A2W,h1,cond_false]
  rw [B4j hab,e]
  cases B0u qR a b<;>exact ⟨rfl,rfl⟩
 ·rw [B6Q hab];exact ⟨rfl,rfl⟩
theorem E3Y (z p q:Int):C0 z p q=decide (p≤z∧z≤q):=by
 by_cases h1:p≤z
 ·by_cases h2:z≤q
  ·rw [decide_eq_true (And.intro h1 h2)];simp [C0,h1,h2]
  ·rw [decide_eq_false (fun h=>h2 h.2)];simp [C0,h1,h2]
 ·rw [decide_eq_false (fun h=>h1 h.1)];simp [C0,h1]
theorem E9y {α:Type} (q:α→α→Bool) (hq:∀ x y,q x y=true→x=y):∀ (a b:List α),a.length=b.length→B0u q a b=true→a=b:=by
 intro a
 induction a with
 | nil=>intro b h _;cases b with
  | nil=>rfl
  | cons y b=>simp at h
 | cons x a ih=>intro b h hz;cases b with
  | nil=>simp at h
  | cons y b =>
   simp only [B0u,List.zip_cons_cons,List.all_cons,Bool.and_eq_true] at hz
   rw [hq x y hz.1,ih b (by simpa using h) hz.2]
theorem D3A {α:Type} (q:α→α→Bool) (hq:∀ x y,q x y=true→x=y) {a b:List α} (h:A1s q a b=true):a=b:=by
 by_cases hl:a.length=b.length
 ·simp only [A1s,B4j hl,cond_false] at h
  exact E9y q hq a b hl h
 ·simp only [A1s,B6Q hl,cond_true] at h;cases h
theorem E7m (x y:A1B):qP x y=true↔x=y:=by
 simp only [qP,D48,Bool.and_true,Bool.and_eq_true,decide_eq_true_eq]
 exact ⟨fun h=>Prod.ext h.1 h.2,fun h=>by rw [h];exact ⟨rfl,rfl⟩⟩
theorem E6c {α:Type} (q:α→α→Bool):∀ (a:List α),(∀ x∈a,q x x=true)→B0u q a a=true:=by
 intro a
 induction a with
 | nil=>intro _;rfl
 | cons x a ih =>
  intro h
  simp only [B0u,List.zip_cons_cons,List.all_cons,Bool.and_eq_true]
  exact ⟨h x (by simp),ih (fun y hy=>h y (by simp [hy]))⟩
theorem C6F {α:Type} (q:α→α→Bool) {a:List α} (h:∀ x∈a,q x x=true):A1s q a a=true:=by
 simp only [A1s,B4j (a:=a) (b:=a) rfl,cond_false]
 exact E6c q a h
theorem B7p (a b:List A1B):A1s qP a b=true↔a=b :=
 ⟨D3A qP (fun x y h=>(E7m x y).1 h),fun h=>by rw [h];exact C6F qP (fun x _=>(E7m x x).2 rfl)⟩
theorem E8e (x y:Int×ByteArray×ByteArray):qO x y=true↔x=y:=by
 simp only [qO,D48,Bool.and_true,Bool.and_eq_true,decide_eq_true_eq,beq_iff_eq]
 exact ⟨fun h=>Prod.ext h.1 (Prod.ext h.2.1 h.2.2),fun h=>by rw [h];exact ⟨rfl,rfl,rfl⟩⟩
theorem D8g (a b:Lq2):A1s qO a b=true↔a=b :=
 ⟨D3A qO (fun x y h=>(E8e x y).1 h),fun h=>by rw [h];exact C6F qO (fun x _=>(E8e x x).2 rfl)⟩
theorem E8M (x y:H6):qR x y=true↔x=y:=by
 simp only [qR,bne]
 constructor
 ·intro h
  cases h1:(x.1==y.1) with
  | false=>rw [h1] at h;simp at h
  | true =>
   rw [h1] at h
   cases h2:(x.2.1==y.2.1) with
   | false=>rw [h2] at h;simp at h
   | true =>
    rw [h2] at h
    exact Prod.ext (beq_iff_eq.1 h1) (Prod.ext (beq_iff_eq.1 h2) ((D8g _ _).1 h))
 ·rintro rfl
  rw [beq_self_eq_true,beq_self_eq_true]
  exact (D8g _ _).2 rfl
theorem C4I (a b:List H6):A1s qR a b=true↔a=b :=
 ⟨D3A qR (fun x y h=>(E8M x y).1 h),fun h=>by rw [h];exact C6F qR (fun x _=>(E8M x x).2 rfl)⟩
theorem D8w {x:D8} (h1:A02 x.2.1) (hl3:x.2.2.2.1.length≤1048576) (hl4:x.2.2.2.2.length≤1048576):A1Y x.1 x.2.1 x.2.2.1 x.2.2.2.1 x.2.2.2.2=true∧(A6T x.1 x.2.1 x.2.2.1 x.2.2.2.1 x.2.2.2.2=true↔B0E x):=by
 obtain ⟨i1,i2⟩:=D0J x.2.1 h1.1 (A1O h1)
 obtain ⟨r1,r2,r3⟩:=D0s h1
 have hl1:=h1.1
 obtain ⟨b1,b2⟩:=D3s (O1 x.2.1).1 x.2.2.2.1 (by omega)
 obtain ⟨d1,d2⟩:=D56 (O1 x.2.1).2.1 x.2.2.2.2 (by omega) r3
 have w1:=I5 (n:=(x.2.1.length:Int)+(((O1 x.2.1).2.1.length:Nat):Int)) (by omega) (by omega)
 simp only [A1Y,A6T,i1,i2,b1,b2,d1,d2,w1,E3Y,B0E,Bool.true_and]
 refine ⟨?_,?_⟩
 ·cases (!decide (0≤x.1∧x.1≤7))<;>cases decide ((x.2.1.length:Int) > 300)<;>cases (!decide (0≤x.2.2.1∧x.2.2.1≤(x.2.1.length:Int)))<;>cases (O1 x.2.1).2.2<;>cases A1s qP (O1 x.2.1).1 x.2.2.2.1<;>rfl
 by_cases g1:0≤x.1∧x.1≤7
 ·rw [decide_eq_true g1]
  by_cases g0:(x.2.1.length:Int) > 300
  ·rw [decide_eq_true g0]
   exact ⟨fun h=>absurd h (by simp),fun h=>absurd h.2.2.1 (by omega)⟩
  ·rw [decide_eq_false g0]
   by_cases g2:0≤x.2.2.1∧x.2.2.1≤(x.2.1.length:Int)
   ·rw [decide_eq_true g2]
    simp only [Bool.not_true,cond_false]
    cases hp:A0D x.2.1 x.2.1.length with
    | none =>
     have hr:O1 x.2.1=([],[],false):=by simp only [O1,hp]
     simp only [hr]
     exact ⟨fun h=>absurd h (by simp),fun h=>absurd h.2.2.2 (by simp)⟩
    | some s =>
     have hr:O1 x.2.1=(s.1,s.2,true):=by simp only [O1,hp]
     simp only [hr]
     simp only [cond_true]
     cases hP:A1s qP s.1 x.2.2.2.1 with
     | false =>
      refine ⟨fun h=>absurd h (by simp),fun h=>?_⟩
      have e:=Option.some.inj h.2.2.2
      rw [e,(B7p _ _).2 rfl] at hP;cases hP
     | true =>
      simp only [cond_true]
      have e1:=(B7p _ _).1 hP
      cases hR:A1s qR s.2 x.2.2.2.2 with
      | false =>
       refine ⟨fun h=>absurd h (by simp),fun h=>?_⟩
       have e:=Option.some.inj h.2.2.2
       rw [e,(C4I _ _).2 rfl] at hR;cases hR
      | true =>
       have e2:=(C4I _ _).1 hR
       simp only [cond_true,decide_eq_true_eq]
       rw [e2]
       exact ⟨fun h=>⟨g1,g2,h,by rw [show s=(s.1,s.2) from rfl,e1,e2]⟩,fun h=>h.2.2.1⟩
   ·rw [decide_eq_false g2]
    exact ⟨fun h=>absurd h (by simp),fun h=>absurd h.2.1 g2⟩
 ·rw [decide_eq_false g1]
  exact ⟨fun h=>absurd h (by simp),fun h=>absurd h.1 g1⟩
theorem E4z (s:ByteArray) (i:Nat):C2S s i=B9i s i:=by
 have hb:0≤bt s (i:Int)∧bt s (i:Int)<256:=by
  unfold bt
  split
  ·have:=UInt8.toNat_lt s[(i:Int).toNat];omega
  ·simp
 have e:=I5 (n:=bt s (i:Int)) (by omega) (by omega)
 simp only [C2S,B9i,C0,B4g,e]
 generalize bt s (i:Int)=c
 by_cases h1:c ≥ 97<;>by_cases h2:c≤122<;>by_cases h3:c ≥ 48<;>by_cases h4:c≤57<;>simp [h1,h2,h3,h4]
theorem E33 (s:ByteArray):C64 s=B7b s:=by
 have e:B1x (C2S s) (s.size - (0:Int).toNat) (0:Int).toNat=B1x (B9i s) (s.size - (0:Int).toNat) (0:Int).toNat:=D47 _ _ (fun j _ _=>E4z s j)
 simp only [C64,B7b,D2T,J0,C0,e]
 cases B1x (B9i s) (s.size - (0:Int).toNat) (0:Int).toNat<;>cases decide ((s.size:Int) ≥ 1)<;>cases decide ((s.size:Int)≤12)<;>rfl
theorem E7e (k:Int) (s v:ByteArray):D4p k s v=D3d k s v:=by
 simp only [D4p,D3d,E33,D48,C0]
 cases B7b s with
 | false =>
  by_cases h1:k=1<;>by_cases h2:k=2<;>by_cases h3:k=3<;>by_cases h4:v=⟨#[]⟩<;>by_cases h5:k ≥ 1<;>by_cases h6:k≤3<;>simp [h1,h2,h3,h4,h5,h6]<;>omega
 | true =>
  by_cases h2:k=2
  ·subst h2
   by_cases h4:v=⟨#[]⟩
   ·subst h4;simp [ByteArray.size]
   ·simp [h4]
  ·by_cases h1:k=1
   ·subst h1;simp
   ·by_cases h3:k=3
    ·subst h3;simp
    ·by_cases h5:k ≥ 1<;>by_cases h6:k≤3<;>simp [h1,h2,h3,h5,h6]<;>omega
theorem E6O (l:Lq2) (i:Nat):C7g l i=D1T l i:=by
 simp only [C7g,D1T,E7e]
 rw [← C7o,Bool.not_not]
theorem D4N (l:Lq2):Z7 l=C2l l:=by
 have e:B1x (C7g l) (l.length - (0:Int).toNat) (0:Int).toNat=B1x (D1T l) (l.length - (0:Int).toNat) (0:Int).toNat:=D47 _ _ (fun j _ _=>E6O l j)
 simp only [Z7,C2l,e]
 rfl
theorem E3P (k t:Int) (l:Lq2):A2I k t l=E0a k t l:=by
 simp only [A2I,E0a,D04,D4N]
 rw [show J0 t 1 1000000=C0 t 1 1000000 from rfl]
 cases C0 t 1 1000000<;>simp
theorem B9b (l:List H6) (t:Int) (hl:l.length≤1099511627776):A0z l t=true∧A10 l t=cond (decide (l.reverse.findIdx (D3 t)<l.length)) ((l.length:Int) - 1 - ((l.reverse.findIdx (D3 t):Nat):Int)) (-1):=by
 have e0:=I5 (n:=(l.length:Int) - 1) (by omega) (by omega)
 have e:A8c l t ((l.length:Int) - 1)=cond (decide (l.reverse.findIdx (D3 t)<l.reverse.length)) (0,(l.length:Int) - 1 - ((l.reverse.findIdx (D3 t):Nat):Int)) (1,0):=by
  have:=A8O (ss:=fun v:A7y=>A8d v.1 v.2.1 v.2.2) (fa:=B57) (fun i=>((l,t,(l.length:Int) - 1 - (i:Int)):A7y)) l.reverse B9 (D3 t) (fun i=>((0,(l.length:Int) - 1 - (i:Int)):B0b)) (1,0) (by rw [List.length_reverse];omega) (fun i hi=>by
   rw [List.length_reverse] at hi
   have h1:decide ((l.length:Int) - 1 - (i:Int) ≥ 0)=true:=decide_eq_true (by omega)
   have h2:decide (0≤(l.length:Int) - 1 - (i:Int)∧(l.length:Int) - 1 - (i:Int)<(l.length:Int))=true:=decide_eq_true (by omega)
   have h3:((l.length:Int) - 1 - (i:Int)).toNat=l.length - 1 - i:=by omega
   have h4:l.reverse.getD i B9=l.getD (l.length - 1 - i) B9:=by
    simp only [List.getD_eq_getElem?_getD]
    rw [List.getElem?_reverse hi]
   have h6:(l.length:Int) - 1 - (i:Int) - 1=(l.length:Int) - 1 - ((i+1:Nat):Int):=by omega
   have h5:=I5 (n:=(l.length:Int) - 1 - ((i+1:Nat):Int)) (by omega) (by omega)
   simp only [A8d,h1,h2,cond_true,h3,h5,A2O,h4,D3,h6]) (by
   rw [List.length_reverse]
   have h1:decide ((l.length:Int) - 1 - (l.length:Int) ≥ 0)=false:=decide_eq_false (by omega)
   simp only [A8d,h1,cond_false])
  have e2:A8c l t ((l.length:Int) - 1)=itX (fun v:A7y=>A8d v.1 v.2.1 v.2.2) B57 (l,t,(l.length:Int) - 1 - ((0:Nat):Int)):=by
   rw [show (l.length:Int) - 1 - ((0:Nat):Int)=(l.length:Int) - 1 by omega];rfl
  exact e2.trans this
 rw [List.length_reverse] at e
 simp only [A0z,A10,e0,e]
 cases decide (l.reverse.findIdx (D3 t)<l.length)<;>exact ⟨rfl,rfl⟩
theorem D7U (l:List H6) (t:Int) (hl:l.length≤1099511627776):decide (A10 l t<0)=!(l.any (D3 t))∧decide (A10 l t ≥ 0)=l.any (D3 t):=by
 rw [(B9b l t hl).2]
 cases ha:l.any (D3 t) with
 | true =>
  have:l.reverse.findIdx (D3 t)<l.length:=by
   rw [← List.length_reverse]
   refine List.findIdx_lt_length.2 ?_
   obtain ⟨x,hx,hp⟩:=List.any_eq_true.1 ha
   exact ⟨x,List.mem_reverse.2 hx,hp⟩
  rw [decide_eq_true this]
  exact ⟨decide_eq_false (by simp only [cond_true];omega),decide_eq_true (by simp only [cond_true];omega)⟩
 | false =>
  have:¬ l.reverse.findIdx (D3 t)<l.length:=by
   intro hc
   rw [← List.length_reverse] at hc
   obtain ⟨x,hx,hp⟩:=List.findIdx_lt_length.1 hc
   rw [List.any_eq_true.2 ⟨x,List.mem_reverse.1 hx,hp⟩] at ha
   cases ha
  rw [decide_eq_false this]
  exact ⟨rfl,rfl⟩
theorem E1B (a b:ByteArray):(a.toList==b.toList)=(b.toList==a.toList):=by
 rw [D48,D48];exact decide_eq_decide.2 eq_comm
theorem E98 (ops l:Lq2) (held:List H6) (n i k m:Int) (o:Int×ByteArray×ByteArray) (ho:ops.length≤1048576) :
  B18 ops held n i l m k ops (ops.length:Int) 0 o.1 o.2.1 o.2.2=cond (C6q o.2.1 ops) (0,true,[],[],0,0,[],0,0) (1,false,ops,held,n,i,l,m,k):=by
 refine B3v (ss:=fun v:A21=>A39 v.1 v.2.1 v.2.2.1 v.2.2.2.1 v.2.2.2.2.1 v.2.2.2.2.2.1 v.2.2.2.2.2.2.1 v.2.2.2.2.2.2.2.1 v.2.2.2.2.2.2.2.2.1 v.2.2.2.2.2.2.2.2.2 o.1 o.2.1 o.2.2) (fa:=B2i) (fun j=>((ops,held,n,i,l,m,k,ops,(ops.length:Int),(j:Int)):A21)) ops dOp (fun x=>o.2.1.toList==x.2.1.toList) _ _ (by omega) (fun j hj=>?_) ?_
 ·have h1:decide ((j:Int)<(ops.length:Int))=true:=decide_eq_true (by omega)
  have h4:decide (0≤(j:Int)∧(j:Int)<(ops.length:Int))=true:=decide_eq_true (by omega)
  simp only [A39,B56,Int.toNat_natCast,h1,h4,cond_true,K6 j (by omega),E1B _ o.2.1]
 ·have h1:decide ((ops.length:Int)<(ops.length:Int))=false:=decide_eq_false (by omega)
  simp only [A39,h1,cond_false]
theorem E8p (ops l:Lq2) (held:List H6) (n i:Int) (hl:l.length≤1048576) (ho:ops.length≤1048576) :
  B2K ops held n i l (l.length:Int) 0=cond (B9x l ops) (0,true,[],[],0,0) (1,false,ops,held,n,i):=by
 refine B3v (ss:=fun v:A2Y=>A4i v.1 v.2.1 v.2.2.1 v.2.2.2.1 v.2.2.2.2.1 v.2.2.2.2.2.1 v.2.2.2.2.2.2) (fa:=A7m) (fun k=>((ops,held,n,i,l,(l.length:Int),(k:Int)):A2Y)) l dOp (fun o=>C6q o.2.1 ops) _ _ (by omega) (fun k hk=>?_) ?_
 ·have h1:decide ((k:Int)<(l.length:Int))=true:=decide_eq_true (by omega)
  have h2:decide (0≤(k:Int)∧(k:Int)<(l.length:Int))=true:=decide_eq_true (by omega)
  simp only [A4i,B0R,B56,Int.toNat_natCast,h1,h2,cond_true,E98 ops l held n i (k:Int) (l.length:Int) (l.getD k dOp) ho]
  cases C6q (l.getD k dOp).2.1 ops
  ·simp only [cond_false,K6 k (by omega)];rfl
  ·rfl
 ·have h1:decide ((l.length:Int)<(l.length:Int))=false:=decide_eq_false (by omega)
  simp only [A4i,h1,cond_false]
theorem D8n (held:List H6) (ops:Lq2) (hl:held.length≤1099511627776) (hh:∀ r∈held,r.2.2.length≤1048576) (ho:ops.length≤1048576):X6 held ops=true∧A09 held ops=A2R held ops:=by
 have e:A3Z ops held (held.length:Int) 0=cond (A2R held ops) (0,true) (1,false):=by
  refine B3v (ss:=fun v:A28=>A4l v.1 v.2.1 v.2.2.1 v.2.2.2) (fa:=A7o) (fun i=>((ops,held,(held.length:Int),(i:Int)):A28)) held B9 (fun r=>B9x r.2.2 ops) _ _ (by omega) (fun i hi=>?_) ?_
  ·have h1:decide ((i:Int)<(held.length:Int))=true:=decide_eq_true (by omega)
   have h2:decide (0≤(i:Int)∧(i:Int)<(held.length:Int))=true:=decide_eq_true (by omega)
   simp only [A4l,B0I,A2O,Int.toNat_natCast,h1,h2,cond_true,E8p ops (held.getD i B9).2.2 held (held.length:Int) (i:Int) (hh _ (I7 hi B9)) ho]
   cases B9x (held.getD i B9).2.2 ops
   ·simp only [cond_false,K6 i (by omega)];rfl
   ·rfl
  ·have h1:decide ((held.length:Int)<(held.length:Int))=false:=decide_eq_false (by omega)
   simp only [A4l,h1,cond_false]
 simp only [X6,A09,e]
 cases A2R held ops<;>exact ⟨rfl,rfl⟩
theorem D1B (l:LBBe) (k:ByteArray) (hl:l.length≤1099511627776):A6i l k=true∧B05 l k=cond (decide (l.findIdx (isK k)<l.length)) ((l.findIdx (isK k):Nat):Int) (-1):=by
 have e:J6 l (l.length:Int) 0 k=cond (decide (l.findIdx (isK k)<l.length)) (0,((l.findIdx (isK k):Nat):Int)) (1,0):=by
  refine A8O (ss:=fun v:F6=>J5 v.1 v.2.1 v.2.2 k) (fa:=R3) (fun i=>((l,(l.length:Int),(i:Int)):F6)) l dP (isK k) (fun i=>((0,(i:Int)):F4)) _ (by omega) (fun i hi=>?_) ?_
  ·have h1:decide ((i:Int)<(l.length:Int))=true:=decide_eq_true (by omega)
   have h2:decide (0≤(i:Int)∧(i:Int)<(l.length:Int))=true:=decide_eq_true (by omega)
   simp only [J5,h1,h2,cond_true,Int.toNat_natCast,K6 i (by omega),A53,T6,D0o]
   rfl
  ·have h1:decide ((l.length:Int)<(l.length:Int))=false:=decide_eq_false (by omega)
   simp only [J5,h1,cond_false]
 simp only [A6i,B05,I4,P2,e]
 cases decide (l.findIdx (isK k)<l.length)<;>exact ⟨rfl,rfl⟩
theorem C7T (l:LBBe) (k:ByteArray) (hl:l.length≤1099511627776):A7U l k=true∧C8n l k=(match E8B l k with | some v=>(v,true) | none=>((⟨#[]⟩:ByteArray),false)):=by
 obtain ⟨p1,p2⟩:=D1B l k hl
 simp only [A7U,C8n,p1,p2,E8B,D5A (isK k) dP l,Bool.true_and]
 cases hc:decide (l.findIdx (isK k)<l.length) with
 | true =>
  have hlt:=of_decide_eq_true hc
  have g1:decide (((l.findIdx (isK k):Nat):Int)<0)=false:=decide_eq_false (by omega)
  have g2:decide (0≤((l.findIdx (isK k):Nat):Int)∧((l.findIdx (isK k):Nat):Int)<(l.length:Int))=true:=decide_eq_true (by omega)
  simp only [cond_true,g1,g2,cond_false,Int.toNat_natCast]
  exact ⟨trivial,rfl⟩
 | false=>exact ⟨rfl,rfl⟩
theorem E1q (m:LBBe) (k:ByteArray) (hm:m.length≤1099511627776):C8n m k=A9e m k:=by
 rw [(C9d m k hm).2,(C7T m k hm).2]
 all_goals (cases E8B m k<;>rfl)
theorem E2W (m:LBBe) (ops:Lq2) (hm:m.length≤1099511627776) (ho:ops.length≤1048576):A43 m ops=true∧B2b m ops=A8r m ops:=by
 have e:B1q m ops (ops.length:Int) 0=cond (ops.any (misses m)) (0,false) (1,false):=by
  refine B3v (ss:=fun v:A99=>B1W v.1 v.2.1 v.2.2.1 v.2.2.2) (fa:=B53) (fun i=>((m,ops,(ops.length:Int),(i:Int)):A99)) ops dOp (misses m) _ _ (by omega) (fun i hi=>?_) ?_
  ·have h1:decide ((i:Int)<(ops.length:Int))=true:=decide_eq_true (by omega)
   have h2:decide (0≤(i:Int)∧(i:Int)<(ops.length:Int))=true:=decide_eq_true (by omega)
   simp only [B1W,C4m,B56,Int.toNat_natCast,h1,h2,cond_true,K6 i (by omega),(C7T m _ hm).1,E1q m _ hm,misses]
   generalize ((ops.getD i dOp).1 != 3)=a
   generalize (!((A9e m (ops.getD i dOp).2.1).2==(!((ops.getD i dOp).2.2.toList==(⟨#[]⟩:ByteArray).toList))))=b
   generalize (!((A9e m (ops.getD i dOp).2.1).1.toList==(ops.getD i dOp).2.2.toList))=c
   cases a<;>cases b<;>cases c<;>rfl
  ·have h1:decide ((ops.length:Int)<(ops.length:Int))=false:=decide_eq_false (by omega)
   simp only [B1W,h1,cond_false]
 simp only [A43,B2b,e,A8r]
 cases ops.any (misses m)<;>exact ⟨rfl,rfl⟩
theorem E1H {l:List H6} (h:C76 l) {i j:Nat} (hi:i<l.length) (hj:j<l.length) (e:(l.getD i B9).2.1=(l.getD j B9).2.1):i=j:=by
 have hg:∀ k (hk:k<l.length),(l.getD k B9).2.1=(l.map (·.2.1))[k]'(by simpa using hk):=fun k hk=>by simp [List.getD_eq_getElem?_getD,hk]
 rw [hg i hi,hg j hj] at e
 exact (List.getElem_inj h).1 e
theorem E9I {l:List H6} (h:C76 l) (t:Int) (hl:l.length≤1099511627776) (ha:l.any (D3 t)=true):A72 l t=((l.findIdx (D3 t):Nat):Int)∧A10 l t=((l.findIdx (D3 t):Nat):Int)∧l.findIdx (D3 t)<l.length∧(l.getD (l.findIdx (D3 t)) B9).2.1=t:=by
 have h1:=List.findIdx_lt_length.2 (List.any_eq_true.1 ha)
 have h2:l.reverse.findIdx (D3 t)<l.length:=by
  rw [← List.length_reverse]
  refine List.findIdx_lt_length.2 ?_
  obtain ⟨x,hx,hp⟩:=List.any_eq_true.1 ha
  exact ⟨x,List.mem_reverse.2 hx,hp⟩
 have p1:D3 t (l.getD (l.findIdx (D3 t)) B9)=true:=by
  have:=List.findIdx_getElem (w:=h1)
  rw [List.getD_eq_getElem?_getD,List.getElem?_eq_getElem h1];exact this
 have p2:D3 t (l.getD (l.length - 1 - l.reverse.findIdx (D3 t)) B9)=true:=by
  have h3:l.reverse.findIdx (D3 t)<l.reverse.length:=by rw [List.length_reverse];exact h2
  have:=List.findIdx_getElem (w:=h3)
  have e:l.reverse.getD (l.reverse.findIdx (D3 t)) B9=l.getD (l.length - 1 - l.reverse.findIdx (D3 t)) B9:=by
   simp only [List.getD_eq_getElem?_getD]
   rw [List.getElem?_reverse h2]
  rw [← e,List.getD_eq_getElem?_getD,List.getElem?_eq_getElem h3];exact this
 have p1':(l.getD (l.findIdx (D3 t)) B9).2.1=t:=beq_iff_eq.1 (show ((l.getD (l.findIdx (D3 t)) B9).2.1==t)=true from p1)
 have p2':(l.getD (l.length - 1 - l.reverse.findIdx (D3 t)) B9).2.1=t:=beq_iff_eq.1 (show ((l.getD (l.length - 1 - l.reverse.findIdx (D3 t)) B9).2.1==t)=true from p2)
 have hij:=E1H h (i:=l.findIdx (D3 t)) (j:=l.length - 1 - l.reverse.findIdx (D3 t)) h1 (by omega) (by rw [p1', p2'])
 refine ⟨by rw [(B3L l t hl).2,decide_eq_true h1];rfl,?_,h1,p1'⟩
 rw [(B9b l t hl).2,decide_eq_true h2]
 simp only [cond_true]
 omega
theorem D8v (l:LBBe) (k v:ByteArray) (hl:l.length≤1099511627776):A8f k v l=true∧D21 k v l=E0D l k v:=by
 obtain ⟨p1,p2⟩:=D1B l k hl
 have e1:A8L k v 0 l=(0,k,v,((l.findIdx (A87 k):Nat):Int),l):=by
  have h:=A8O (ss:=fun u:A76=>A8G u.1 u.2.1 u.2.2.1 u.2.2.2) (fa:=B9L) (fun i=>((k,v,(i:Int),l):A76)) l dP (A87 k) (fun i=>((0,k,v,(i:Int),l):A7O)) (0,k,v,(l.length:Int),l) (by omega) (fun i hi=>?_) ?_
  ·refine h.trans ?_
   by_cases hc:l.findIdx (A87 k)<l.length
   ·rw [decide_eq_true hc];rfl
   ·have:=A8e (A87 k) l
    have he:l.findIdx (A87 k)=l.length:=by omega
    rw [decide_eq_false hc,he];rfl
  ·have h1:decide ((i:Int)<(l.length:Int))=true:=decide_eq_true (by omega)
   have h2:decide (0≤(i:Int)∧(i:Int)<(l.length:Int))=true:=decide_eq_true (by omega)
   simp only [A8G,h1,h2,cond_true,Int.toNat_natCast,K6 i (by omega),A53,A87]
   cases (Op.bytesLess (l.getD i dP).1.toList k.toList||(l.getD i dP).1.toList==k.toList)<;>rfl
  ·have h1:decide ((l.length:Int)<(l.length:Int))=false:=decide_eq_false (by omega)
   simp only [A8G,h1,cond_false]
 have hle:=A8e (A87 k) l
 simp only [A8f,D21,p1,p2,C6k,e1,E4p,F2p,E0D,Int.toNat_natCast]
 cases hc:decide (l.findIdx (isK k)<l.length) with
 | true =>
  have hlt:=of_decide_eq_true hc
  have g1:decide (((l.findIdx (isK k):Nat):Int) ≥ 0)=true:=decide_eq_true (by omega)
  have g2:decide (0≤((l.findIdx (isK k):Nat):Int)∧((l.findIdx (isK k):Nat):Int)<(l.length:Int))=true:=decide_eq_true (by omega)
  simp only [cond_true,g1,g2,Int.toNat_natCast,Bool.true_and]
  exact ⟨trivial,rfl⟩
 | false =>
  have g1:decide ((-1:Int) ≥ 0)=false:=by decide
  have g2:decide (0≤((l.findIdx (A87 k):Nat):Int)∧((l.findIdx (A87 k):Nat):Int)≤(l.length:Int))=true:=decide_eq_true (by omega)
  have g3:decide ((l.length+1)*32≤140737488355328)=true:=decide_eq_true (by omega)
  simp only [cond_false,g1,g2,g3,Bool.true_and]
  exact ⟨rfl,rfl⟩
theorem E5n {α:Type} {p:α→Bool} {x:α} (h:p x=false):[x].filter p=[]:=by simp [List.filter_cons,h]
theorem F2t {α:Type} {p:α→Bool} {x:α} (h:p x=true):[x].filter p=[x]:=by simp [List.filter_cons,h]
theorem D9u (l:LBBe) (k:ByteArray) (hl:l.length≤1099511627776) (j:Nat) (hj:j<l.length) (hpre:(l.take j).filter (fun p=>!isK k p)=l.take j) (hat:isK k (l.getD j dP)=true) :
  ∃ r:LBBe,A06 ((j:Nat):Int) (((j+1:Nat):Int)) l k=(0,(((C9U l k).length:Nat):Int),r)∧r.length=l.length∧r.take (C9U l k).length=C9U l k:=by
 refine A0n (fun v:P0=>∃ (m:Nat) (r:LBBe),v=(((((l.take m).filter (fun p=>!isK k p)).length:Nat):Int),(m:Int),r)∧m≤l.length∧((l.take m).filter (fun p=>!isK k p)).length<m∧r.length=l.length∧r.take ((l.take m).filter (fun p=>!isK k p)).length=(l.take m).filter (fun p=>!isK k p)∧r.drop m=l.drop m)
  (fun a:L7=>∃ r:LBBe,a=(0,(((C9U l k).length:Nat):Int),r)∧r.length=l.length∧r.take (C9U l k).length=C9U l k) (fun v=>l.length - v.2.1.toNat) ?_ ⟨j+1,l,?_,by omega,?_,rfl,?_,rfl⟩ (by simp;omega)
 ·rintro v ⟨m,r,rfl,hm,hlt2,hr,ht,hd⟩
  by_cases hlt:m<l.length
  ·left
   have h1:decide ((m:Int)<(r.length:Int))=true:=decide_eq_true (by omega)
   have h2:decide (0≤(m:Int)∧(m:Int)<(r.length:Int))=true:=decide_eq_true (by omega)
   have h3:decide (0≤((((l.take m).filter (fun p=>!isK k p)).length:Nat):Int)∧((((l.take m).filter (fun p=>!isK k p)).length:Nat):Int)<(r.length:Int))=true:=decide_eq_true (by omega)
   have hg:r.getD m dP=l.getD m dP:=by
    have:=congrArg (fun x:LBBe=>x[0]?) hd
    simp only [List.getElem?_drop,Nat.add_zero] at this
    simp only [List.getD_eq_getElem?_getD,this]
   have htk:l.take (m+1)=l.take m++[l.getD m dP]:=D5 hlt dP
   have hdd:∀ x:LBBe,x.drop m=l.drop m→x.drop (m+1)=l.drop (m+1):=fun x hx=>by
    rw [← List.drop_drop,← List.drop_drop,hx]
   cases hc:isK k (l.getD m dP) with
   | true =>
    have hf:(l.take (m+1)).filter (fun p=>!isK k p)=(l.take m).filter (fun p=>!isK k p):=by rw [htk,List.filter_append,E5n (by rw [hc];rfl),List.append_nil]
    refine ⟨(((((l.take (m+1)).filter (fun p=>!isK k p)).length:Nat):Int),((m+1:Nat):Int),r),?_,⟨m+1,r,rfl,by omega,by rw [hf];omega,hr,by rw [hf];exact ht,hdd r hd⟩,by simp only [Int.toNat_natCast];omega⟩
    have hk:K5 (m:Int) r k=true:=by simp only [K5,B3J,A53,Int.toNat_natCast,hg];exact hc
    simp only [O3,h1,h2,hk,cond_true,Bool.not_true,cond_false,K6 m (by omega),hf]
   | false =>
    have hf:(l.take (m+1)).filter (fun p=>!isK k p)=(l.take m).filter (fun p=>!isK k p)++[l.getD m dP]:=by rw [htk,List.filter_append,F2t (by rw [hc];rfl)]
    refine ⟨(((((l.take (m+1)).filter (fun p=>!isK k p)).length:Nat):Int),((m+1:Nat):Int),r.set ((l.take m).filter (fun p=>!isK k p)).length (l.getD m dP)),?_,⟨m+1,_,rfl,by omega,by rw [hf];simp;omega,by simp [hr],?_,hdd _ ?_⟩,by simp only [Int.toNat_natCast];omega⟩
    ·have hk:K5 (m:Int) r k=false:=by simp only [K5,B3J,A53,Int.toNat_natCast,hg];exact hc
     have hfl:(((l.take m).filter (fun p=>!isK k p))++[l.getD m dP]).length=((l.take m).filter (fun p=>!isK k p)).length+1:=by simp
     simp only [O3,h1,h2,h3,hk,cond_true,Bool.not_false,K6 m (by omega),K6 ((l.take m).filter (fun p=>!isK k p)).length (by omega),hf,hfl,Int.toNat_natCast,A53,hg]
    ·rw [hf,List.length_append,List.length_singleton,List.take_add_one,List.take_set_of_le (Nat.le_refl _),ht]
     congr 1
     simp [List.getElem?_set,show ((l.take m).filter (fun p=>!isK k p)).length<r.length by omega]
    ·rw [List.drop_set_of_lt hlt2];exact hd
  ·right
   obtain rfl:m=l.length:=by omega
   have h1:decide ((l.length:Int)<(r.length:Int))=false:=decide_eq_false (by omega)
   rw [List.take_length] at ht
   refine ⟨(0,(((C9U l k).length:Nat):Int),r),?_,r,rfl,hr,ht⟩
   simp only [O3,h1,cond_false,List.take_length]
   rfl
 ·rw [D5 hj dP,List.filter_append,hpre,E5n (by rw [hat];rfl),List.append_nil,List.length_take];congr 2;omega
 ·rw [D5 hj dP,List.filter_append,hpre,E5n (by rw [hat];rfl),List.append_nil,List.length_take];omega
 ·rw [D5 hj dP,List.filter_append,hpre,E5n (by rw [hat];rfl),List.append_nil,List.length_take,Nat.min_eq_left (by omega)]
theorem D9c (l:LBBe) (k:ByteArray) (hl:l.length≤1099511627776):A8m l k=true∧D2Q l k=C9U l k:=by
 have e:J8 (l.length:Int) 0 l k=cond (decide (l.findIdx (isK k)<l.length)) (0,((l.findIdx (isK k):Nat):Int)) (1,0):=by
  refine A8O (ss:=fun v:F5=>J7 v.1 v.2 l k) (fa:=Q9) (fun i=>(((l.length:Int),(i:Int)):F5)) l dP (isK k) (fun i=>((0,(i:Int)):F7)) _ (by omega) (fun i hi=>?_) ?_
  ·have h1:decide ((i:Int)<(l.length:Int))=true:=decide_eq_true (by omega)
   have h2:decide (0≤(i:Int)∧(i:Int)<(l.length:Int))=true:=decide_eq_true (by omega)
   simp only [J7,h1,h2,cond_true,Int.toNat_natCast,K6 i (by omega),A53,T5,B3J]
   rfl
  ·have h1:decide ((l.length:Int)<(l.length:Int))=false:=decide_eq_false (by omega)
   simp only [J7,h1,cond_false]
 have hq:E8 l=true:=decide_eq_true (by simp [MAXB];omega)
 have hdf:L0 l k=true∧(V3 l k).1=C9U l k:=by
  have hidx:E5 l k=true∧F3 l k=cond (decide (l.findIdx (isK k)<l.length)) ((l.findIdx (isK k):Nat):Int) (-1):=by
   simp only [E5,F3,e]
   cases decide (l.findIdx (isK k)<l.length)<;>exact ⟨rfl,rfl⟩
  simp only [L0,V3,W6,hidx.1,hidx.2,Bool.true_and]
  cases hc:decide (l.findIdx (isK k)<l.length) with
  | false =>
   have hge:=of_decide_eq_false hc
   simp only [cond_false,show ((-1:Int)==-1)=true from rfl,cond_true]
   refine ⟨trivial,?_⟩
   symm
   apply List.filter_eq_self.2
   intro p hp
   have:=List.findIdx_eq_length.1 (show l.findIdx (isK k)=l.length by have:=A8e (isK k) l;omega) p hp
   rw [this];rfl
  | true =>
   have hlt:=of_decide_eq_true hc
   have hat:isK k (l.getD (l.findIdx (isK k)) dP)=true:=by
    have:=List.findIdx_getElem (w:=hlt)
    simpa [List.getD_eq_getElem?_getD,hlt] using this
   have hpre:(l.take (l.findIdx (isK k))).filter (fun p=>!isK k p)=l.take (l.findIdx (isK k)):=by
    apply List.filter_eq_self.2
    intro p hp
    obtain ⟨i,hi,rfl⟩:=List.mem_iff_getElem.1 hp
    rw [List.length_take] at hi
    have:=List.not_of_lt_findIdx (p:=isK k) (xs:=l) (i:=i) (by omega)
    simpa using this
   obtain ⟨r,r1,r2,r3⟩:=D9u l k hl _ hlt hpre hat
   have hne:(((l.findIdx (isK k):Nat):Int)==-1)=false:=by simp only [beq_eq_false_iff_ne];omega
   have hdl:=E2O l k
   simp only [cond_true,hne,cond_false,K6 _ (show l.findIdx (isK k)<9223372036854775807 by omega),r1,Int.toNat_natCast]
   constructor
   ·simp only [Bool.and_eq_true,decide_eq_true_eq,List.length_append,List.length_take,List.length_replicate,List.length_drop]
    refine ⟨rfl,?_,?_⟩<;>omega
   ·rw [r3,List.append_assoc,List.take_left']
    rfl
 simp only [A8m,D2Q,I6,hq,hdf.1,hdf.2,Bool.and_self]
 exact ⟨trivial,trivial⟩
theorem E2L (m:LBBe) (l:Lq2) (hm:m.length≤1000000000) (hl:l.length≤1000000000):A8I m l=true∧C0e m l=l.foldl B8E m:=by
 have h:B1L l (l.length:Int) 0 m=(0,l.foldl B8E m):=by
  refine E2j (ss:=fun v:B0p=>B1F v.1 v.2.1 v.2.2.1 v.2.2.2) (fa:=B1P) (fun i b=>((l,(l.length:Int),(i:Int),b):B0p)) l dOp B8E (fun b=>((0,b):B0F)) (fun i b=>b.length≤m.length+i) (by omega) (fun i b hi hb=>⟨?_,by have:=D3D b (l.getD i dOp);omega⟩) (fun b hb=>?_) (by simp)
  ·have h1:decide ((i:Int)<(l.length:Int))=true:=decide_eq_true (by omega)
   have h2:decide (0≤(i:Int)∧(i:Int)<(l.length:Int))=true:=decide_eq_true (by omega)
   have e:l.getD i ((0:Int),((⟨#[]⟩:ByteArray),(⟨#[]⟩:ByteArray)))=l.getD i dOp:=rfl
   obtain ⟨p1,p2⟩:=D8v b (l.getD i dOp).2.1 (l.getD i dOp).2.2 (by omega)
   obtain ⟨d1,d2⟩:=D9c b (l.getD i dOp).2.1 (by omega)
   simp only [B1F,h1,h2,cond_true,Int.toNat_natCast,K6 i (by omega),e,C4p,C4r,p1,p2,d1,d2,B8E]
   cases (l.getD i dOp).1==1<;>cases (l.getD i dOp).1==2<;>rfl
  ·have h1:decide ((l.length:Int)<(l.length:Int))=false:=decide_eq_false (by omega)
   simp only [B1F,h1,cond_false]
 have hq:E8 m=true:=decide_eq_true (by simp [MAXB];omega)
 simp only [A8I,C0e,I6,h,hq]
 exact ⟨rfl,trivial⟩
theorem E7Q (h:List H6) (k:Nat) (hk:k<h.length) (hl:h.length≤1099511627776):L6 (k:Int) ((k+1:Nat):Int) h=true∧U7 (k:Int) ((k+1:Nat):Int) h=h.eraseIdx k:=by
 have e0:((k:Int)==((k+1:Nat):Int))=false:=beq_eq_false_iff_ne.2 (by omega)
 have e1:=B7g h (k+1)
 have e2:(h.drop (k+1)).length=h.length - (k+1):=List.length_drop
 have e3:(h.take k++h.drop (k+1)).length=k+(h.drop (k+1)).length:=by rw [List.length_append,List.length_take];omega
 simp only [L6,U7,Int.toNat_natCast,e0,cond_false,e1]
 have e4:(h.take k++h.drop (k+1)++h.drop (k+(h.drop (k+1)).length)).take (k+(h.drop (k+1)).length)=h.take k++h.drop (k+1):=List.take_left' e3
 have e5:(h.take k++h.drop (k+1)++h.drop (k+(h.drop (k+1)).length)).length=h.length:=by
  simp only [List.length_append,List.length_take,List.length_drop];omega
 refine ⟨?_,?_⟩
 ·rw [e5]
  simp only [Bool.and_eq_true,decide_eq_true_eq]
  refine ⟨by omega,by omega,by omega,by omega,by omega⟩
 ·rw [e4,List.append_assoc,List.take_left' e3,List.eraseIdx_eq_take_drop_succ]
theorem E8y (r:H6) (ahead:List H6) (m:List A1B) (held:List H6) (hr:L1 r.2.2=true) (hok:A2I r.1 r.2.1 r.2.2=true) (hm:m.length≤1000) (hh:held.length≤1048576) (ha:ahead.length≤1048576) (ho:∀ x∈held,L1 x.2.2=true) (h1:C76 held) :
  V0 r.1 r.2.1 r.2.2 ahead m held=true∧(match A42 (ahead.any (D3 r.2.1)) m held r with
   | none=>(A5L r.1 r.2.1 r.2.2 ahead m held).1=false
   | some (m', h')=>A5L r.1 r.2.1 r.2.2 ahead m held=(true,m', h')):=by
 have a1:=(B9b held r.2.1 (by omega)).1
 have a2:=(D7U held r.2.1 (by omega)).1
 have a3:=(B9b ahead r.2.1 (by omega)).1
 have a4:=(D7U ahead r.2.1 (by omega)).2
 have hl:=L4 hr
 obtain ⟨c1,c2⟩:=D8n held r.2.2 (by omega) (fun x hx=>L4 (ho x hx)) hl
 obtain ⟨d1,d2⟩:=E2W m r.2.2 (by omega) hl
 have f1:decide ((held.length+[((1:Int),(r.2.1,r.2.2))].length)*40≤MAXB)=true:=decide_eq_true (by simp only [List.length_singleton,MAXB];omega)
 have f3:C4 r.2.2=true:=decide_eq_true (by simp only [List.length_nil,MAXB];omega)
 have f4:D4 r.2.2=r.2.2:=rfl
 simp only [V0,A5L,A42,a1,a2,a3,a4,c1,c2,d1,d2,f1,f3,f4,hok,Bool.true_and,Bool.and_true,Bool.not_true,cond_false]
 cases hk:(r.1==1) with
 | true =>
  simp only [cond_true]
  cases ahead.any (D3 r.2.1) with
  | true=>first | exact ⟨rfl,rfl⟩ | exact ⟨trivial,rfl⟩
  | false =>
   cases A2R held r.2.2 with
   | true=>first | exact ⟨rfl,rfl⟩ | exact ⟨trivial,rfl⟩
   | false =>
    cases A8r m r.2.2 with
    | false=>first | exact ⟨rfl,rfl⟩ | exact ⟨trivial,rfl⟩
    | true=>first | exact ⟨rfl,rfl⟩ | exact ⟨trivial,rfl⟩
 | false =>
  simp only [cond_false]
  cases ha2:held.any (D3 r.2.1) with
  | false =>
   simp only [Bool.not_false,cond_true]
   cases (r.1==3) with
   | false=>first | exact ⟨rfl,rfl⟩ | exact ⟨trivial,rfl⟩
   | true=>cases ahead.any (D3 r.2.1) with
    | true=>first | exact ⟨rfl,rfl⟩ | exact ⟨trivial,rfl⟩
    | false=>first | exact ⟨rfl,rfl⟩ | exact ⟨trivial,rfl⟩
  | true =>
   obtain ⟨_,e1,hlt,_⟩:=E9I h1 r.2.1 (by omega) ha2
   generalize hi:held.findIdx (D3 r.2.1)=i at hlt e1 ⊢
   have e2:=K6 i (by omega)
   have q0:decide (0≤(i:Int)∧(i:Int)<(held.length:Int))=true:=decide_eq_true (by omega)
   obtain ⟨s1,s2⟩:=E2L m (held.getD i B9).2.2 (by omega) (by have:=L4 (ho _ (I7 hlt B9));omega)
   obtain ⟨t1,t2⟩:=E7Q held i hlt (by omega)
   simp only [Bool.not_true,cond_false,e1,e2,Int.toNat_natCast,q0,A2O,s1,s2,t1,t2,Bool.true_and,Bool.and_true]
   cases (r.1==2) with
   | true =>
    simp only [cond_true]
    refine ⟨trivial,?_⟩
    cases decide (((((held.getD i B9).2.2.foldl B8E m).length:Nat):Int)≤60) with
    | true=>rfl
    | false=>rfl
   | false =>
    simp only [cond_false]
    refine ⟨trivial,?_⟩
    cases decide ((m.length:Int)≤60) with
    | true=>rfl
    | false=>rfl
theorem C0h (l:List H6) (hl:l.length≤1048576) (hr:∀ x∈l,L1 x.2.2=true):A1z l=true∧A5J l=O1 l:=by
 have key:((X2 l).1=0∧(X2 l).2.1=false∧A0D l l.length=none)∨((X2 l).1=1∧A0D l l.length=some ((X2 l).2.2.1,(X2 l).2.2.2)):=by
  refine A0n (ss:=fun v:A30=>A3c v.1 v.2.1 v.2.2.1 v.2.2.2.1 v.2.2.2.2.1 v.2.2.2.2.2) (fa:=A1E)
   (fun v=>∃ (i:Nat) (m:List A1B) (held:List H6),v=(l,l,(l.length:Int),(i:Int),m,held)∧i≤l.length∧A0D l i=some (m,held))
   (fun a:A2f=>(a.1=0∧a.2.1=false∧A0D l l.length=none)∨(a.1=1∧A0D l l.length=some (a.2.2.1,a.2.2.2))) (fun v=>l.length - v.2.2.2.1.toNat) ?_ ⟨0,[],[],rfl,Nat.zero_le _,rfl⟩ (by simp;omega)
  rintro v ⟨i,m,held,rfl,hi,hp⟩
  by_cases hlt:i<l.length
  ·have e1:decide ((i:Int)<(l.length:Int))=true:=decide_eq_true (by omega)
   have e2:decide (0≤(i:Int)∧(i:Int)<(l.length:Int))=true:=decide_eq_true (by omega)
   have e3:decide (0≤(0:Int)∧(0:Int)≤(i:Int)∧(i:Int)≤(l.length:Int))=true:=decide_eq_true (by omega)
   have I:=D3v hr i hi m held hp
   have g0:B3N (l.getD i B9).1 (l.getD i B9).2.1 (l.getD i B9).2.2=true:=hr _ (I7 hlt B9)
   simp only [A3c,A9m,A9y,e1,e2,e3,cond_true,Int.toNat_natCast,Int.toNat_zero,List.drop_zero,A2O,g0,← E3P,K6 i (by omega)]
   cases hok:A2I (l.getD i B9).1 (l.getD i B9).2.1 (l.getD i B9).2.2 with
   | false =>
    simp only [Bool.not_false,cond_true]
    exact .inr ⟨_,rfl,.inl ⟨rfl,rfl,D3e hlt hp (by simp only [A42,hok,Bool.not_false,cond_true])⟩⟩
   | true =>
    obtain ⟨o1,o2⟩:=E8y (l.getD i B9) (l.take i) m held (hr _ (I7 hlt B9)) hok (by have:=I.hml;omega) (by have:=I.hlen;omega) (by rw [List.length_take];omega) (fun x hx=>(I.hmem x hx).1) I.hone
    simp only [Bool.not_true,cond_false,o1,cond_true]
    cases hst:A42 ((l.take i).any (D3 (l.getD i B9).2.1)) m held (l.getD i B9) with
    | none =>
     rw [hst] at o2
     simp only [o2,Bool.not_false,cond_true]
     exact .inr ⟨_,rfl,.inl ⟨rfl,rfl,D3e hlt hp hst⟩⟩
    | some s =>
     obtain ⟨m', h'⟩:=s
     rw [hst] at o2
     simp only [o2,Bool.not_true,cond_false]
     exact .inl ⟨_,rfl,⟨i+1,m', h', rfl,by omega,by simp only [A0D,hp,Option.bind_some];exact hst⟩,by simp only [Int.toNat_natCast];omega⟩
  ·obtain rfl:i=l.length:=by omega
   have e1:decide ((l.length:Int)<(l.length:Int))=false:=decide_eq_false (by omega)
   simp only [A3c,e1,cond_false]
   exact .inr ⟨_,rfl,.inr ⟨rfl,hp⟩⟩
 simp only [A1z,A5J,O1]
 rcases key with ⟨h1,h2,h5⟩ | ⟨h1,h2⟩
 ·rw [h1,h2,h5];exact ⟨rfl,rfl⟩
 ·rw [h1,h2];exact ⟨rfl,rfl⟩
theorem C0T (a b:List A1B) (hl:a.length≤1099511627776):P8 a b=true∧U9 a b=A1s qP a b:=by
 simp only [P8,U9,A1s]
 by_cases hab:a.length=b.length
 ·have e : V1 a b ((a.length : Nat) : Int) 0 = cond (B0u qP a b) (1, false) (0, false) := by
   refine B3y (ss:=fun v:R0=>V2 v.1 v.2.1 v.2.2.1 v.2.2.2) (fa:=A0Q) (fun i=>((a,b,(a.length:Int),(i:Int)):R0)) a b dP qP _ _ hab (by omega) (fun i hi=>?_) ?_
   ·have h1:decide ((i:Int)<(a.length:Int))=true:=decide_eq_true (by omega)
    have h2:decide (0≤(i:Int)∧(i:Int)<(a.length:Int))=true:=decide_eq_true (by omega)
    have h3:decide (0≤(i:Int)∧(i:Int)<(b.length:Int))=true:=decide_eq_true (by omega)
    simp only [V2,h1,h2,h3,cond_true,Int.toNat_natCast,K6 i (by omega),A53,qP]
    generalize ((a.getD i dP).1.toList==(b.getD i dP).1.toList&&((a.getD i dP).2.toList==(b.getD i dP).2.toList&&true))=z
    cases z<;>rfl
   ·have h1:decide ((a.length:Int)<(a.length:Int))=false:=decide_eq_false (by omega)
    simp only [V2,h1,cond_false]
  rw [B4j hab,e]
  cases B0u qP a b<;>exact ⟨rfl,rfl⟩
 ·rw [B6Q hab];exact ⟨rfl,rfl⟩
theorem D7b (a b:Lq2) (hl:a.length≤1099511627776):U4 a b=true∧A22 a b=A1s qO a b:=by
 simp only [U4,A22,A1s]
 by_cases hab:a.length=b.length
 ·have e : Y9 a b ((a.length : Nat) : Int) 0 = cond (B0u qO a b) (1, false) (0, false) := by
   refine B3y (ss:=fun v:V4=>Z0 v.1 v.2.1 v.2.2.1 v.2.2.2) (fa:=A13) (fun i=>((a,b,(a.length:Int),(i:Int)):V4)) a b dOp qO _ _ hab (by omega) (fun i hi=>?_) ?_
   ·have h1:decide ((i:Int)<(a.length:Int))=true:=decide_eq_true (by omega)
    have h2:decide (0≤(i:Int)∧(i:Int)<(a.length:Int))=true:=decide_eq_true (by omega)
    have h3:decide (0≤(i:Int)∧(i:Int)<(b.length:Int))=true:=decide_eq_true (by omega)
    simp only [Z0,h1,h2,h3,cond_true,Int.toNat_natCast,K6 i (by omega),B56,qO]
    generalize ((a.getD i dOp).1==(b.getD i dOp).1&&((a.getD i dOp).2.1.toList==(b.getD i dOp).2.1.toList&&((a.getD i dOp).2.2.toList==(b.getD i dOp).2.2.toList&&true)))=z
    cases z<;>rfl
   ·have h1:decide ((a.length:Int)<(a.length:Int))=false:=decide_eq_false (by omega)
    simp only [Z0,h1,cond_false]
  rw [B4j hab,e]
  cases B0u qO a b<;>exact ⟨rfl,rfl⟩
 ·rw [B6Q hab];exact ⟨rfl,rfl⟩
theorem E4N (x y:H6) (hl:x.2.2.length≤1048576):A5n x.1 x.2.1 x.2.2 y.1 y.2.1 y.2.2=true∧C8I x.1 x.2.1 x.2.2 y.1 y.2.1 y.2.2=qR x y:=by
 obtain ⟨o1,o2⟩:=D7b x.2.2 y.2.2 (by omega)
 simp only [A5n,C8I,o1,o2,qR,bne]
 cases (x.1==y.1)<;>cases (x.2.1==y.2.1)<;>exact ⟨rfl,rfl⟩
theorem C3r (a b:List H6) (hl:a.length≤1099511627776) (ho:∀ x∈a,x.2.2.length≤1048576):C8 a b=true∧K0 a b=A1s qR a b:=by
 simp only [C8,K0,A1s]
 by_cases hab:a.length=b.length
 ·have e : F9 b a ((a.length : Nat) : Int) 0 = cond (B0u qR a b) (1, false) (0, false) := by
   refine B3y (ss:=fun v:D9=>H4 v.1 v.2.1 v.2.2.1 v.2.2.2) (fa:=F8) (fun i=>((b,a,(a.length:Int),(i:Int)):D9)) a b B9 qR _ _ hab (by omega) (fun i hi=>?_) ?_
   ·have h1:decide ((i:Int)<(a.length:Int))=true:=decide_eq_true (by omega)
    have h2:decide (0≤(i:Int)∧(i:Int)<(a.length:Int))=true:=decide_eq_true (by omega)
    have h3:decide (0≤(i:Int)∧(i:Int)<(b.length:Int))=true:=decide_eq_true (by omega)
    obtain ⟨o1,o2⟩:=E4N (a.getD i B9) (b.getD i B9) (ho _ (I7 hi B9))
    simp only [H4,K9,h1,h2,h3,cond_true,Int.toNat_natCast,K6 i (by omega),A2O,o1,o2]
    cases qR (a.getD i B9) (b.getD i B9)<;>rfl
   ·have h1:decide ((a.length:Int)<(a.length:Int))=false:=decide_eq_false (by omega)
    simp only [H4,h1,cond_false]
  rw [B4j hab,e]
  cases B0u qR a b<;>exact ⟨rfl,rfl⟩
 ·rw [B6Q hab];exact ⟨rfl,rfl⟩
theorem D7O {x:D8} (h1:A02 x.2.1) (hl4:x.2.2.2.2.length≤1048576):A05 x.1 x.2.1 x.2.2.1 x.2.2.2.1 x.2.2.2.2=true:=by
 obtain ⟨i1,i2⟩:=C0h x.2.1 h1.1 (A1O h1)
 obtain ⟨r1,r2,r3⟩:=D0s h1
 have hl1:=h1.1
 obtain ⟨b1,b2⟩:=C0T (O1 x.2.1).1 x.2.2.2.1 (by omega)
 obtain ⟨d1,d2⟩:=C3r (O1 x.2.1).2.1 x.2.2.2.2 (by omega) r3
 simp only [A05,i1,i2,b1,d1,Bool.true_and]
 cases (!(D78 x.1))<;>cases (!(J0 x.2.2.1 0 (x.2.1.length:Int)))<;>cases decide ((wI ((x.2.1.length:Int)+(x.2.2.2.2.length:Int))) > (300:Int))<;>cases (O1 x.2.1).2.2<;>cases U9 (O1 x.2.1).1 x.2.2.2.1<;>rfl
theorem D0C {x:D8} (h1:A02 x.2.1) (hl3:x.2.2.2.1.length≤1048576) (hl4:x.2.2.2.2.length≤1048576):A46 x.1 x.2.1 x.2.2.1 x.2.2.2.1 x.2.2.2.2=true↔B0E x:=by
 obtain ⟨i1,i2⟩:=C0h x.2.1 h1.1 (A1O h1)
 obtain ⟨r1,r2,r3⟩:=D0s h1
 have hl1:=h1.1
 obtain ⟨b1,b2⟩:=C0T (O1 x.2.1).1 x.2.2.2.1 (by omega)
 obtain ⟨d1,d2⟩:=C3r (O1 x.2.1).2.1 x.2.2.2.2 (by omega) r3
 have w1:=I5 (n:=(x.2.1.length:Int)+(x.2.2.2.2.length:Int)) (by omega) (by omega)
 have n1:D78 x.1=C0 x.1 0 7:=rfl
 have n2:J0 x.2.2.1 0 (x.2.1.length:Int)=C0 x.2.2.1 0 (x.2.1.length:Int):=rfl
 simp only [A46,i2,b2,d2,w1,n1,n2,E3Y,B0E]
 by_cases g1:0≤x.1∧x.1≤7
 ·by_cases g2:0≤x.2.2.1∧x.2.2.1≤(x.2.1.length:Int)
  ·by_cases g3:(x.2.1.length:Int)+(x.2.2.2.2.length:Int) > 300
   ·rw [decide_eq_true g1,decide_eq_true g2,decide_eq_true g3]
    exact ⟨fun h=>absurd h (by simp),fun h=>absurd h.2.2.1 (by omega)⟩
   ·rw [decide_eq_true g1,decide_eq_true g2,decide_eq_false g3]
    simp only [Bool.not_true,cond_false,O1]
    cases hp:A0D x.2.1 x.2.1.length with
    | none=>exact ⟨fun h=>absurd h (by simp),fun h=>absurd h.2.2.2 (by simp)⟩
    | some s =>
     simp only [cond_true]
     cases hP:A1s qP s.1 x.2.2.2.1 with
     | false =>
      refine ⟨fun h=>absurd h (by simp),fun h=>?_⟩
      have e:=Option.some.inj h.2.2.2
      rw [e,(B7p _ _).2 rfl] at hP;cases hP
     | true =>
      simp only [cond_true]
      rw [C4I]
      have e1:=(B7p _ _).1 hP
      exact ⟨fun h=>⟨g1,g2,by omega,by rw [show s=(s.1,s.2) from rfl,e1,h]⟩,fun h=>by rw [Option.some.inj h.2.2.2]⟩
  ·rw [decide_eq_true g1,decide_eq_false g2]
   exact ⟨fun h=>absurd h (by simp),fun h=>absurd h.2.1 g2⟩
 ·rw [decide_eq_false g1]
  exact ⟨fun h=>absurd h (by simp),fun h=>absurd h.1 g1⟩
theorem E9Z {x:D8} (A:D9F x):(A1Y x.1 x.2.1 x.2.2.1 x.2.2.2.1 x.2.2.2.2=true∧A05 x.1 x.2.1 x.2.2.1 x.2.2.2.1 x.2.2.2.2=true) ∧
  ((DrawnS x∧A6T x.1 x.2.1 x.2.2.1 x.2.2.2.1 x.2.2.2.2=true∧A46 x.1 x.2.1 x.2.2.1 x.2.2.2.1 x.2.2.2.2=true)∨(A6T x.1 x.2.1 x.2.2.1 x.2.2.2.1 x.2.2.2.2=false∧A46 x.1 x.2.1 x.2.2.1 x.2.2.2.1 x.2.2.2.2=false)):=by
 have h2:=A.2.1
 have h5:=A.2.2.2.2.2
 obtain ⟨s1,s2⟩:=D8w A.1 (x:=x) (by omega) (by omega)
 have i1:=D7O A.1 (x:=x) (by omega)
 have i2:=D0C A.1 (x:=x) (by omega) (by omega)
 refine ⟨⟨s1,i1⟩,?_⟩
 cases hs:A6T x.1 x.2.1 x.2.2.1 x.2.2.2.1 x.2.2.2.2 with
 | true=>exact .inl ⟨A.2.2.2.1 (s2.1 hs),rfl,i2.2 (s2.1 hs)⟩
 | false =>
  refine .inr ⟨rfl,?_⟩
  cases hi:A46 x.1 x.2.1 x.2.2.1 x.2.2.2.1 x.2.2.2.2 with
  | false=>rfl
  | true=>rw [s2.2 (i2.1 hi)] at hs;cases hs
theorem D5h {x:D8} (D:DrawnS x) {n:Int} (h0:0≤n) (h1:n≤(x.2.1.length:Int)):DrawnS (x.1,x.2.1,n,x.2.2.2.1,x.2.2.2.2):=⟨D.1,⟨D.2.1.1,⟨h0,h1⟩,D.2.1.2.2⟩,D.2.2⟩
theorem A8i {x:D8} (h1:A02 x.2.1) (hr:B0E x):RepOk x.2.1 x.2.1.length x.2.2.2.1 x.2.2.2.2:=D3v (A1O h1) _ (Nat.le_refl _) _ _ hr.2.2.2
theorem E3t {x:D8} (D:DrawnS x):(A1z x.2.1=true∧A5J x.2.1=(x.2.2.2.1,x.2.2.2.2,true))∧(A05 x.1 x.2.1 x.2.2.1 x.2.2.2.1 x.2.2.2.2=true∧A46 x.1 x.2.1 x.2.2.1 x.2.2.2.1 x.2.2.2.2=true):=by
 have I:=A8i D.1 D.2.1
 have hh:=D.2.1.2.2.1
 have hm:=I.hml
 obtain ⟨i1,i2⟩:=C0h x.2.1 D.1.1 (A1O D.1)
 refine ⟨⟨i1,?_⟩,D7O D.1 (by omega),(D0C D.1 (by omega) (by omega)).2 D.2.1⟩
 rw [i2]
 simp only [O1,D.2.1.2.2.2]
noncomputable abbrev X1:=Int×Lq2×Int×List Int
noncomputable def D4E (j:X1):Prop:=L1 j.2.1=true∧j.2.2.2.length≤1048576
structure AnyC (jobs:List X1) (log:LIbe):Prop where
 jn:jobs.length≤1048576
 ok:∀ j∈jobs,D4E j
 ln:log.length≤1001
noncomputable def dCh:Int×Bool:=(0,false)
noncomputable def chP (log:LIbe) (tx:Int):Nat×Int:=A45 (fun i=>cond ((log.getD i dCh).1==tx) (some (0,(i:Int))) none) (1,0) log.length 0
noncomputable def A2E (log:LIbe) (tx:Int):Int:=cond ((chP log tx).1==0) (chP log tx).2 (-1)
theorem D7l (log:LIbe) (tx:Int):(∃ j:Nat,j<log.length∧chP log tx=(0,(j:Int)))∨chP log tx=(1,0):=by
 rcases V7 (fun i=>cond ((log.getD i dCh).1==tx) (some ((0:Nat),(i:Int))) none) (1,0) log.length 0 with ⟨j,a,_,h2,h3,_,h5⟩ | ⟨_,h⟩
 ·refine .inl ⟨j,by omega,?_⟩
  rw [chP,h5]
  cases hc:((log.getD j dCh).1==tx) with
  | true=>simp only [hc,cond_true,Option.some.injEq] at h3;exact h3.symm
  | false=>simp only [hc,cond_false] at h3;cases h3
 ·exact .inr h
theorem F0D (log:LIbe) (tx:Int):(cond ((chP log tx).1==0) true ((chP log tx).1==1))=true:=by
 rcases D7l log tx with ⟨j,h1,h2⟩ | h
 ·rw [h2];rfl
 ·rw [h];rfl
theorem D4G (a0 a1 a2:Int) (a3:List X1) {a4:LIbe} (a5:Int) (hl:a4.length≤1048576) (tx:Int):A0f a0 a1 a2 a3 a4 a5 tx=true∧A3E a0 a1 a2 a3 a4 a5 tx=A2E a4 tx:=by
 have e:A3X tx 0 a0 a1 a2 a3 a4 a5=chP a4 tx:=by
  refine A23 (fun i=>(tx,(i:Int))) a4.length _ _ (by omega) (fun i hi=>?_) ?_
  ·have e1:decide ((i:Int)<(a4.length:Int))=true:=decide_eq_true (by omega)
   have e2:decide (0≤(i:Int)∧(i:Int)<(a4.length:Int))=true:=decide_eq_true (by omega)
   simp only [A7k,e1,e2,cond_true,Int.toNat_natCast,K6 i (by omega),dCh]
   cases ((a4.getD i (0,false)).1==tx)<;>rfl
  ·have e1:decide ((a4.length:Int)<(a4.length:Int))=false:=decide_eq_false (by omega)
   simp only [A7k,e1,cond_false]
 simp only [A0f,A3E,e]
 exact ⟨F0D a4 tx,rfl⟩
theorem C6W (a0 a1 a2:Int) (a3:List X1) {a4:LIbe} (a5:Int) (hl:a4.length≤1048576) (tx:Int):M9 tx a0 a1 a2 a3 a4 a5=true∧U0 tx a0 a1 a2 a3 a4 a5=A2E a4 tx:=by
 have e:N2 a4 (a4.length:Int) 0 tx=chP a4 tx:=by
  refine A23 (fun i=>(a4,(a4.length:Int),(i:Int))) a4.length _ _ (by omega) (fun i hi=>?_) ?_
  ·have e1:decide ((i:Int)<(a4.length:Int))=true:=decide_eq_true (by omega)
   have e2:decide (0≤(i:Int)∧(i:Int)<(a4.length:Int))=true:=decide_eq_true (by omega)
   simp only [R8,A1h,A80,e1,e2,cond_true,Int.toNat_natCast,K6 i (by omega),dCh]
   cases ((a4.getD i (0,false)).1==tx)<;>rfl
  ·have e1:decide ((a4.length:Int)<(a4.length:Int))=false:=decide_eq_false (by omega)
   simp only [R8,e1,cond_false]
 simp only [M9,U0,M4,A0o,e]
 exact ⟨F0D a4 tx,rfl⟩
noncomputable def D6:X1:=(0,[],0,[])
noncomputable def D6S (L ys:List Int) (i:Nat):Option (Nat×Bool):=cond (!decide (ys.getD i 0∈L)) (some (0,false)) (cond (decide ((i:Int) > 0)) (cond (decide (ys.getD (i - 1) 0 ≥ ys.getD i 0)) (some (0,false)) none) none)
noncomputable def C6E (L ys:List Int):Nat×Bool:=A45 (D6S L ys) (1,false) ys.length 0
noncomputable def D93 (log:LIbe) (st ch:Int):Bool:=cond (st==1) (decide (ch<0)) (cond (st==2) (cond (decide (ch ≥ 0)) (log.getD ch.toNat dCh).2 false) (cond (st==3) (cond (decide (ch ≥ 0)) (!(log.getD ch.toNat dCh).2) false) false))
noncomputable def C4Q (a0 a1 a2:Int) (a4:LIbe) (j:X1):Bool:=C0 j.1 (wI (a1*1000)) (wI (wI (wI (a1*1000)+a2) - 1))&&(Z7 j.2.1&&((C6E (E4 j.2.1 a0) j.2.2.2).1==1&&D93 a4 j.2.2.1 (A2E a4 j.1)))
noncomputable def C7q (a3:List X1) (i:Nat):Bool:=cond (decide ((i:Int) > 0)) (!decide ((a3.getD (i - 1) D6).1 ≥ (a3.getD i D6).1)) true
noncomputable def shO (n:Int) (o:Int×ByteArray×ByteArray):Int:=B4c o.2.1 n
theorem D0c {l:Lq2} (h:L1 l=true) {o:Int×ByteArray×ByteArray} (ho:o∈l):o.2.1.size≤1048576:=(E6E h o ho).1
theorem F0M (s:ByteArray) (i:Int):∃ n:Nat,bt s i=(n:Int)∧n<256:=by
 unfold bt
 split
 ·exact ⟨_,rfl,UInt8.toNat_lt _⟩
 ·exact ⟨0,rfl,by decide⟩
theorem E0m (n:Nat):IntKind.wrap .u32 (n:Int)=((n % 4294967296:Nat):Int):=by
 show (if (false&&decide ((n:Int) % (2 ^ 32:Int) ≥ (2 ^ 31:Int)))=true then (n:Int) % (2 ^ 32:Int) - (2 ^ 32:Int) else (n:Int) % (2 ^ 32:Int))=_
 simp only [Bool.false_and,Bool.false_eq_true,if_false];omega
theorem D3j {a b:Nat} (ha:a<4294967296) (hb:b<4294967296):a ^^^ b<4294967296:=Nat.xor_lt_two_pow (n:=32) ha hb
theorem E5D (n:Nat) (h:n<4294967296):(BitVec.ofInt 32 (n:Int)).toNat=n:=by
 simp [BitVec.toNat_ofInt];omega
theorem F0P {a b:Nat} (ha:a<4294967296) (hb:b<4294967296):ixor .u32 (a:Int) (b:Int)=((a ^^^ b:Nat):Int):=by
 have h:=D3j ha hb
 show IntKind.wrap .u32 (((BitVec.ofInt 32 (a:Int) ^^^ BitVec.ofInt 32 (b:Int)).toNat:Nat):Int)=_
 rw [BitVec.toNat_xor,E5D a ha,E5D b hb,E0m,Nat.mod_eq_of_lt h]
theorem B76 (n:Nat) (h:n<18446744073709551616):(BitVec.ofInt 64 (n:Int)).toNat=n:=by
 simp [BitVec.toNat_ofInt];omega
theorem F1i {a b:Nat} (ha:a<4294967296) (hb:b<4294967296):ixor .i64 (a:Int) (b:Int)=((a ^^^ b:Nat):Int):=by
 have h:=D3j ha hb
 show wI (((BitVec.ofInt 64 (a:Int) ^^^ BitVec.ofInt 64 (b:Int)).toNat:Nat):Int)=_
 rw [BitVec.toNat_xor,B76 a (by omega),B76 b (by omega)]
 exact I5 (by omega) (by omega)
theorem F1l (n:Nat) (h:n<9223372036854775808):iand .i64 (n:Int) 4294967295=((n % 4294967296:Nat):Int):=by
 show wI (((BitVec.ofInt 64 (n:Int) &&& BitVec.ofInt 64 ((4294967295:Nat):Int)).toNat:Nat):Int)=_
 rw [BitVec.toNat_and,B76 n (by omega),B76 4294967295 (by omega),show (4294967295:Nat)=2 ^ 32 - 1 from rfl,Nat.and_two_pow_sub_one_eq_mod]
 exact I5 (by omega) (by omega)
theorem E7y {s:ByteArray} (hs:s.size≤1048576):∃ h:Nat,h<4294967296∧B4C s 2166136261 0=(0,(h:Int))∧B5r s 2166136261 0=(0,(h:Int)):=by
 have key:=E9S (ss:=fun v:B7L=>B5m v.1 v.2.1 v.2.2) (fa:=C6A) (tt:=fun v:B8F=>B4q v.1 v.2.1 v.2.2) (fb:=C6J) (v:=(s,2166136261,0)) (w:=(s,2166136261,0))
  (fun v w=>∃ h i:Nat,v=(s,(h:Int),(i:Int))∧w=(s,(h:Int),(i:Int))∧h<4294967296∧i≤s.size) (fun a b=>∃ h:Nat,h<4294967296∧a=(0,(h:Int))∧b=(0,(h:Int))) (fun v=>s.size - v.2.2.toNat) (fun v w hr=>by
   obtain ⟨h,i,rfl,rfl,h1,h2⟩:=hr
   by_cases hi:i<s.size
   ·have e1:decide ((i:Int)<(s.size:Int))=true:=decide_eq_true (by omega)
    have e2:decide (0≤(i:Int)∧(i:Int)<(s.size:Int))=true:=decide_eq_true (by omega)
    obtain ⟨b,hb,hb2⟩:=F0M s (i:Int)
    have w1:IntKind.wrap .u32 (b:Int)=(b:Int):=by rw [E0m];omega
    have w2:wI (b:Int)=(b:Int):=I5 (by omega) (by omega)
    have hx:=D3j h1 (show b<4294967296 by omega)
    have c1:((h ^^^ b:Nat):Int)*16777619=(((h ^^^ b)*16777619:Nat):Int):=by simp
    have w3:wI ((((h ^^^ b)*16777619:Nat):Int))=(((h ^^^ b)*16777619:Nat):Int):=I5 (by omega) (by omega)
    refine .inl ⟨(s,(((h ^^^ b)*16777619 % 4294967296:Nat):Int),((i+1:Nat):Int)),(s,(((h ^^^ b)*16777619 % 4294967296:Nat):Int),((i+1:Nat):Int)),?_,?_,⟨_,i+1,rfl,rfl,Nat.mod_lt _ (by decide),by omega⟩,by simp only [Int.toNat_natCast];omega⟩
    ·simp only [B5m,e1,e2,cond_true,hb,w1,F0P h1 (show b<4294967296 by omega),c1,E0m,K6 i (by omega)]
    ·simp only [B4q,e1,e2,cond_true,hb,w2,F1i h1 (show b<4294967296 by omega),c1,w3,F1l _ (show (h ^^^ b)*16777619<9223372036854775808 by omega),K6 i (by omega)]
   ·have e1:decide ((i:Int)<(s.size:Int))=false:=decide_eq_false (by omega)
    exact .inr ⟨_,_,by simp only [B5m,e1,cond_false],by simp only [B4q,e1,cond_false],h,h1,rfl,rfl⟩) ⟨2166136261,0,rfl,rfl,by decide,Nat.zero_le _⟩ (by simp;omega)
 obtain ⟨h,h1,h2,h3⟩:=key
 exact ⟨h,h1,h2,h3⟩
theorem B9z {s:ByteArray} (hs:s.size≤1048576) (n:Int):A7x s n=true∧A2D s n=true∧B4c s n=B4a s n∧0≤B4c s n∧(1≤n→B4c s n<n):=by
 obtain ⟨h,h1,h2,h3⟩:=E7y hs
 have w:wI (h:Int)=(h:Int):=I5 (by omega) (by omega)
 simp only [A7x,A2D,B4c,B4a,C4l,C4M,E5t,E5J,h2,h3,w]
 by_cases hn:n<1
 ·simp only [decide_eq_true hn,cond_true]
  exact ⟨trivial,trivial,trivial,Int.le_refl _,fun h=>by omega⟩
 ·have e:decide (n ≠ 0)=true:=decide_eq_true (by omega)
  simp only [decide_eq_false hn,cond_false,e]
  exact ⟨rfl,rfl,trivial,Int.tmod_nonneg _ (by omega),fun _=>Int.tmod_lt_of_pos _ (by omega)⟩
theorem E5u {α:Type} (a b:List α) (y x:α):(a++y::b).set a.length x=a++x::b:=by
 rw [List.set_append_right _ _ (Nat.le_refl _),Nat.sub_self];rfl
theorem E5H {α:Type} {R:α→α→Prop} {l:List α} (h:l.Pairwise R) (i:Nat) (hi:i<l.length) (d:α):∀ x∈l.take i,R x (l.getD i d):=by
 intro x hx
 obtain ⟨j,hj,rfl⟩:=List.getElem_of_mem hx
 rw [List.length_take] at hj
 have:=List.pairwise_iff_getElem.1 h j i (by omega) hi (by omega)
 simpa [List.getD_eq_getElem?_getD,hi] using this
theorem D5q {l:List Int} (hl:l.length≤1048576) (hs:l.Pairwise (·<·)) (x:Int):A1w l x=true∧(A0X l x).Pairwise (·<·)∧(A0X l x).length≤l.length+1∧∀ z,z∈A0X l x↔z∈l∨z=x:=by
 obtain ⟨h1,h2⟩:=B4l hl x
 by_cases hx:x∈l
 ·simp only [A1w,A0X,h1,h2,decide_eq_true hx,cond_true,Bool.true_and]
  exact ⟨trivial,hs,by omega,fun z=>⟨.inl,fun h=>h.elim id (fun h=>h ▸ hx)⟩⟩
 ·have key : ∃ (k : Nat) (y : Int), B4K x (l.length : Int) (l ++ [x]) = (0, x, (k : Int), l.take k ++ y :: l.drop k) ∧ k ≤ l.length ∧ (∀ z ∈ l.drop k, x < z) ∧ ∀ z ∈ l.take k, z < x := by
   refine A0n (fun v:A64=>∃ (k:Nat) (y:Int),v=(x,(k:Int),l.take k++y::l.drop k)∧k≤l.length∧∀ z∈l.drop k,x<z) (fun a:A4t=>∃ (k:Nat) (y:Int),a=(0,x,(k:Int),l.take k++y::l.drop k)∧k≤l.length∧(∀ z∈l.drop k,x<z)∧∀ z∈l.take k,z<x) (fun v=>v.2.1.toNat) ?_ ⟨l.length,x,by rw [List.take_length,List.drop_length],Nat.le_refl _,by simp⟩ (by simp;omega)
   rintro v ⟨k,y,rfl,hk,hd⟩
   have hlen:(l.take k++y::l.drop k).length=l.length+1:=by simp;omega
   cases k with
   | zero =>
    have e1:decide (((0:Nat):Int) > 0)=false:=by decide
    simp only [A9x,e1,cond_false]
    exact .inr ⟨_,rfl,0,y,rfl,Nat.zero_le _,hd,by simp⟩
   | succ k =>
    have hlt:k<l.length:=by omega
    have w:wI (((k+1:Nat):Int) - 1)=((k:Nat):Int):=by rw [I5 (by omega) (by omega)];omega
    have e1:decide (((k+1:Nat):Int) > 0)=true:=decide_eq_true (by omega)
    have e2:decide (0≤((k:Nat):Int)∧((k:Nat):Int)<(((l.take (k+1)++y::l.drop (k+1)).length:Nat):Int))=true:=decide_eq_true (by omega)
    have e3:decide (0≤((k+1:Nat):Int)∧((k+1:Nat):Int)<(((l.take (k+1)++y::l.drop (k+1)).length:Nat):Int))=true:=decide_eq_true (by omega)
    have hg:(l.take (k+1)++y::l.drop (k+1)).getD k 0=l.getD k 0:=by
     rw [List.getD_eq_getElem?_getD,List.getElem?_append_left (by rw [List.length_take];omega),List.getElem?_take_of_lt (by omega),← List.getD_eq_getElem?_getD]
    have hset:(l.take (k+1)++y::l.drop (k+1)).set (k+1) (l.getD k 0)=l.take k++l.getD k 0::l.drop k:=by
     have hk1:(l.take (k+1)).length=k+1:=by rw [List.length_take];omega
     have:=E5u (l.take (k+1)) (l.drop (k+1)) y (l.getD k 0)
     rw [hk1] at this
     rw [this,D5 hlt 0,List.append_assoc]
     have hd2:l.drop k=l.getD k 0::l.drop (k+1):=by
      rw [List.drop_eq_getElem_cons hlt];simp [List.getD_eq_getElem?_getD,hlt]
     rw [hd2];rfl
    simp only [A9x,w,e1,e2,e3,hg,hset,cond_true,Int.toNat_natCast]
    by_cases hgt:l.getD k 0 > x
    ·simp only [decide_eq_true hgt,cond_true]
     refine .inl ⟨_,rfl,⟨k,l.getD k 0,rfl,by omega,fun z hz=>?_⟩,by simp only [Int.toNat_natCast];omega⟩
     have hd2:l.drop k=l.getD k 0::l.drop (k+1):=by
      rw [List.drop_eq_getElem_cons hlt];simp [List.getD_eq_getElem?_getD,hlt]
     rw [hd2] at hz
     rcases List.mem_cons.1 hz with rfl | hz
     ·exact hgt
     ·exact hd z hz
    ·simp only [decide_eq_false hgt,cond_false]
     refine .inr ⟨_,rfl,k+1,y,rfl,hk,hd,fun z hz=>?_⟩
     have hzl:z∈l:=List.mem_of_mem_take hz
     have hne:z ≠ x:=fun h=>hx (h ▸ hzl)
     rw [D5 hlt 0] at hz
     rcases List.mem_append.1 hz with hz | hz
     ·have:=E5H hs k hlt 0 z hz;omega
     ·simp only [List.mem_singleton] at hz;omega
  obtain ⟨k,y,e,hk,hd,ht⟩:=key
  have hlen:(l.take k++y::l.drop k).length=l.length+1:=by simp;omega
  have w:wI ((((([]:List Int)++l)++[x]).length:Int) - 1)=(l.length:Int):=by rw [List.nil_append,List.length_append,List.length_singleton,I5 (by omega) (by omega)];omega
  have hk1:(l.take k).length=k:=by rw [List.length_take];omega
  have hset:=E5u (l.take k) (l.drop k) y x
  rw [hk1] at hset
  have m1:decide ((([]:List Int).length+l.length)*8≤MAXB)=true:=decide_eq_true (by simp only [List.length_nil,MAXB];omega)
  have m2:decide (((([]:List Int)++l).length+[x].length)*8≤MAXB)=true:=decide_eq_true (by simp only [List.nil_append,List.length_singleton,MAXB];omega)
  have m3:decide (0≤(k:Int)∧(k:Int)<(((l.take k++y::l.drop k).length:Nat):Int))=true:=decide_eq_true (by omega)
  have k1:A9B l x=(0,x,(k:Int),l.take k++y::l.drop k):=by rw [A9B,w,List.nil_append,e]
  simp only [A1w,A0X,h1,h2,decide_eq_false hx,cond_false,m1,m2,k1,m3,Int.toNat_natCast,hset,Bool.true_and]
  have hs':=hs
  rw [← List.take_append_drop k l,List.pairwise_append] at hs'
  obtain ⟨p1,p2,p3⟩:=hs'
  refine ⟨rfl,List.pairwise_append.2 ⟨p1,List.pairwise_cons.2 ⟨hd,p2⟩,fun a ha b hb=>?_⟩,by simp;omega,fun z=>?_⟩
  ·rcases List.mem_cons.1 hb with rfl | hb
   ·exact ht a ha
   ·exact p3 a ha b hb
  ·have : z ∈ l ↔ z ∈ l.take k ∨ z ∈ l.drop k := by
    rw [← List.mem_append,List.take_append_drop]
   rw [this,List.mem_append,List.mem_cons]
   constructor
   ·rintro (h | h | h)
    ·exact .inl (.inl h)
    ·exact .inr h
    ·exact .inl (.inr h)
   ·rintro ((h | h) | h)
    ·exact .inl h
    ·exact .inr (.inr h)
    ·exact .inr (.inl h)
theorem C2r {l:Lq2} (ho:L1 l=true) (n:Int):O9 l n=true∧(E4 l n).Pairwise (·<·)∧∀ z,z∈E4 l n↔z∈l.map (shO n):=by
 have hl:=L4 ho
 have key:∃ r:List Int,A5P l n [] 0=(0,r)∧r.Pairwise (·<·)∧∀ z,z∈r↔z∈l.map (shO n):=by
  refine A0n (fun v:A6U=>∃ (i:Nat) (r:List Int),v=(l,n,r,(i:Int))∧i≤l.length∧r.Pairwise (·<·)∧r.length≤i∧∀ z,z∈r↔z∈(l.take i).map (shO n)) (fun a:A4E=>∃ r:List Int,a=(0,r)∧r.Pairwise (·<·)∧∀ z,z∈r↔z∈l.map (shO n)) (fun v=>l.length - v.2.2.2.toNat) ?_ ⟨0,[],rfl,Nat.zero_le _,.nil,Nat.le_refl _,by simp⟩ (by simp;omega)
  rintro v ⟨i,r,rfl,hi,hp,hr,hm⟩
  by_cases hlt:i<l.length
  ·have e1:decide ((i:Int)<(l.length:Int))=true:=decide_eq_true (by omega)
   have e2:decide (0≤(i:Int)∧(i:Int)<(l.length:Int))=true:=decide_eq_true (by omega)
   have hk:=D0c ho (I7 hlt dOp)
   obtain ⟨_,q1,q2,_⟩:=B9z hk n
   obtain ⟨p1,p2,p3,p4⟩:=D5q (l:=r) (by omega) hp (B4a (l.getD i dOp).2.1 n)
   have hd:((0:Int),((⟨#[]⟩:ByteArray),(⟨#[]⟩:ByteArray)))=dOp:=rfl
   simp only [A8R,B83,hd,e1,e2,cond_true,Int.toNat_natCast,q1,p1,K6 i (by omega)]
   refine .inl ⟨_,rfl,⟨i+1,_,rfl,by omega,p2,by omega,fun z=>?_⟩,by simp only [Int.toNat_natCast];omega⟩
   rw [p4,hm,D5 hlt dOp,List.map_append,List.mem_append,← q2]
   simp only [List.map_cons,List.map_nil,List.mem_singleton,shO]
  ·obtain rfl:i=l.length:=by omega
   have e1:decide ((l.length:Int)<(l.length:Int))=false:=decide_eq_false (by omega)
   simp only [A8R,e1,cond_false]
   rw [List.take_length] at hm
   exact .inr ⟨_,rfl,r,rfl,hp,hm⟩
 obtain ⟨r,e,h1,h2⟩:=key
 simp only [O9,E4,e]
 exact ⟨rfl,h1,h2⟩
theorem D9J {l:Lq2} (ho:L1 l=true) (n:Int):A5G n l (l.length:Int) 0 []=(0,l.map (shO n)):=by
 have hl:=L4 ho
 refine A0n (fun v:A6H=>∃ i:Nat,v=(n,l,(l.length:Int),(i:Int),(l.take i).map (shO n))∧i≤l.length) (fun a:A4y=>a=(0,l.map (shO n))) (fun v=>l.length - v.2.2.2.1.toNat) ?_ ⟨0,by simp,Nat.zero_le _⟩ (by simp;omega)
 rintro v ⟨i,rfl,hi⟩
 by_cases hlt:i<l.length
 ·have e1:decide ((i:Int)<(l.length:Int))=true:=decide_eq_true (by omega)
  have e2:decide (0≤(i:Int)∧(i:Int)<(l.length:Int))=true:=decide_eq_true (by omega)
  have hm:∀ x:Int,decide ((((l.take i).map (shO n)).length+[x].length)*8≤MAXB)=true:=fun x=>decide_eq_true (by simp only [List.length_map,List.length_take,List.length_singleton,MAXB];omega)
  have hk:=D0c ho (I7 hlt dOp)
  have hq:=(B9z hk n).1
  simp only [dOp] at hq
  simp only [A8x,e1,e2,cond_true,Int.toNat_natCast,hq,hm,C0p,K6 i (by omega)]
  refine .inl ⟨_,rfl,⟨i+1,?_,by omega⟩,by simp only [Int.toNat_natCast];omega⟩
  rw [D5 hlt dOp,List.map_append]
  rfl
 ·obtain rfl:i=l.length:=by omega
  have e1:decide ((l.length:Int)<(l.length:Int))=false:=decide_eq_false (by omega)
  simp only [A8x,e1,cond_false]
  exact .inr ⟨_,rfl,by rw [List.take_length]⟩
theorem D5t {l:Lq2} (ho:L1 l=true) (n:Int):A3n l n=true∧B3F l n=Lib.compact (A6L (l.map (shO n))):=by
 have hl:=L4 ho
 have q1:∀ x:List Int,x.length=l.length→C8b x=true:=fun x hx=>decide_eq_true (by omega)
 simp only [A3n,B3F,B3x,D9J ho n,A7l,A0P,q1 _ (by simp:(l.map (shO n)).length=l.length),q1 (A6L (l.map (shO n))) (by simp [A6L]),E3b]
 refine ⟨?_,?_⟩
 ·simp
 ·rw [Int.toNat_natCast,List.drop_zero,List.take_left]
theorem C4o {α:Type} {R:α→α→Prop} {h:List α} {x:α} (h1:h.Pairwise R) (h2:∀ y∈h,R y x):(h++[x]).Pairwise R:=by
 rw [List.pairwise_append]
 exact ⟨h1,by simp,fun a ha b hb=>by simp at hb;subst hb;exact h2 a ha⟩
theorem E2I {zs:List Int} (hs:zs.Pairwise (·≤·)):∀ m,m≤zs.length→(∀ x∈Lib.compactUpTo zs.toArray m,x∈zs)∧(∀ j,j<m→zs.getD j 0∈Lib.compactUpTo zs.toArray m)∧(Lib.compactUpTo zs.toArray m).Pairwise (·<·)∧(∀ x∈Lib.compactUpTo zs.toArray m,x≤zs.getD (m - 1) 0):=by
 have hg:∀ j,j<zs.length→zs.toArray[j]! = zs.getD j 0:=fun j hj=>by
  rw [getElem!_pos zs.toArray j (by simpa using hj)];simp [List.getD_eq_getElem?_getD,hj]
 intro m
 induction m with
 | zero=>intro _;exact ⟨fun x hx=>by simp [Lib.compactUpTo] at hx,fun j hj=>by omega,by simp [Lib.compactUpTo],fun x hx=>by simp [Lib.compactUpTo] at hx⟩
 | succ m ih =>
  intro hm
  obtain ⟨i1,i2,i3,i4⟩:=ih (by omega)
  rw [Lib.compactUpTo_succ]
  have hmz:zs.getD m 0∈zs:=I7 (by omega) _
  by_cases hk:Lib.keeps zs.toArray m=true
  ·rw [if_pos hk,hg m (by omega)]
   have hlt:∀ x∈Lib.compactUpTo zs.toArray m,x<zs.getD m 0:=by
    intro x hx
    have hm0:0<m:=by
     cases m with
     | zero=>simp [Lib.compactUpTo] at hx
     | succ m=>omega
    have h1:=i4 x hx
    have h2:=List.pairwise_iff_getElem.1 hs (m - 1) m (by omega) (by omega) (by omega)
    have e1:zs.getD (m - 1) 0=zs[m - 1]:=by simp [List.getD_eq_getElem?_getD,show m - 1<zs.length by omega]
    have e2:zs.getD m 0=zs[m]:=by simp [List.getD_eq_getElem?_getD,show m<zs.length by omega]
    have h3:zs.getD m 0 ≠ zs.getD (m - 1) 0:=by
     simp only [Lib.keeps,decide_eq_true_eq] at hk
     rcases hk with hk | hk
     ·omega
     ·rw [hg m (by omega),hg (m - 1) (by omega)] at hk;exact hk
    rw [e1] at h1 h3
    rw [e2] at h3 ⊢
    omega
   refine ⟨fun x hx=>?_,fun j hj=>?_,C4o i3 hlt,fun x hx=>?_⟩
   ·rcases List.mem_append.1 hx with hx | hx
    ·exact i1 x hx
    ·simp at hx;rw [hx];simpa using hmz
   ·by_cases e:j=m
    ·subst e;simp
    ·exact List.mem_append_left _ (i2 j (by omega))
   ·rw [Nat.add_sub_cancel]
    rcases List.mem_append.1 hx with hx | hx
    ·exact Int.le_of_lt (hlt x hx)
    ·simp only [List.mem_singleton] at hx;rw [hx];exact Int.le_refl _
  ·have hk':Lib.keeps zs.toArray m=false:=by simpa using hk
   have hm0:¬ m=0:=by
    intro e;subst e;simp [Lib.keeps] at hk
   have heq:zs.getD m 0=zs.getD (m - 1) 0:=by
    simp only [Lib.keeps,decide_eq_false_iff_not,not_or,Classical.not_not] at hk'
    rw [hg m (by omega),hg (m - 1) (by omega)] at hk'
    exact hk'.2
   rw [if_neg hk,List.append_nil]
   refine ⟨i1,fun j hj=>?_,i3,fun x hx=>?_⟩
   ·by_cases e:j=m
    ·subst e;rw [heq];exact i2 (j - 1) (by omega)
    ·exact i2 j (by omega)
   ·rw [Nat.add_sub_cancel,heq];exact i4 x hx
theorem D80 (l:List Int):(A6L l).Pairwise (·≤·):=by
 have h:=List.pairwise_mergeSort (le:=fun x y:Int=>decide (x≤y)) (fun a b c h1 h2=>by simp at *;omega) (fun a b=>by simp;omega) l
 exact h.imp (fun h=>by simpa using h)
theorem D7S (l:List Int) (x:Int):x∈A6L l↔x∈l:=by simp [A6L]
theorem D89 (l:List Int):(Lib.compact (A6L l)).Pairwise (·<·)∧∀ x,x∈Lib.compact (A6L l)↔x∈l:=by
 obtain ⟨i1,i2,i3,_⟩:=E2I (D80 l) (A6L l).length (Nat.le_refl _)
 refine ⟨i3,fun x=>⟨fun h=>(D7S l x).1 (i1 x h),fun h=>?_⟩⟩
 obtain ⟨j,hj,e⟩:=List.getElem_of_mem ((D7S l x).2 h)
 have:=i2 j hj
 rw [List.getD_eq_getElem?_getD,List.getElem?_eq_getElem hj,Option.getD_some,e] at this
 exact this
theorem D42:∀ a b:List Int,a.Pairwise (·<·)→b.Pairwise (·<·)→(∀ x,x∈a↔x∈b)→a=b
 | [],[],_,_,_=>rfl
 | [],y::b,_,_,h=>absurd ((h y).2 List.mem_cons_self) (by simp)
 | x::a,[],_,_,h=>absurd ((h x).1 List.mem_cons_self) (by simp)
 | x::a,y::b,ha,hb,h=>by
  obtain ⟨a1,a2⟩:=List.pairwise_cons.1 ha
  obtain ⟨b1,b2⟩:=List.pairwise_cons.1 hb
  have hxy:x=y:=by
   rcases List.mem_cons.1 ((h x).1 List.mem_cons_self) with h1 | h1
   ·exact h1
   ·rcases List.mem_cons.1 ((h y).2 List.mem_cons_self) with h2 | h2
    ·exact h2.symm
    ·have:=b1 x h1;have:=a1 y h2;omega
  subst hxy
  rw [D42 a b a2 b2 fun z=>⟨fun hz=>?_,fun hz=>?_⟩]
  ·rcases List.mem_cons.1 ((h z).1 (List.mem_cons_of_mem _ hz)) with h1 | h1
   ·have:=a1 z hz;omega
   ·exact h1
  ·rcases List.mem_cons.1 ((h z).2 (List.mem_cons_of_mem _ hz)) with h1 | h1
   ·have:=b1 z hz;omega
   ·exact h1
theorem C08 (zs:Array Int):∀ m,(Lib.compactUpTo zs m).length≤m
 | 0=>by simp [Lib.compactUpTo]
 | m+1=>by
  have:=C08 zs m
  rw [Lib.compactUpTo_succ]
  by_cases hk:Lib.keeps zs m=true
  ·rw [if_pos hk,List.length_append];simp;omega
  ·rw [if_neg hk,List.append_nil];omega
theorem E1N (l:List Int):(Lib.compact (A6L l)).length≤l.length:=by
 have h:=C08 (A6L l).toArray (A6L l).length
 have e:(A6L l).length=l.length:=by simp [A6L]
 rw [e] at h
 exact Nat.le_trans (Nat.le_of_eq (by simp [Lib.compact,e])) h
theorem B0U {l:Lq2} (ho:L1 l=true) (n:Int):O9 l n=true∧A3n l n=true∧B3F l n=E4 l n∧(E4 l n).length≤1048576:=by
 obtain ⟨s1,s2,s3⟩:=C2r ho n
 obtain ⟨i1,i2⟩:=D5t ho n
 obtain ⟨c1,c2⟩:=D89 (l.map (shO n))
 have e:B3F l n=E4 l n:=by rw [i2];exact D42 _ _ c1 s2 (fun z=>by rw [c2,s3])
 refine ⟨s1,i1,e,?_⟩
 have hc:=E1N (l.map (shO n))
 have hl:=L4 ho
 rw [← e,i2]
 rw [List.length_map] at hc
 omega
theorem C6a (log:LIbe) (tx:Int):A2E log tx=-1∨0≤A2E log tx∧A2E log tx<(log.length:Int):=by
 rcases D7l log tx with ⟨j,h1,h2⟩ | h
 ·right;simp only [A2E,h2];show 0≤(j:Int)∧(j:Int)<_;omega
 ·left;simp only [A2E,h];rfl
theorem E85 {L ys:List Int} (hL:L.length≤1048576) (hy:ys.length≤1048576) (a0 a1 a2:Int) (a3:List X1) (a4:LIbe) (a5 b0:Int) (b1:Lq2) (b2:Int):B8X L 0 a0 a1 a2 a3 a4 a5 b0 b1 b2 ys=C6E L ys:=by
 refine A23 (fun i=>(L,(i:Int))) ys.length _ _ (by omega) (fun i hi=>?_) ?_
 ·have e1:decide ((i:Int)<(ys.length:Int))=true:=decide_eq_true (by omega)
  have e2:decide (0≤(i:Int)∧(i:Int)<(ys.length:Int))=true:=decide_eq_true (by omega)
  obtain ⟨q1,q2⟩:=B4l hL (ys.getD i 0)
  simp only [B2U,e1,e2,cond_true,Int.toNat_natCast,q1,q2,K6 i (by omega),D6S]
  cases i with
  | zero=>cases decide (ys.getD 0 0∈L)<;>rfl
  | succ k =>
   have w:wI (((k+1:Nat):Int) - 1)=((k:Nat):Int):=by rw [I5 (by omega) (by omega)];omega
   have e3:decide (((k+1:Nat):Int) > 0)=true:=decide_eq_true (by omega)
   have e4:decide (0≤((k:Nat):Int)∧((k:Nat):Int)<(ys.length:Int))=true:=decide_eq_true (by omega)
   simp only [w,e3,e4,cond_true,Int.toNat_natCast,Nat.add_sub_cancel]
   cases decide (ys.getD (k+1) 0∈L)<;>cases decide (ys.getD k 0 ≥ ys.getD (k+1) 0)<;>rfl
 ·have e1:decide ((ys.length:Int)<(ys.length:Int))=false:=decide_eq_false (by omega)
  simp only [B2U,e1,cond_false]
theorem E7T (x:Int):((x==1)=true∧(x==2)=false∧(x==3)=false∧C0 x 1 3=true)∨((x==1)=false∧(x==2)=true∧(x==3)=false∧C0 x 1 3=true)∨((x==1)=false∧(x==2)=false∧(x==3)=true∧C0 x 1 3=true)∨((x==1)=false∧(x==2)=false∧(x==3)=false∧C0 x 1 3=false):=by
 by_cases h1:x=1
 ·subst h1;exact .inl ⟨rfl,rfl,rfl,rfl⟩
 by_cases h2:x=2
 ·subst h2;exact .inr (.inl ⟨rfl,rfl,rfl,rfl⟩)
 by_cases h3:x=3
 ·subst h3;exact .inr (.inr (.inl ⟨rfl,rfl,rfl,rfl⟩))
 refine .inr (.inr (.inr ⟨by simpa using h1,by simpa using h2,by simpa using h3,?_⟩))
 simp only [C0]
 by_cases h4:x ≥ 1
 ·rw [decide_eq_true h4,decide_eq_false (by omega)];rfl
 ·rw [decide_eq_false h4];rfl
theorem C61 (L ys:List Int):C6E L ys=(0,false)∨C6E L ys=(1,false):=by
 rcases V7 (D6S L ys) (1,false) ys.length 0 with ⟨j,a,_,h2,h3,_,h5⟩ | ⟨_,h⟩
 ·left
  rw [C6E,h5]
  simp only [D6S] at h3
  revert h3
  cases (!decide (ys.getD j 0∈L))<;>cases decide ((j:Int) > 0)<;>cases decide (ys.getD (j - 1) 0 ≥ ys.getD j 0)<;>simp [eq_comm]
 ·exact .inr h
theorem E9l (a0 a1 a2:Int) {a3:List X1} {a4:LIbe} (a5:Int) (hl:a4.length≤1048576) (h3:a3.length≤1048576) {i:Nat} (hi:i<a3.length) (hj:D4E (a3.getD i D6)):A79 a0 a1 a2 a3 a4 a5 (i:Int)=true∧C4u a0 a1 a2 a3 a4 a5 (i:Int)=(C4Q a0 a1 a2 a4 (a3.getD i D6)&&C7q a3 i):=by
 have hdj:((0:Int),(([]:Lq2),((0:Int),([]:List Int))))=D6:=rfl
 have e2:decide (0≤(i:Int)∧(i:Int)<(a3.length:Int))=true:=decide_eq_true (by omega)
 have hw:decide ((i:Int) > 0)=true→decide (0≤wI ((i:Int) - 1)∧wI ((i:Int) - 1)<(a3.length:Int))=true∧(wI ((i:Int) - 1)).toNat=i - 1:=fun h=>by
  have:=of_decide_eq_true h
  have w:wI ((i:Int) - 1)=(i:Int) - 1:=I5 (by omega) (by omega)
  rw [w]
  exact ⟨decide_eq_true (by omega),by omega⟩
 obtain ⟨o1,o2⟩:=hj
 obtain ⟨s1,s2,s3,s4⟩:=B0U o1 a0
 obtain ⟨c1,c2⟩:=D4G a0 a1 a2 a3 a5 hl (a3.getD i D6).1
 have hr:=C6a a4 (a3.getD i D6).1
 have hy:=E85 s4 o2 a0 a1 a2 a3 a4 a5 (a3.getD i D6).1 (a3.getD i D6).2.1 (a3.getD i D6).2.2.1
 simp only [A79,C4u,C0s,B8U,B8Y,A2r,hdj,Int.toNat_natCast,e2,s1,c1,c2,o1,hy,C4Q,D93,C7q,dCh,Bool.true_and]
 generalize a3.getD i D6=j at *
 generalize A2E a4 j.1=ch at *
 have hneg:decide (ch<0)=!decide (ch ≥ 0):=by
  by_cases h:ch<0
  ·rw [decide_eq_true h,decide_eq_false (by omega)];rfl
  ·rw [decide_eq_false h,decide_eq_true (by omega)];rfl
 rw [hneg]
 have hrd:decide (ch ≥ 0)=true→decide (0≤ch∧ch<(a4.length:Int))=true:=fun h=>by
  have:=of_decide_eq_true h
  exact decide_eq_true (by omega)
 generalize decide (0≤ch∧ch<(a4.length:Int))=q at hrd
 generalize decide (ch ≥ 0)=g at hrd
 generalize (a4.getD ch.toNat (0,false)).2=b
 generalize C0 j.1 (wI (a1*1000)) (wI (wI (wI (a1*1000)+a2) - 1))=r
 generalize Z7 j.2.1=p
 have hst:=E7T j.2.2.1
 generalize (j.2.2.1==1)=t1 at hst ⊢
 generalize (j.2.2.1==2)=t2 at hst ⊢
 generalize (j.2.2.1==3)=t3 at hst ⊢
 generalize C0 j.2.2.1 1 3=t4 at hst ⊢
 generalize hz:decide ((i:Int) > 0)=z at hw
 generalize decide (0≤wI ((i:Int) - 1)∧wI ((i:Int) - 1)<(a3.length:Int))=wq at hw
 generalize (wI ((i:Int) - 1)).toNat=wn at hw
 rcases C61 (E4 j.2.1 a0) j.2.2.2 with e | e<;>rw [e]
 all_goals cases z with
  | true =>
   obtain ⟨rfl,rfl⟩:=hw rfl
   generalize decide ((a3.getD (i - 1) D6).1 ≥ j.1)=od
   cases g with
   | true=>obtain rfl:=hrd rfl;rcases hst with ⟨rfl,rfl,rfl,rfl⟩ | ⟨rfl,rfl,rfl,rfl⟩ | ⟨rfl,rfl,rfl,rfl⟩ | ⟨rfl,rfl,rfl,rfl⟩<;>cases r<;>cases p<;>cases od<;>cases b<;>exact ⟨rfl,rfl⟩
   | false=>rcases hst with ⟨rfl,rfl,rfl,rfl⟩ | ⟨rfl,rfl,rfl,rfl⟩ | ⟨rfl,rfl,rfl,rfl⟩ | ⟨rfl,rfl,rfl,rfl⟩<;>cases r<;>cases p<;>cases od<;>cases b<;>exact ⟨rfl,rfl⟩
  | false =>
   cases g with
   | true=>obtain rfl:=hrd rfl;rcases hst with ⟨rfl,rfl,rfl,rfl⟩ | ⟨rfl,rfl,rfl,rfl⟩ | ⟨rfl,rfl,rfl,rfl⟩ | ⟨rfl,rfl,rfl,rfl⟩<;>cases r<;>cases p<;>cases b<;>exact ⟨rfl,rfl⟩
   | false=>rcases hst with ⟨rfl,rfl,rfl,rfl⟩ | ⟨rfl,rfl,rfl,rfl⟩ | ⟨rfl,rfl,rfl,rfl⟩ | ⟨rfl,rfl,rfl,rfl⟩<;>cases r<;>cases p<;>cases b<;>exact ⟨rfl,rfl⟩
theorem D6f {l:List Int} (hl:l.length≤1048576) (x:Int):M0 l x=true∧Y0 l x=decide (x∈l):=by
 have e:Z3 l x (l.length:Int) 0=A45 (fun i=>cond (x==l.getD i 0) (some (0,(i:Int))) none) (1,0) l.length 0:=by
  refine A23 (fun i=>(l,x,(l.length:Int),(i:Int))) l.length _ _ (by omega) (fun i hi=>?_) ?_
  ·have e1:decide ((i:Int)<(l.length:Int))=true:=decide_eq_true (by omega)
   have e2:decide (0≤(i:Int)∧(i:Int)<(l.length:Int))=true:=decide_eq_true (by omega)
   simp only [A14,e1,e2,cond_true,Int.toNat_natCast,K6 i (by omega)]
   cases (x==l.getD i 0)<;>rfl
  ·have e1:decide ((l.length:Int)<(l.length:Int))=false:=decide_eq_false (by omega)
   simp only [A14,e1,cond_false]
 simp only [M0,Y0,A0a,A54,e]
 rcases V7 (fun i=>cond (x==l.getD i 0) (some ((0:Nat),(i:Int))) none) (1,0) l.length 0 with ⟨j,a,_,h2,h3,_,h5⟩ | ⟨h1,h2⟩
 ·cases hc:(x==l.getD j 0) with
  | true =>
   simp only [hc,cond_true,Option.some.injEq] at h3
   rw [h5,← h3]
   have hm:x∈l:=by
    simp only [beq_iff_eq] at hc
    rw [hc];exact I7 (by omega) 0
   rw [decide_eq_true hm]
   exact ⟨rfl,decide_eq_true (by show (j:Int) ≥ 0;omega)⟩
  | false=>simp only [hc,cond_false] at h3;cases h3
 ·rw [h2]
  have hm:x ∉ l:=by
   intro hm
   obtain ⟨j,hj,e⟩:=List.getElem_of_mem hm
   have:=h1 j (Nat.zero_le _) (by omega)
   have hg:l.getD j 0=x:=by simp [List.getD_eq_getElem?_getD,hj,e]
   simp only [hg,beq_self_eq_true,cond_true] at this
   cases this
  rw [decide_eq_false hm]
  exact ⟨rfl,rfl⟩
theorem E9V {L ys:List Int} (hL:L.length≤1048576) (hy:ys.length≤1048576) (a0 a1 a2:Int) (a3:List X1) (a4:LIbe) (a5 b0:Int) (b1:Lq2) (b2:Int):A9a L ys (ys.length:Int) 0 a0 a1 a2 a3 a4 a5 b0 b1 b2 ys=C6E L ys:=by
 refine A23 (fun i=>(L,ys,(ys.length:Int),(i:Int))) ys.length _ _ (by omega) (fun i hi=>?_) ?_
 ·have e1:decide ((i:Int)<(ys.length:Int))=true:=decide_eq_true (by omega)
  have e2:decide (0≤(i:Int)∧(i:Int)<(ys.length:Int))=true:=decide_eq_true (by omega)
  obtain ⟨q1,q2⟩:=D6f hL (ys.getD i 0)
  simp only [A4W,e1,e2,cond_true,Int.toNat_natCast,q1,q2,K6 i (by omega),D6S]
  cases i with
  | zero=>cases decide (ys.getD 0 0∈L)<;>rfl
  | succ k =>
   have w:wI (((k+1:Nat):Int) - 1)=((k:Nat):Int):=by rw [I5 (by omega) (by omega)];omega
   have e3:decide (((k+1:Nat):Int) > 0)=true:=decide_eq_true (by omega)
   have e4:decide (0≤((k:Nat):Int)∧((k:Nat):Int)<(ys.length:Int))=true:=decide_eq_true (by omega)
   have e5:decide (ys.getD (k+1) 0≤ys.getD k 0)=decide (ys.getD k 0 ≥ ys.getD (k+1) 0):=rfl
   simp only [w,e3,e4,e5,cond_true,Int.toNat_natCast,Nat.add_sub_cancel]
   cases decide (ys.getD (k+1) 0∈L)<;>cases decide (ys.getD k 0 ≥ ys.getD (k+1) 0)<;>rfl
 ·have e1:decide ((ys.length:Int)<(ys.length:Int))=false:=decide_eq_false (by omega)
  simp only [A4W,e1,cond_false]
theorem E5E (a0 a1 a2:Int) (a3:List X1) {a4:LIbe} (a5:Int) (hl:a4.length≤1048576) {j:X1} (hj:D4E j):A0B j.1 j.2.1 j.2.2.1 j.2.2.2 a0 a1 a2 a3 a4 a5=true∧B3l j.1 j.2.1 j.2.2.1 j.2.2.2 a0 a1 a2 a3 a4 a5=C4Q a0 a1 a2 a4 j:=by
 obtain ⟨o1,o2⟩:=hj
 obtain ⟨s1,s2,s3,s4⟩:=B0U o1 a0
 obtain ⟨c1,c2⟩:=C6W a0 a1 a2 a3 a5 hl j.1
 have hr:=C6a a4 j.1
 have hin:∀ x y z:Int,J0 x y z=C0 x y z:=fun _ _ _=>rfl
 have hy:=E9V s4 o2 a0 a1 a2 a3 a4 a5 j.1 j.2.1 j.2.2.1
 simp only [A0B,B3l,A7d,A7j,B32,A4o,hin,← D4N,s2,s3,c1,c2,o1,hy,C4Q,D93,dCh]
 generalize A2E a4 j.1=ch at *
 have hrd:decide (ch ≥ 0)=true→decide (0≤ch∧ch<(a4.length:Int))=true:=fun h=>by
  have:=of_decide_eq_true h
  exact decide_eq_true (by omega)
 generalize hq:decide (0≤ch∧ch<(a4.length:Int))=q at hrd
 generalize decide (ch ≥ 0)=g at hrd
 generalize decide (ch<0)=g2
 generalize (a4.getD ch.toNat (0,false)).2=b
 generalize C0 j.1 (wI (a1*1000)) (wI (wI (wI (a1*1000)+a2) - 1))=r
 generalize Z7 j.2.1=p
 generalize (j.2.2.1==1)=t1
 generalize (j.2.2.1==2)=t2
 generalize (j.2.2.1==3)=t3
 rcases C61 (E4 j.2.1 a0) j.2.2.2 with e | e<;>rw [e]
 ·cases r<;>cases p<;>exact ⟨rfl,rfl⟩
 ·cases g with
  | true=>obtain rfl:=hrd rfl;cases r<;>cases p<;>cases t1<;>cases t2<;>cases t3<;>exact ⟨rfl,rfl⟩
  | false=>cases r<;>cases p<;>cases t1<;>cases t2<;>cases t3<;>exact ⟨rfl,rfl⟩
theorem D8K (a0 a1 a2:Int) {a3:List X1} {a4:LIbe} (a5:Int) (h3:a3.length≤1048576) (hj:∀ j∈a3,D4E j) (h4:a4.length≤1048576):A2K a0 a1 a2 a3 a4 a5=true∧A1a a0 a1 a2 a3 a4 a5=true∧A9N a0 a1 a2 a3 a4 a5=B1R a0 a1 a2 a3 a4 a5:=by
 have hin:∀ x y z:Int,J0 x y z=C0 x y z:=fun _ _ _=>rfl
 have nb:∀ x y:Int,(x != y)=!(x==y):=fun _ _=>rfl
 -- choices
 have f0:∃ f:Nat→Option (Nat×Bool),A6Q 0 a0 a1 a2 a3 a4 a5=A45 f (1,false) a4.length 0∧A4C a4 (a4.length:Int) 0 a0 a1 a2 a3 a4 a5=A45 f (1,false) a4.length 0∧∀ i,f i=none∨f i=some (0,false):=by
  refine ⟨fun i=>cond (!C0 (a4.getD i dCh).1 1000 (wI (wI (wI (a1*1000)+a2) - 1))) (some (0,false)) (cond (A2E a4 (a4.getD i dCh).1 != (i:Int)) (some (0,false)) none),?_,?_,fun i=>?_⟩
  ·refine A23 (fun i=>((i:Int))) a4.length _ _ (by omega) (fun i hi=>?_) ?_
   ·have e1:decide ((i:Int)<(a4.length:Int))=true:=decide_eq_true (by omega)
    have e2:decide (0≤(i:Int)∧(i:Int)<(a4.length:Int))=true:=decide_eq_true (by omega)
    obtain ⟨c1,c2⟩:=D4G a0 a1 a2 a3 a5 h4 (a4.getD i dCh).1
    simp only [dCh] at c1 c2
    simp only [B01,B6f,e1,e2,cond_true,Int.toNat_natCast,c1,c2,K6 i (by omega),dCh]
    cases C0 (a4.getD i (0,false)).1 1000 (wI (wI (wI (a1*1000)+a2) - 1))<;>cases (A2E a4 (a4.getD i (0,false)).1 != (i:Int))<;>rfl
   ·have e1:decide ((a4.length:Int)<(a4.length:Int))=false:=decide_eq_false (by omega)
    simp only [B01,e1,cond_false]
  ·refine A23 (fun i=>(a4,(a4.length:Int),(i:Int))) a4.length _ _ (by omega) (fun i hi=>?_) ?_
   ·have e1:decide ((i:Int)<(a4.length:Int))=true:=decide_eq_true (by omega)
    have e2:decide (0≤(i:Int)∧(i:Int)<(a4.length:Int))=true:=decide_eq_true (by omega)
    obtain ⟨c1,c2⟩:=C6W a0 a1 a2 a3 a5 h4 (a4.getD i dCh).1
    simp only [dCh] at c1 c2
    simp only [A4A,B1c,A4o,hin,e1,e2,cond_true,Int.toNat_natCast,c1,c2,K6 i (by omega),dCh]
    cases C0 (a4.getD i (0,false)).1 1000 (wI (wI (wI (a1*1000)+a2) - 1))<;>cases (A2E a4 (a4.getD i (0,false)).1 != (i:Int))<;>rfl
   ·have e1:decide ((a4.length:Int)<(a4.length:Int))=false:=decide_eq_false (by omega)
    simp only [A4A,e1,cond_false]
  ·dsimp only
   generalize C0 (a4.getD i dCh).1 1000 (wI (wI (wI (a1*1000)+a2) - 1))=u
   generalize (A2E a4 (a4.getD i dCh).1 != (i:Int))=u2
   cases u<;>cases u2<;>first | exact .inl rfl | exact .inr rfl
 have f1:∃ f:Nat→Option (Nat×Bool),A6S 0 a0 a1 a2 a3 a4 a5=A45 f (1,false) a3.length 0∧A4u a3 (a3.length:Int) 0 a0 a1 a2 a3 a4 a5=A45 f (1,false) a3.length 0∧∀ i,f i=none∨f i=some (0,false):=by
  have hdj:((0:Int),(([]:Lq2),((0:Int),([]:List Int))))=D6:=rfl
  refine ⟨fun i=>cond (C4Q a0 a1 a2 a4 (a3.getD i D6)&&C7q a3 i) none (some (0,false)),?_,?_,fun i=>?_⟩
  ·refine A23 (fun i=>((i:Int))) a3.length _ _ (by omega) (fun i hi=>?_) ?_
   ·have e1:decide ((i:Int)<(a3.length:Int))=true:=decide_eq_true (by omega)
    obtain ⟨c1,c2⟩:=E9l a0 a1 a2 a5 h4 h3 hi (hj _ (I7 hi D6))
    simp only [B03,e1,cond_true,c1,c2,K6 i (by omega)]
    cases (C4Q a0 a1 a2 a4 (a3.getD i D6)&&C7q a3 i)<;>rfl
   ·have e1:decide ((a3.length:Int)<(a3.length:Int))=false:=decide_eq_false (by omega)
    simp only [B03,e1,cond_false]
  ·refine A23 (fun i=>(a3,(a3.length:Int),(i:Int))) a3.length _ _ (by omega) (fun i hi=>?_) ?_
   ·have e1:decide ((i:Int)<(a3.length:Int))=true:=decide_eq_true (by omega)
    have e2:decide (0≤(i:Int)∧(i:Int)<(a3.length:Int))=true:=decide_eq_true (by omega)
    obtain ⟨c1,c2⟩:=E5E a0 a1 a2 a3 a5 h4 (hj _ (I7 hi D6))
    simp only [A4z,B1a,hdj,e1,e2,cond_true,Int.toNat_natCast,c1,c2,K6 i (by omega),C7q]
    generalize C4Q a0 a1 a2 a4 (a3.getD i D6)=jb
    cases i with
    | zero=>cases jb<;>rfl
    | succ k =>
     have w:wI (((k+1:Nat):Int) - 1)=((k:Nat):Int):=by rw [I5 (by omega) (by omega)];omega
     have e3:decide (((k+1:Nat):Int) > 0)=true:=decide_eq_true (by omega)
     have e4:decide (0≤((k:Nat):Int)∧((k:Nat):Int)<(a3.length:Int))=true:=decide_eq_true (by omega)
     have e5:decide ((a3.getD (k+1) D6).1≤(a3.getD k D6).1)=decide ((a3.getD k D6).1 ≥ (a3.getD (k+1) D6).1):=rfl
     simp only [w,e3,e4,e5,cond_true,Int.toNat_natCast,Nat.add_sub_cancel]
     cases jb<;>cases decide ((a3.getD k D6).1 ≥ (a3.getD (k+1) D6).1)<;>rfl
   ·have e1:decide ((a3.length:Int)<(a3.length:Int))=false:=decide_eq_false (by omega)
    simp only [A4z,e1,cond_false]
  ·dsimp only
   generalize (C4Q a0 a1 a2 a4 (a3.getD i D6)&&C7q a3 i)=u
   cases u<;>first | exact .inl rfl | exact .inr rfl
 have two:∀ (f:Nat→Option (Nat×Bool)) (n:Nat),(∀ i,f i=none∨f i=some (0,false))→A45 f (1,false) n 0=(0,false)∨A45 f (1,false) n 0=(1,false):=by
  intro f n h
  rcases V7 f (1,false) n 0 with ⟨j,a,_,_,h3,_,h5⟩ | ⟨_,h5⟩
  ·rcases h j with h | h
   ·rw [h] at h3;cases h3
   ·rw [h] at h3;exact .inl (by rw [h5];exact (Option.some.inj h3).symm)
  ·exact .inr h5
 obtain ⟨f,s0,i0,r0⟩:=f0
 obtain ⟨g,s1,i1,r1⟩:=f1
 have t0:=two f a4.length r0
 have t1:=two g a3.length r1
 simp only [A2K,A1a,B1R,A9N,hin,s0,i0,s1,i1]
 generalize C0 a0 1 8=b0
 generalize C0 a1 1 900=b1
 generalize C0 a2 0 999=b2
 generalize decide ((a4.length:Int) > 1000)=b3
 generalize C0 a5 0 (a4.length:Int)=b4
 generalize A45 f (1,false) a4.length 0=x0 at t0
 generalize A45 g (1,false) a3.length 0=x1 at t1
 rcases t0 with rfl | rfl<;>rcases t1 with rfl | rfl<;>cases b0<;>cases b1<;>cases b2<;>cases b3<;>cases b4<;>exact ⟨rfl,rfl,trivial⟩
theorem E16 (n life next:Int) {jobs:List X1} {log:LIbe} (sure:Int) (h3:jobs.length≤1048576) (hj:∀ j∈jobs,D4E j) (h4:log.length≤1048577):A3P n life next jobs log sure=true∧B5s n life next jobs log sure=(n,life,next,jobs,log,sure):=by
 have hdj:((0:Int),(([]:Lq2),((0:Int),([]:List Int))))=D6:=rfl
 have key:B2m jobs (jobs.length:Int) 0 n life next jobs log sure 0 0 0 0 n life next log sure []=(0,jobs):=by
  refine A0n (fun v:A5e=>∃ i:Nat,v=(jobs,(jobs.length:Int),(i:Int),jobs.take i)∧i≤jobs.length) (fun a:A3j=>a=(0,jobs)) (fun v=>jobs.length - v.2.2.1.toNat) ?_ ⟨0,by simp,Nat.zero_le _⟩ (by simp;omega)
  rintro v ⟨i,rfl,hi⟩
  by_cases hlt:i<jobs.length
  ·have e1:decide ((i:Int)<(jobs.length:Int))=true:=decide_eq_true (by omega)
   have e2:decide (0≤(i:Int)∧(i:Int)<(jobs.length:Int))=true:=decide_eq_true (by omega)
   obtain ⟨o1,o2⟩:=hj _ (I7 hlt D6)
   have o3:=L4 o1
   have f3:C4 (jobs.getD i D6).2.1=true:=decide_eq_true (by simp only [List.length_nil,MAXB];omega)
   have f4:D4 (jobs.getD i D6).2.1=(jobs.getD i D6).2.1:=rfl
   have f5:P7 (jobs.getD i D6).2.2.2=true:=decide_eq_true (by simp only [List.length_nil,MAXB];omega)
   have f6:A1D (jobs.getD i D6).2.2.2=(jobs.getD i D6).2.2.2:=rfl
   have f7:∀ x:X1,decide (((jobs.take i).length+[x].length)*64≤MAXB)=true:=fun x=>decide_eq_true (by simp only [List.length_singleton,List.length_take,MAXB];omega)
   simp only [A7i,hdj,e1,e2,cond_true,Int.toNat_natCast,f3,f4,f5,f6,f7,K6 i (by omega)]
   refine .inl ⟨_,rfl,⟨i+1,?_,by omega⟩,by simp only [Int.toNat_natCast];omega⟩
   rw [D5 hlt D6]
  ·obtain rfl:i=jobs.length:=by omega
   have e1:decide ((jobs.length:Int)<(jobs.length:Int))=false:=decide_eq_false (by omega)
   simp only [A7i,e1,cond_false]
   exact .inr ⟨_,rfl,by rw [List.take_length]⟩
 have c1:N6 log=true:=decide_eq_true (by simp only [List.length_nil,MAXB];omega)
 have c2:A0L log=log:=rfl
 simp only [A3P,B5s,B0S,key,c1,c2]
 exact ⟨rfl,trivial⟩
theorem E2p (n life next:Int) {jobs:List X1} {log:LIbe} (sure:Int) (A:AnyC jobs log):A7J n life next jobs log sure=true∧C33 n life next jobs log sure=(n,life,next,sure,jobs,log):=by
 have h3:=A.jn
 have h4:=A.ln
 have hdj:((0:Int),(([]:Lq2),((0:Int),([]:List Int))))=D6:=rfl
 have key:B7j 0 n life next jobs log sure 0 0 0 0 n life next sure [] log=(0,jobs,log):=by
  refine A0n (fun v:A8V=>∃ i:Nat,v=((i:Int),jobs.take i,log)∧i≤jobs.length) (fun a:A57=>a=(0,jobs,log)) (fun v=>jobs.length - v.1.toNat) ?_ ⟨0,by simp,Nat.zero_le _⟩ (by simp;omega)
  rintro v ⟨i,rfl,hi⟩
  by_cases hlt:i<jobs.length
  ·have e1:decide ((i:Int)<(jobs.length:Int))=true:=decide_eq_true (by omega)
   have e2:decide (0≤(i:Int)∧(i:Int)<(jobs.length:Int))=true:=decide_eq_true (by omega)
   obtain ⟨o1,o2⟩:=A.ok _ (I7 hlt D6)
   have o3:=L4 o1
   have f3:N8 (jobs.getD i D6).2.1=true:=decide_eq_true (by simp only [List.length_nil,MAXB];omega)
   have f4:M5 (jobs.getD i D6).2.1=(jobs.getD i D6).2.1:=by simp [M5]
   have f5:decide ((([]:List Int).length+(jobs.getD i D6).2.2.2.length)*8≤MAXB)=true:=decide_eq_true (by simp only [List.length_nil,MAXB];omega)
   have f7:∀ x:X1,decide (((jobs.take i).length+[x].length)*64≤MAXB)=true:=fun x=>decide_eq_true (by simp only [List.length_singleton,List.length_take,MAXB];omega)
   simp only [B0P,hdj,e1,e2,cond_true,Int.toNat_natCast,f3,f4,f5,f7,K6 i (by omega),List.nil_append]
   refine .inl ⟨_,rfl,⟨i+1,?_,by omega⟩,by simp only [Int.toNat_natCast];omega⟩
   rw [D5 hlt D6]
  ·obtain rfl:i=jobs.length:=by omega
   have e1:decide ((jobs.length:Int)<(jobs.length:Int))=false:=decide_eq_false (by omega)
   simp only [B0P,e1,cond_false]
   exact .inr ⟨_,rfl,by rw [List.take_length]⟩
 have m:decide ((([]:LIbe).length+log.length)*16≤MAXB)=true:=decide_eq_true (by simp only [List.length_nil,MAXB];omega)
 have e0:B59 n life next jobs log sure=(0,jobs,log):=key
 simp only [A7J,C33,e0,m]
 exact ⟨rfl,trivial⟩
structure JobR (n life next:Int) (log:LIbe) (j:X1):Prop where
 lo:life*1000≤j.1
 hi:j.1≤life*1000+next - 1
 ops:Z7 j.2.1=true
 yes:C6E (E4 j.2.1 n) j.2.2.2=(1,false)
 fin:D93 log j.2.2.1 (A2E log j.1)=true
structure CR (n life next:Int) (jobs:List X1) (log:LIbe) (sure:Int):Prop where
 n1:1≤n∧n≤8
 l1:1≤life∧life≤900
 x1:0≤next∧next≤999
 lg:log.length≤1000
 s1:0≤sure∧sure≤log.length
 tx:∀ i,i<log.length→1000≤(log.getD i dCh).1∧(log.getD i dCh).1≤life*1000+next - 1∧A2E log (log.getD i dCh).1=(i:Int)
 jb:∀ i,i<jobs.length→JobR n life next log (jobs.getD i D6)
 jo:∀ i,i+1<jobs.length→(jobs.getD i D6).1<(jobs.getD (i+1) D6).1
theorem E5I {f:Nat→Option (Nat×Bool)} {n:Nat} (h:∀ i,f i=none∨f i=some (0,false)):(A45 f (1,false) n 0=(1,false)∧∀ i,i<n→f i=none)∨(A45 f (1,false) n 0=(0,false)∧∃ i,i<n∧f i ≠ none):=by
 rcases V7 f (1,false) n 0 with ⟨j,a,_,h2,h3,_,h5⟩ | ⟨h4,h5⟩
 ·rcases h j with h | h
  ·rw [h] at h3;cases h3
  ·rw [h] at h3;exact .inr ⟨by rw [h5];exact (Option.some.inj h3).symm,j,by omega,by rw [h];simp⟩
 ·exact .inl ⟨h5,fun i hi=>h4 i (Nat.zero_le _) (by omega)⟩
theorem A2p {x a b:Int}:C0 x a b=true↔a≤x∧x≤b:=by
 simp only [C0]
 by_cases h:x ≥ a
 ·rw [decide_eq_true h];simp only [cond_true,decide_eq_true_eq];omega
 ·rw [decide_eq_false h];simp only [cond_false,Bool.false_eq_true,false_iff];omega
theorem C2c {x a b:Int} (h:¬ (a≤x∧x≤b)):C0 x a b=false:=by
 cases hb:C0 x a b with
 | false=>rfl
 | true=>exact absurd (A2p.1 hb) h
theorem txw {life next:Int} (l1:1≤life∧life≤900) (x1:0≤next∧next≤999):wI (life*1000)=life*1000∧wI (wI (life*1000)+next)=life*1000+next∧wI (wI (wI (life*1000)+next) - 1)=life*1000+next - 1:=by
 have e1:wI (life*1000)=life*1000:=I5 (by omega) (by omega)
 have e2:wI (life*1000+next)=life*1000+next:=I5 (by omega) (by omega)
 have e3:wI (life*1000+next - 1)=life*1000+next - 1:=I5 (by omega) (by omega)
 rw [e1,e2,e3]
 exact ⟨rfl,rfl,rfl⟩
theorem E08 {n life next:Int} {log:LIbe} {j:X1} (l1:1≤life∧life≤900) (x1:0≤next∧next≤999):C4Q n life next log j=true↔JobR n life next log j:=by
 obtain ⟨w1,w2,w3⟩:=txw l1 x1
 simp only [C4Q,Bool.and_eq_true,A2p,beq_iff_eq]
 rw [w3,w1]
 constructor
 ·rintro ⟨⟨h1,h2⟩,h3,h4,h5⟩
  refine ⟨h1,h2,h3,?_,h5⟩
  rcases C61 (E4 j.2.1 n) j.2.2.2 with e | e
  ·rw [e] at h4;cases h4
  ·exact e
 ·rintro ⟨h1,h2,h3,h4,h5⟩
  exact ⟨⟨h1,h2⟩,h3,by rw [h4],h5⟩
theorem C8p {a0 a1 a2:Int} {a3:List X1} {a4:LIbe} {a5:Int} (h3:a3.length≤1048576) (hj:∀ j∈a3,D4E j) (h4:a4.length≤1048576):A1a a0 a1 a2 a3 a4 a5=true∧(A9N a0 a1 a2 a3 a4 a5=true↔CR a0 a1 a2 a3 a4 a5):=by
  have hin:∀ x y z:Int,J0 x y z=C0 x y z:=fun _ _ _=>rfl
  have hdj:((0:Int),(([]:Lq2),((0:Int),([]:List Int))))=D6:=rfl
  have e0:A4C a4 (a4.length:Int) 0 a0 a1 a2 a3 a4 a5=A45 (fun i=>cond (!C0 (a4.getD i dCh).1 1000 (wI (wI (wI (a1*1000)+a2) - 1))) (some (0,false)) (cond (A2E a4 (a4.getD i dCh).1 != (i:Int)) (some (0,false)) none)) (1,false) a4.length 0:=by
    refine A23 (fun i=>(a4,(a4.length:Int),(i:Int))) a4.length _ _ (by omega) (fun i hi=>?_) ?_
    · have e1:decide ((i:Int)<(a4.length:Int))=true:=decide_eq_true (by omega)
      have e2:decide (0≤(i:Int)∧(i:Int)<(a4.length:Int))=true:=decide_eq_true (by omega)
      obtain ⟨c1,c2⟩:=C6W a0 a1 a2 a3 a5 h4 (a4.getD i dCh).1
      simp only [dCh] at c1 c2
      simp only [A4A,B1c,A4o,hin,e1,e2,cond_true,Int.toNat_natCast,c1,c2,K6 i (by omega),dCh]
      cases C0 (a4.getD i (0,false)).1 1000 (wI (wI (wI (a1*1000)+a2) - 1))<;>cases (A2E a4 (a4.getD i (0,false)).1 != (i:Int))<;>rfl
    · have e1:decide ((a4.length:Int)<(a4.length:Int))=false:=decide_eq_false (by omega)
      simp only [A4A,e1,cond_false]
  have e1:A4u a3 (a3.length:Int) 0 a0 a1 a2 a3 a4 a5=A45 (fun i=>cond (C4Q a0 a1 a2 a4 (a3.getD i D6)&&C7q a3 i) none (some (0,false))) (1,false) a3.length 0:=by
    refine A23 (fun i=>(a3,(a3.length:Int),(i:Int))) a3.length _ _ (by omega) (fun i hi=>?_) ?_
    · have e1:decide ((i:Int)<(a3.length:Int))=true:=decide_eq_true (by omega)
      have e2:decide (0≤(i:Int)∧(i:Int)<(a3.length:Int))=true:=decide_eq_true (by omega)
      obtain ⟨c1,c2⟩:=E5E a0 a1 a2 a3 a5 h4 (hj _ (I7 hi D6))
      simp only [A4z,B1a,hdj,e1,e2,cond_true,Int.toNat_natCast,c1,c2,K6 i (by omega),C7q]
      generalize C4Q a0 a1 a2 a4 (a3.getD i D6)=jb
      cases i with
      | zero=>cases jb<;>rfl
      | succ k =>
        have w:wI (((k+1:Nat):Int) - 1)=((k:Nat):Int):=by rw [I5 (by omega) (by omega)];omega
        have e3:decide (((k+1:Nat):Int) > 0)=true:=decide_eq_true (by omega)
        have e4:decide (0≤((k:Nat):Int)∧((k:Nat):Int)<(a3.length:Int))=true:=decide_eq_true (by omega)
        have e5:decide ((a3.getD (k+1) D6).1≤(a3.getD k D6).1)=decide ((a3.getD k D6).1 ≥ (a3.getD (k+1) D6).1):=rfl
        simp only [w,e3,e4,e5,cond_true,Int.toNat_natCast,Nat.add_sub_cancel]
        cases jb<;>cases decide ((a3.getD k D6).1 ≥ (a3.getD (k+1) D6).1)<;>rfl
    · have e1:decide ((a3.length:Int)<(a3.length:Int))=false:=decide_eq_false (by omega)
      simp only [A4z,e1,cond_false]
  have two0:∀ i,(fun i:Nat=>cond (!C0 (a4.getD i dCh).1 1000 (wI (wI (wI (a1*1000)+a2) - 1))) (some ((0:Nat),false)) (cond (A2E a4 (a4.getD i dCh).1 != (i:Int)) (some (0,false)) none)) i=none∨(fun i:Nat=>cond (!C0 (a4.getD i dCh).1 1000 (wI (wI (wI (a1*1000)+a2) - 1))) (some ((0:Nat),false)) (cond (A2E a4 (a4.getD i dCh).1 != (i:Int)) (some (0,false)) none)) i=some (0,false):=by
    intro i
    dsimp only
    generalize C0 (a4.getD i dCh).1 1000 (wI (wI (wI (a1*1000)+a2) - 1))=u
    generalize (A2E a4 (a4.getD i dCh).1 != (i:Int))=u2
    cases u<;>cases u2<;>first | exact .inl rfl | exact .inr rfl
  have two1:∀ i,(fun i:Nat=>cond (C4Q a0 a1 a2 a4 (a3.getD i D6)&&C7q a3 i) none (some ((0:Nat),false))) i=none∨(fun i:Nat=>cond (C4Q a0 a1 a2 a4 (a3.getD i D6)&&C7q a3 i) none (some ((0:Nat),false))) i=some (0,false):=by
    intro i
    dsimp only
    generalize (C4Q a0 a1 a2 a4 (a3.getD i D6)&&C7q a3 i)=u
    cases u<;>first | exact .inl rfl | exact .inr rfl
  have s0:=E5I (n:=a4.length) two0
  have s1:=E5I (n:=a3.length) two1
  rw [← e0] at s0
  rw [← e1] at s1
  refine ⟨?_,?_⟩
  · simp only [A1a]
    rcases s0 with ⟨q0,_⟩ | ⟨q0,_⟩<;>rcases s1 with ⟨q1,_⟩ | ⟨q1,_⟩<;>rw [q0,q1]<;>cases (J0 a0 1 8)<;>cases (J0 a1 1 900)<;>cases (J0 a2 0 999)<;>cases decide ((a4.length:Int) > 1000)<;>cases (J0 a5 0 (a4.length:Int))<;>rfl
  simp only [A9N,hin]
  by_cases b0:1≤a0∧a0≤8
  case neg=>rw [C2c b0];simp only [Bool.not_false,cond_true,Bool.false_eq_true,false_iff];exact fun h=>b0 h.n1
  by_cases b1:1≤a1∧a1≤900
  case neg=>rw [C2c b1,A2p.2 b0];simp only [Bool.not_false,Bool.not_true,cond_true,cond_false,Bool.false_eq_true,false_iff];exact fun h=>b1 h.l1
  by_cases b2:0≤a2∧a2≤999
  case neg=>rw [C2c b2,A2p.2 b0,A2p.2 b1];simp only [Bool.not_false,Bool.not_true,cond_true,cond_false,Bool.false_eq_true,false_iff];exact fun h=>b2 h.x1
  by_cases b3:(a4.length:Int) > 1000
  case pos=>rw [decide_eq_true b3,A2p.2 b0,A2p.2 b1,A2p.2 b2];simp only [Bool.not_true,cond_true,cond_false,Bool.false_eq_true,false_iff];exact fun h=>by have:=h.lg;omega
  by_cases b4:0≤a5∧a5≤(a4.length:Int)
  case neg=>rw [C2c b4,decide_eq_false b3,A2p.2 b0,A2p.2 b1,A2p.2 b2];simp only [Bool.not_false,Bool.not_true,cond_true,cond_false,Bool.false_eq_true,false_iff];exact fun h=>b4 h.s1
  rw [A2p.2 b4,decide_eq_false b3,A2p.2 b0,A2p.2 b1,A2p.2 b2]
  simp only [Bool.not_true,cond_false]
  obtain ⟨w1,w2,w3⟩:=txw b1 b2
  have pt:∀ i,i<a4.length→((fun i:Nat=>cond (!C0 (a4.getD i dCh).1 1000 (wI (wI (wI (a1*1000)+a2) - 1))) (some ((0:Nat),false)) (cond (A2E a4 (a4.getD i dCh).1 != (i:Int)) (some (0,false)) none)) i=none↔(i<a4.length→1000≤(a4.getD i dCh).1∧(a4.getD i dCh).1≤a1*1000+a2 - 1∧A2E a4 (a4.getD i dCh).1=(i:Int))):=by
    intro i hi
    dsimp only
    rw [w3]
    by_cases c1:1000≤(a4.getD i dCh).1∧(a4.getD i dCh).1≤a1*1000+a2 - 1
    · rw [A2p.2 c1]
      simp only [Bool.not_true,cond_false]
      by_cases c2:A2E a4 (a4.getD i dCh).1=(i:Int)
      · have:(A2E a4 (a4.getD i dCh).1 != (i:Int))=false:=by rw [c2];simp
        rw [this];simp only [cond_false,true_iff];exact fun _=>⟨c1.1,c1.2,c2⟩
      · have:(A2E a4 (a4.getD i dCh).1 != (i:Int))=true:=by simpa using c2
        rw [this];simp only [cond_true,reduceCtorEq,false_iff];exact fun h=>c2 (h hi).2.2
    · rw [C2c c1]
      simp only [Bool.not_false,cond_true,reduceCtorEq,false_iff];exact fun h=>c1 ⟨(h hi).1,(h hi).2.1⟩
  have ordI:∀ i,i<a3.length→(C7q a3 i=true↔(i=0∨(a3.getD (i - 1) D6).1<(a3.getD i D6).1)):=by
    intro i hi
    simp only [C7q]
    by_cases h:(i:Int) > 0
    · rw [decide_eq_true h]
      simp only [cond_true,Bool.not_eq_true', decide_eq_false_iff_not]
      omega
    · rw [decide_eq_false h]
      simp only [cond_false,true_iff]
      omega
  rcases s0 with ⟨q0,r0⟩ | ⟨q0,i,hi,r0⟩
  case inr =>
    rw [q0]
    simp only [beq_self_eq_true,cond_true,Bool.false_eq_true,false_iff]
    exact fun h=>r0 ((pt i hi).2 (fun _=>h.tx i hi))
  rw [q0]
  rcases s1 with ⟨q1,r1⟩ | ⟨q1,i,hi,r1⟩
  · rw [q1]
    refine ⟨fun _=>⟨b0,b1,b2,by omega,b4,fun i hi=>(pt i hi).1 (r0 i hi) hi,fun i hi=>?_,fun i hi=>?_⟩,fun _=>rfl⟩
    · have:=r1 i hi
      try dsimp only at this
      cases hb:C4Q a0 a1 a2 a4 (a3.getD i D6) with
      | true=>exact (E08 b1 b2).1 hb
      | false=>rw [hb] at this;cases this
    · have:=r1 (i+1) hi
      try dsimp only at this
      cases hb:C7q a3 (i+1) with
      | true => rcases (ordI (i + 1) hi).1 hb with h | h
                · omega
                · exact h
      | false=>rw [hb,Bool.and_false] at this;cases this
  · rw [q1]
    refine ⟨fun h=>(by cases h),fun h=>?_⟩
    exfalso
    apply r1
    try dsimp only
    rw [(E08 b1 b2).2 (h.jb i hi),(ordI i hi).2 (by
      cases i with
      | zero=>exact .inl rfl
      | succ i=>exact .inr (h.jo i hi))]
    rfl
theorem E5v {n life next:Int} {jobs:List X1} {log:LIbe} {sure:Int} (D:CR n life next jobs log sure):CR n life next jobs log (log.length:Int) :=
 ⟨D.n1,D.l1,D.x1,D.lg,⟨by omega,by omega⟩,D.tx,D.jb,D.jo⟩
noncomputable def okB (b:List Int):Prop:=∀ c∈b,0≤c∧c≤255
noncomputable def cOk (b:List Int) (i:Int):Prop:=okB b∧0≤i∧i≤b.length∧b.length≤1048576
theorem E3i {b:List Int} (hb:okB b) (hl:b.length≤1048576):A9D b=true∧(A2V b).1=b∧cOk b (A2V b).2.1:=by
 have key:∀ x:Int,(A77 b x 0).1=0∧(A77 b x 0).2.1=b:=by
  intro x
  refine A0n (fun v:B4N=>v.1=b∧0≤v.2.2∧v.2.2≤b.length) (fun a:B0q=>a.1=0∧a.2.1=b) (fun v=>b.length - v.2.2.toNat) ?_ ⟨rfl,Int.le_refl _,by simp⟩ (by simp;omega)
  rintro ⟨y,z,i⟩ ⟨hy,h1,h2⟩
  simp only at hy h1 h2
  subst hy
  by_cases hi:i<(y.length:Int)
  ·have e:decide (i<(y.length:Int))=true:=decide_eq_true hi
   have e2:decide (0≤i∧i<(y.length:Int))=true:=decide_eq_true ⟨h1,hi⟩
   have w:wI (i+1)=i+1:=I5 (by omega) (by omega)
   by_cases h4:i<4000
   ·simp only [B1E,e,e2,decide_eq_true h4,cond_true,w]
    exact .inl ⟨_,rfl,⟨rfl,by simp only;omega,by simp only;omega⟩,by simp only;omega⟩
   ·simp only [B1E,e,decide_eq_false h4,cond_true,cond_false]
    exact .inr ⟨_,rfl,rfl,rfl⟩
  ·simp only [B1E,decide_eq_false hi,cond_false]
   exact .inr ⟨_,rfl,rfl,rfl⟩
 simp only [A9D,A2V,key]
 exact ⟨rfl,trivial,hb,Int.le_refl _,by omega,hl⟩
theorem E9k (l:List Int) (m:Int) (hl:l.length≤1048576) (h0:0≤m):0≤A7p l m∧A7p l m≤m:=by
 have h1:0≤Int.tdiv (l.length:Int) 12:=Int.tdiv_nonneg (by omega) (by omega)
 have h2:Int.tdiv (l.length:Int) 12≤1048576:=Int.le_trans (Int.tdiv_le_self _ (by omega)) (by omega)
 have w1:=I5 (n:=Int.tdiv (l.length:Int) 12) (by omega) (by omega)
 have w2:=I5 (n:=3+Int.tdiv (l.length:Int) 12) (by omega) (by omega)
 simp only [A7p,w1,w2]
 by_cases hc:3+Int.tdiv (l.length:Int) 12 > m
 ·rw [decide_eq_true hc];exact ⟨h0,Int.le_refl _⟩
 ·rw [decide_eq_false hc];simp only [cond_false];omega
noncomputable abbrev F4V (x:D8):Prop:=D9F x∧∀ r∈x.2.1,r.2.1 ≠ 999999
noncomputable def D0B:List ByteArray:=[(⟨#[97]⟩:ByteArray),(⟨#[98]⟩:ByteArray),(⟨#[99]⟩:ByteArray),(⟨#[107,49]⟩:ByteArray),(⟨#[107,50]⟩:ByteArray),(⟨#[109]⟩:ByteArray),(⟨#[122]⟩:ByteArray)]
noncomputable abbrev E8Y (r:H6):Prop:=r.2.1≤6∧∀ o∈r.2.2,o.2.1∈D0B∧o.2.2.size≤20
noncomputable abbrev A49 (x:D8):Prop:=DrawnS x∧∀ r∈x.2.1,E8Y r
theorem E3J (x:Int) (m:Nat) (hm:m<9223372036854775808):0≤iand .i64 x (m:Int)∧iand .i64 x (m:Int)≤m:=by
 have e:iand .i64 x (m:Int)=wI (((BitVec.ofInt 64 x).toNat &&& m:Nat):Int):=by
  show wI (((BitVec.ofInt 64 x &&& BitVec.ofInt 64 (m:Int)).toNat:Nat):Int)=_
  rw [BitVec.toNat_and,B76 m (by omega)]
 have h:(BitVec.ofInt 64 x).toNat &&& m≤m:=Nat.and_le_right
 rw [e,I5 (by omega) (by omega)]
 omega
theorem B82 {b:List Int} {i:Int} (hc:cOk b i) (h:Int):A2b b i h=true∧0≤(U1 b i h).1∧(U1 b i h).1≤255∧(U1 b i h).2.1=b∧cOk b (U1 b i h).2.2.1:=by
 obtain ⟨h0,h1,h2,h3⟩:=hc
 have r:=fun x=>E3J x 255 (by decide)
 by_cases hi:i<(b.length:Int)
 ·have e:decide (i<(b.length:Int))=true:=decide_eq_true hi
  have w:wI (i+1)=i+1:=I5 (by omega) (by omega)
  simp only [A2b,U1,e,cond_true,w]
  exact ⟨decide_eq_true ⟨h1,hi⟩,(r _).1,(r _).2,trivial,h0,by omega,by omega,h3⟩
 ·have e:decide (i<(b.length:Int))=false:=decide_eq_false hi
  simp only [A2b,U1,e,cond_false]
  exact ⟨trivial,(r _).1,(r _).2,trivial,h0,h1,h2,h3⟩
theorem D7 {b:List Int} {i:Int} (hc:cOk b i) (n:Int) (h:Int):A5 n b i h=true∧0≤(A3 n b i h).1∧(0<n→(A3 n b i h).1<n)∧(A3 n b i h).2.1=b∧cOk b (A3 n b i h).2.2.1:=by
 obtain ⟨a1,a2,a3,a4,a5⟩:=B82 hc h
 by_cases h0:n≤0
 ·have e:decide (n≤0)=true:=decide_eq_true h0
  simp only [A5,A3,e,cond_true]
  exact ⟨trivial,Int.le_refl _,fun h=>by omega,trivial,hc⟩
 ·have e:decide (n≤0)=false:=decide_eq_false h0
  have en:decide (n ≠ 0)=true:=decide_eq_true (by omega)
  by_cases h1:n≤256
  ·have e2:decide (n≤256)=true:=decide_eq_true h1
   simp only [A5,A3,e,e2,cond_true,cond_false,a1,en,Bool.and_self]
   exact ⟨trivial,Int.tmod_nonneg _ a2,fun h=>Int.tmod_lt_of_pos _ h,a4,a5⟩
  ·have e2:decide (n≤256)=false:=decide_eq_false h1
   obtain ⟨b1,b2,b3,b4,b5⟩:=B82 a5 (U1 b i h).2.2.2
   obtain ⟨c1,c2,c3,c4,c5⟩:=B82 b5 (U1 b (U1 b i h).2.2.1 (U1 b i h).2.2.2).2.2.2
   simp only [A5,A3,e,e2,cond_false,a1,a4,en,B13,C1R,b1,b4,c1,Bool.and_self]
   rw [I5 (n:=(U1 b i h).1*65536) (by omega) (by omega),I5 (n:=(U1 b (U1 b i h).2.2.1 (U1 b i h).2.2.2).1*256) (by omega) (by omega),I5 (n:=(U1 b i h).1*65536+(U1 b (U1 b i h).2.2.1 (U1 b i h).2.2.2).1*256) (by omega) (by omega),I5 (by omega) (by omega)]
   exact ⟨trivial,Int.tmod_nonneg _ (by omega),fun h=>Int.tmod_lt_of_pos _ h,c4,c5⟩
theorem E6Q {id:Int} (h0:0≤id) (h7:id≤7):DrawnS (id,[],0,[],[]):=by
 refine ⟨⟨by simp,fun x hx=>by simp at hx⟩,⟨⟨h0,h7⟩,⟨by simp,by simp⟩,by simp,rfl⟩,fun i hi m h hp=>?_⟩
 obtain rfl:i=0:=by simpa using hi
 simp only [A0D,Option.some.injEq,Prod.mk.injEq] at hp
 obtain ⟨rfl,rfl⟩:=hp
 simp [B1N]
theorem E4d {id:Int} (h0:0≤id) (h7:id≤7):A49 (id,[],0,[],[]):=⟨E6Q h0 h7,fun r hr=>by simp at hr⟩
noncomputable def ltO (a b:Int×ByteArray×ByteArray):Prop:=Op.bytesLess a.2.1.toList b.2.1.toList=true
noncomputable def E75 (k:Int) (s v:ByteArray):Prop:=s∈D0B∧((k=1∨k=3)∧v.size≤1∨k=2∧v=⟨#[]⟩)
noncomputable def D3T (l:Lq2):Prop:=l.Pairwise ltO∧∀ o∈l,E75 o.1 o.2.1 o.2.2∧o.2.1.size≤20∧o.2.2.size≤20
theorem A0A {b:List Int} {i:Int} (hc:cOk b i) (h:Int) {l:List Int} (hl:0<l.length):M2 b i h l=true∧(H7 b i h l).1∈l∧(H7 b i h l).2.1=b∧cOk b (H7 b i h l).2.2.1:=by
 obtain ⟨a1,a2,a3,a4,a5⟩:=D7 hc (l.length:Int) h
 have:=a3 (by omega)
 simp only [M2,H7,a1,Bool.true_and]
 exact ⟨decide_eq_true ⟨a2,this⟩,I7 (by omega) _,a4,a5⟩
theorem C2U {b:List Int} {i:Int} (hc:cOk b i) (h:Int) {l:List ByteArray} (hl:0<l.length):A5B b i h l=true∧(B6T b i h l).1∈l∧(B6T b i h l).2.1=b∧cOk b (B6T b i h l).2.2.1:=by
 obtain ⟨a1,a2,a3,a4,a5⟩:=D7 hc (l.length:Int) h
 have:=a3 (by omega)
 simp only [A5B,B6T,a1,Bool.true_and]
 exact ⟨decide_eq_true ⟨a2,this⟩,I7 (by omega) _,a4,a5⟩
theorem E4g {s:ByteArray} (h:s∈D0B):s.size≤2:=by
 simp only [D0B,List.mem_cons,List.not_mem_nil,or_false] at h
 rcases h with rfl | rfl | rfl | rfl | rfl | rfl | rfl<;>decide
theorem D0D {b:List Int} {i:Int} (hc:cOk b i) (h:Int):A88 b i h=true∧(B9h b i h).1.size≤2∧(B9h b i h).1∈D0B∧(B9h b i h).2.1=b∧cOk b (B9h b i h).2.2.1:=by
 obtain ⟨a1,a2,a3,a4⟩:=C2U hc h (l:=D0B) (by decide)
 simp only [D0B] at a1 a2 a3 a4
 simp only [A88,B9h,C9N,a1]
 exact ⟨trivial,E4g a2,a2,a3,a4⟩
theorem D1O {b:List Int} {i:Int} (hc:cOk b i) (h:Int):A9M b i h=true∧(A6A b i h).2.1.size≤20∧(A6A b i h).2.2.1.size≤20∧E75 (A6A b i h).1 (A6A b i h).2.1 (A6A b i h).2.2.1∧(A6A b i h).2.2.2.1=b∧cOk b (A6A b i h).2.2.2.2.1:=by
 obtain ⟨a1,a2,a3,a4⟩:=A0A hc h (l:=[(1:Int),(1:Int),(1:Int),(2:Int),(3:Int)]) (by decide)
 simp only [A9M,A6A,B7Y,D0p,a1,a3,Bool.true_and]
 generalize H7 b i h [(1:Int),(1:Int),(1:Int),(2:Int),(3:Int)]=r at *
 obtain ⟨b1,b2,b3,b4,b5⟩:=D0D a4 r.2.2.2.1
 simp only [b1,b4,Bool.true_and]
 generalize B9h b r.2.2.1 r.2.2.2.1=t at *
 have hk:r.1=1∨r.1=2∨r.1=3:=by simp only [List.mem_cons,List.not_mem_nil,or_false] at a2;omega
 cases e:(r.1 != 2) with
 | true =>
  obtain ⟨c1,c2,c3,c4⟩:=C2U b5 t.2.2.2 (l:=[(⟨#[49]⟩:ByteArray),(⟨#[50]⟩:ByteArray),(⟨#[120]⟩:ByteArray),(⟨#[]⟩:ByteArray),(⟨#[49]⟩:ByteArray)]) (by decide)
  simp only [cond_true,c1]
  generalize B6T b t.2.2.1 t.2.2.2 [(⟨#[49]⟩:ByteArray),(⟨#[50]⟩:ByteArray),(⟨#[120]⟩:ByteArray),(⟨#[]⟩:ByteArray),(⟨#[49]⟩:ByteArray)]=u at *
  have hs:u.1.size≤1:=by
   have h0:∀ x∈[(⟨#[49]⟩:ByteArray),(⟨#[50]⟩:ByteArray),(⟨#[120]⟩:ByteArray),(⟨#[]⟩:ByteArray),(⟨#[49]⟩:ByteArray)],x.size≤1:=by
    intro x hx
    simp only [List.mem_cons,List.not_mem_nil,or_false] at hx
    rcases hx with rfl | rfl | rfl | rfl | rfl<;>decide
   exact h0 _ c2
  have hne:r.1 ≠ 2:=by simpa using e
  exact ⟨trivial,by omega,by omega,⟨b3,.inl ⟨by omega,hs⟩⟩,c3,c4⟩
 | false =>
  have he:r.1=2:=by simpa using e
  simp only [cond_false]
  exact ⟨trivial,by omega,by decide,⟨b3,.inr ⟨he,rfl⟩⟩,trivial,b5⟩
noncomputable def F0Z (l:Lq2) (o:Int×ByteArray×ByteArray) (i:Nat) (p:Bool) (h:Lq2):Prop :=
 h.Pairwise ltO∧(∀ x∈h,x=o∨x∈l)∧h.length≤i+1 ∧
 (p=false→h=l.take i∧∀ x∈h,ltO x o) ∧
 (p=true→h ≠ []∧∀ x∈h,∀ y∈l.drop i,ltO x y)
theorem E9c {α:Type} {R:α→α→Prop} {l:List α} (h:l.Pairwise R) (i:Nat) (hi:i<l.length) (d:α):∀ y∈l.drop (i+1),R (l.getD i d) y:=by
 intro y hy
 obtain ⟨j,hj,rfl⟩:=List.getElem_of_mem hy
 rw [List.length_drop] at hj
 have:=List.pairwise_iff_getElem.1 h i (i+1+j) hi (by omega) (by omega)
 simpa [List.getD_eq_getElem?_getD,hi] using this
theorem D2x:∀ a b c:List UInt8,Op.bytesLess a b=true→Op.bytesLess b c=true→Op.bytesLess a c=true:=by
 intro a
 induction a with
 | nil=>intro b c h1 h2;cases c with
  | nil=>cases b<;>simp [Op.bytesLess] at h2
  | cons z c=>rfl
 | cons x a ih =>
  intro b c h1 h2
  cases b with
  | nil=>simp [Op.bytesLess] at h1
  | cons y b=>cases c with
   | nil=>simp [Op.bytesLess] at h2
   | cons z c =>
    simp only [Op.bytesLess,Bool.or_eq_true,Bool.and_eq_true,decide_eq_true_eq,beq_iff_eq] at h1 h2 ⊢
    rcases h1 with h1 | ⟨rfl,h1⟩
    ·rcases h2 with h2 | ⟨rfl,h2⟩
     ·exact .inl (UInt8.lt_trans h1 h2)
     ·exact .inl h1
    ·rcases h2 with h2 | ⟨rfl,h2⟩
     ·exact .inl h2
     ·exact .inr ⟨rfl,ih b c h1 h2⟩
theorem B71 {a b c:Int×ByteArray×ByteArray} (h1:ltO a b) (h2:ltO b c):ltO a c:=D2x _ _ _ h1 h2
theorem E6v {l:Lq2} (hs:l.Pairwise ltO) (hl:l.length≤1000) (o:Int×ByteArray×ByteArray) :
  ∃ p h,B1C l false 0 o.1 o.2.1 o.2.2 []=(0,p,h)∧F0Z l o l.length p h:=by
 refine A0n (fun v:A7L=>∃ (i:Nat) (p:Bool) (h:Lq2),v=(l,p,(i:Int),h)∧i≤l.length∧F0Z l o i p h) (fun a=>∃ p h,a=(0,p,h)∧F0Z l o l.length p h) (fun v=>l.length - v.2.2.1.toNat) ?_ ⟨0,false,[],rfl,Nat.zero_le _,.nil,by simp,by simp,fun _=>⟨rfl,by simp⟩,fun h=>by cases h⟩ (by simp;omega)
 rintro v ⟨i,p,h,rfl,hi,hI⟩
 obtain ⟨i1,i2,i3,i4,i5⟩:=hI
 by_cases hlt:i<l.length
 ·have e1:decide ((i:Int)<(l.length:Int))=true:=decide_eq_true (by omega)
  have e2:decide (0≤(i:Int)∧(i:Int)<(l.length:Int))=true:=decide_eq_true (by omega)
  have w:=K6 i (by omega)
  have m1:∀ x:Int×ByteArray×ByteArray,decide ((h.length+[x].length)*40≤MAXB)=true:=fun x=>decide_eq_true (by simp only [List.length_singleton,MAXB];omega)
  have m2:∀ x y:Int×ByteArray×ByteArray,decide (((h++[x]).length+[y].length)*40≤MAXB)=true:=fun x y=>decide_eq_true (by simp only [List.length_append,List.length_singleton,MAXB];omega)
  have eta:∀ x:Int×ByteArray×ByteArray,(x.1,(x.2.1,x.2.2))=x:=fun _=>rfl
  have hdrop:l.drop i=l.getD i dOp::l.drop (i+1):=by rw [List.drop_eq_getElem_cons hlt];simp [List.getD_eq_getElem?_getD,hlt]
  have htk:=E5H hs i hlt dOp
  have hdr:=E9c hs i hlt dOp
  have hmem:l.getD i dOp∈l:=I7 hlt _
  have hts:=D5 hlt dOp
  have meas:∀ (p':Bool) (h':Lq2),l.length - ((l,p', ((i+1:Nat):Int),h'):A7L).2.2.1.toNat<l.length - ((l,p,(i:Int),h):A7L).2.2.1.toNat:=fun _ _=>by simp only [Int.toNat_natCast];omega
  simp only [B6C,e1,e2,m1,m2,w,cond_true,Int.toNat_natCast,eta]
  have hd:((0:Int),((⟨#[]⟩:ByteArray),(⟨#[]⟩:ByteArray)))=dOp:=rfl
  simp only [hd]
  generalize hx:l.getD i dOp=x at *
  left
  cases p with
  | false =>
   obtain ⟨j1,j2⟩:=i4 rfl
   simp only [Bool.not_false,cond_true]
   cases hb:Op.bytesLess x.2.1.toList o.2.1.toList with
   | true =>
    -- still ahead of it
    have hxo:ltO x o:=hb
    have hne:(x.2.1.toList==o.2.1.toList)=false:=by
     rw [beq_eq_false_iff_ne];intro e;rw [e] at hb;rw [C9W] at hb;cases hb
    simp only [Bool.not_true,cond_false,hne,Bool.not_false,cond_true]
    refine ⟨_,rfl,⟨i+1,false,h++[x],rfl,by omega,C4o i1 (fun y hy=>?_),?_,by simp;omega,fun _=>⟨by rw [j1,hts],?_⟩,fun h=>by cases h⟩,meas _ _⟩
    ·rw [j1] at hy;exact htk y hy
    ·intro y hy
     rcases List.mem_append.1 hy with hy | hy
     ·exact i2 y hy
     ·simp at hy;subst hy;exact .inr hmem
    ·intro y hy
     rcases List.mem_append.1 hy with hy | hy
     ·exact j2 y hy
     ·simp at hy;subst hy;exact hxo
   | false =>
    have hge:=C7o x.2.1.toList o.2.1.toList
    rw [hb] at hge
    simp only [Bool.not_false] at hge
    simp only [Bool.not_false,cond_true]
    have s1:(h++[o]).Pairwise ltO:=C4o i1 j2
    have s2:∀ y∈h++[o],y=o∨y∈l:=by
     intro y hy
     rcases List.mem_append.1 hy with hy | hy
     ·exact i2 y hy
     ·simp at hy;exact .inl hy
    cases hq:(x.2.1.toList==o.2.1.toList) with
    | true =>
     simp only [Bool.not_true,cond_false]
     have hkey:x.2.1.toList=o.2.1.toList:=by simpa using hq
     have ho:∀ y∈l.drop (i+1),ltO o y:=fun y hy=>by have:=hdr y hy;unfold ltO at this ⊢;rwa [hkey] at this
     refine ⟨_,rfl,⟨i+1,true,h++[o],rfl,by omega,s1,s2,by simp;omega,(fun h=>by cases h),fun _=>⟨by simp,?_⟩⟩,meas _ _⟩
     intro y hy z hz
     rcases List.mem_append.1 hy with hy | hy
     ·exact B71 (j2 y hy) (ho z hz)
     ·simp at hy;subst hy;exact ho z hz
    | false =>
     simp only [Bool.not_false,cond_true]
     have hox:ltO o x:=by
      have h9:Op.bytesLess o.2.1.toList x.2.1.toList=true:=by
       cases h8:Op.bytesLess o.2.1.toList x.2.1.toList with
       | true=>rfl
       | false =>
        rw [h8] at hge
        have h7:(o.2.1.toList==x.2.1.toList)=true:=by simpa using hge.symm
        rw [beq_iff_eq] at h7
        rw [h7] at hq;simp at hq
      exact h9
     refine ⟨_,rfl,⟨i+1,true,(h++[o])++[x],rfl,by omega,C4o s1 (fun y hy=>?_),?_,?_,(fun h=>by cases h),fun _=>⟨by simp,?_⟩⟩,meas _ _⟩
     ·rcases List.mem_append.1 hy with hy | hy
      ·exact B71 (j2 y hy) hox
      ·simp at hy;subst hy;exact hox
     ·intro y hy
      rcases List.mem_append.1 hy with hy | hy
      ·exact s2 y hy
      ·simp at hy;subst hy;exact .inr hmem
     ·have:h.length≤i:=by rw [j1,List.length_take];omega
      simp;omega
     ·intro y hy z hz
      have hxz:=hdr z hz
      rcases List.mem_append.1 hy with hy | hy
      ·rcases List.mem_append.1 hy with hy | hy
       ·exact B71 (B71 (j2 y hy) hox) hxz
       ·simp at hy;subst hy;exact B71 hox hxz
      ·simp at hy;subst hy;exact hxz
  | true =>
   obtain ⟨j1,j2⟩:=i5 rfl
   simp only [Bool.not_true,cond_false]
   have j3:∀ y∈h,∀ z∈l.drop (i+1),ltO y z:=fun y hy z hz=>j2 y hy z (by rw [hdrop];exact List.mem_cons_of_mem _ hz)
   cases hq:(x.2.1.toList==o.2.1.toList) with
   | true =>
    simp only [Bool.not_true,cond_false]
    exact ⟨_,rfl,⟨i+1,true,h,rfl,by omega,i1,i2,by omega,(fun h=>by cases h),fun _=>⟨j1,j3⟩⟩,meas _ _⟩
   | false =>
    simp only [Bool.not_false,cond_true]
    refine ⟨_,rfl,⟨i+1,true,h++[x],rfl,by omega,C4o i1 (fun y hy=>j2 y hy x (by rw [hdrop];simp)),?_,by simp;omega,(fun h=>by cases h),fun _=>⟨by simp,?_⟩⟩,meas _ _⟩
    ·intro y hy
     rcases List.mem_append.1 hy with hy | hy
     ·exact i2 y hy
     ·simp at hy;subst hy;exact .inr hmem
    ·intro y hy z hz
     rcases List.mem_append.1 hy with hy | hy
     ·exact j3 y hy z hz
     ·simp at hy;subst hy;exact hdr z hz
 ·obtain rfl:i=l.length:=by omega
  have e1:decide ((l.length:Int)<(l.length:Int))=false:=decide_eq_false (by omega)
  simp only [B6C,e1,cond_false]
  exact .inr ⟨_,rfl,p,h,rfl,i1,i2,i3,i4,i5⟩
theorem E1F {l:Lq2} (hs:l.Pairwise ltO) (hl:l.length≤1000) (k:Int) (s v:ByteArray) :
  B4u l k s v=true∧(C6t l k s v).Pairwise ltO∧(∀ x∈C6t l k s v,x=(k,s,v)∨x∈l)∧C6t l k s v ≠ []∧(C6t l k s v).length≤l.length+1:=by
 obtain ⟨p,h,e,i1,i2,i3,i4,i5⟩:=E6v hs hl (k,s,v)
 simp only at e
 have m1:∀ x:Int×ByteArray×ByteArray,decide ((h.length+[x].length)*40≤MAXB)=true:=fun x=>decide_eq_true (by simp only [List.length_singleton,MAXB];omega)
 simp only [B4u,C6t,e,m1]
 cases p with
 | true =>
  simp only [Bool.not_true,cond_false]
  exact ⟨rfl,i1,i2,(i5 rfl).1,i3⟩
 | false =>
  obtain ⟨j1,j2⟩:=i4 rfl
  simp only [Bool.not_false,cond_true]
  refine ⟨rfl,C4o i1 j2,?_,by simp,?_⟩
  ·intro y hy
   rcases List.mem_append.1 hy with hy | hy
   ·exact i2 y hy
   ·simp at hy;exact .inl hy
  ·rw [j1];simp
theorem B3b {b:List Int} {i:Int} (hc:cOk b i) (h:Int):Z9 b i h=true∧(F0 b i h).1=b∧cOk b (F0 b i h).2.1∧D3T (F0 b i h).2.2.2∧1≤(F0 b i h).2.2.2.length∧(F0 b i h).2.2.2.length≤4:=by
 obtain ⟨a1,a2,a3,a4,a5⟩:=D7 hc 4 h
 have a3:=a3 (by omega)
 simp only [Z9,F0,B9S,a1,a4,Bool.true_and]
 generalize A3 4 b i h=r at *
 have w:wI (1+r.1)=1+r.1:=I5 (by omega) (by omega)
 rw [w]
 obtain ⟨z1,z2,z3,z4,z5,z6⟩:(A2j (1+r.1) b r.2.2.1 r.2.2.2 []).1=0∧(A2j (1+r.1) b r.2.2.1 r.2.2.2 []).2.1=b∧cOk b (A2j (1+r.1) b r.2.2.1 r.2.2.2 []).2.2.1∧D3T (A2j (1+r.1) b r.2.2.1 r.2.2.2 []).2.2.2.2∧1≤(A2j (1+r.1) b r.2.2.1 r.2.2.2 []).2.2.2.2.length∧(A2j (1+r.1) b r.2.2.1 r.2.2.2 []).2.2.2.2.length≤4:=by
  refine A0n (fun v:B1U=>v.2.1=b∧cOk b v.2.2.1∧D3T v.2.2.2.2∧0≤v.1∧v.1≤4∧(v.2.2.2.2.length:Int)≤4 - v.1∧(v.1=0→1≤v.2.2.2.2.length)) (fun a:A8o=>a.1=0∧a.2.1=b∧cOk b a.2.2.1∧D3T a.2.2.2.2∧1≤a.2.2.2.2.length∧a.2.2.2.2.length≤4) (fun v=>v.1.toNat) ?_ ⟨rfl,a5,⟨.nil,by simp⟩,by simp only;omega,by simp only;omega,by simp only [List.length_nil];omega,fun h=>by simp only at h;omega⟩ (by simp only;omega)
  rintro ⟨n,b', j,h', l⟩ ⟨e1,e2,e3,e4,e5,e6,e7⟩
  simp only at e1 e2 e3 e4 e5 e6 e7
  subst e1
  by_cases hn:n > 0
  ·obtain ⟨o1,o2,o3,o4,o5,o6⟩:=D1O e2 h'
   obtain ⟨p1,p2,p3,p4,p5⟩:=E1F e3.1 (by omega) (A6A b' j h').1 (A6A b' j h').2.1 (A6A b' j h').2.2.1
   have w2:wI (n - 1)=n - 1:=I5 (by omega) (by omega)
   simp only [B3p,decide_eq_true hn,o1,p1,cond_true,w2,o5,C65]
   refine .inl ⟨_,rfl,⟨rfl,o6,⟨p2,fun x hx=>?_⟩,by simp only;omega,by simp only;omega,by simp only;omega,fun _=>List.length_pos_iff.2 p4⟩,by simp only;omega⟩
   rcases p3 x hx with rfl | hx
   ·exact ⟨o4,o2,o3⟩
   ·exact e3.2 x hx
  ·simp only [B3p,decide_eq_false hn,cond_false]
   exact .inr ⟨_,rfl,rfl,rfl,e2,e3,e7 (by omega),by simp only;omega⟩
 exact ⟨by rw [z1];rfl,z2,z3,z4,z5,z6⟩
theorem B1v {l:Lq2} (h1:l.length≤1048576) (h2:∀ o∈l,o.2.1.size≤1048576∧o.2.2.size≤1048576):L1 l=true:=by
 simp only [L1,okL,Bool.and_eq_true,decide_eq_true_eq,List.all_eq_true]
 refine ⟨h1,fun o ho=>?_⟩
 simp only [E82,okS,Bool.and_eq_true,decide_eq_true_eq];exact h2 o ho
theorem C2v {l:Lq2} (h:D3T l) (h8:l.length≤8):L1 l=true:=B1v (by omega) fun o ho=>by have:=h.2 o ho;omega
noncomputable def ofK (k:Int):Int:=cond (k==0) 2 (cond (k==2) 3 4)
noncomputable def A6s (l:List H6) (t:Int):Int:=l.foldl (fun k r=>cond (D3 t r) r.1 k) 0
noncomputable def A2M (x:D8) (t:Int):Int:=cond (x.2.2.2.2.any (D3 t)) 1 (ofK (A6s x.2.1 t))
noncomputable def B8I (x:D8) (t:Int) (ops:Lq2):Int×D8 :=
 cond (!(C0 t 1 1000000)) (5,x) (cond (!(Z7 ops)) (5,x) (cond (A2M x t != 2) (A2M x t,x) (cond (A2R x.2.2.2.2 ops) (2,x) (cond (!(A8r x.2.2.2.1 ops)) (2,x)
  (cond (decide (((x.2.2.2.1.length+ops.length+B1N x.2.2.2.2:Nat):Int) > 60)) (2,x) (cond (decide ((x.2.1.length:Int)+(x.2.2.2.2.length:Int)+2 > 300)) (2,x)
   (1,(x.1,x.2.1++[((1:Int),(t,ops))],x.2.2.1,x.2.2.2.1,x.2.2.2.2++[((1:Int),(t,ops))]))))))))
theorem E4b {r:H6} (h:A2I r.1 r.2.1 r.2.2=true):r.1=1∨r.1=2∨r.1=3:=by
 simp only [A2I] at h
 cases h1:(r.1==1) with
 | true=>exact .inl (beq_iff_eq.1 h1)
 | false =>
  cases h2:(r.1==2) with
  | true=>exact .inr (.inl (beq_iff_eq.1 h2))
  | false =>
   cases h3:(r.1==3) with
   | true=>exact .inr (.inr (beq_iff_eq.1 h3))
   | false=>rw [h1,h2,h3] at h;revert h;cases C0 r.2.1 1 1000000<;>simp
theorem C6l (l:List H6) (r:H6) (t:Int):A6s (l++[r]) t=cond (D3 t r) r.1 (A6s l t):=by simp [A6s]
theorem E6f {h:List H6} (h1:C76 h) (s t:Int) (ha:h.any (D3 s)=true):(h.eraseIdx (h.findIdx (D3 s))).any (D3 t)=cond (t==s) false (h.any (D3 t)):=by
 have hlt:=List.findIdx_lt_length.2 (List.any_eq_true.1 ha)
 have hs:(h.getD (h.findIdx (D3 s)) B9).2.1=s:=by
  have:=List.findIdx_getElem (w:=hlt)
  rw [List.getD_eq_getElem?_getD,List.getElem?_eq_getElem hlt]
  exact beq_iff_eq.1 this
 generalize h.findIdx (D3 s)=k at hlt hs
 have gd:∀ j (hj:j<h.length),h.getD j B9=h[j]:=fun j hj=>by rw [List.getD_eq_getElem?_getD,List.getElem?_eq_getElem hj];rfl
 cases hts:(t==s) with
 | true =>
  obtain rfl:t=s:=beq_iff_eq.1 hts
  simp only [cond_true]
  cases hc:(h.eraseIdx k).any (D3 t) with
  | false=>rfl
  | true =>
   obtain ⟨x,hx,hp⟩:=List.any_eq_true.1 hc
   obtain ⟨j,hj,hne,e⟩:=List.mem_eraseIdx_iff_getElem.1 hx
   have:=E1H h1 hj hlt (by rw [gd j hj,e,hs];exact beq_iff_eq.1 hp)
   exact absurd this hne
 | false =>
  simp only [cond_false]
  have hne:t ≠ s:=by simpa using hts
  cases hb:h.any (D3 t) with
  | true =>
   obtain ⟨x,hx,hp⟩:=List.any_eq_true.1 hb
   obtain ⟨j,hj,e⟩:=List.mem_iff_getElem.1 hx
   refine List.any_eq_true.2 ⟨x,List.mem_eraseIdx_iff_getElem.2 ⟨j,hj,?_,e⟩,hp⟩
   rintro rfl
   rw [gd j hj,e] at hs
   exact hne ((beq_iff_eq.1 (show (x.2.1==t)=true from hp)).symm.trans hs)
  | false =>
   cases hc:(h.eraseIdx k).any (D3 t) with
   | false=>rfl
   | true =>
    obtain ⟨x,hx,hp⟩:=List.any_eq_true.1 hc
    rw [List.any_eq_true.2 ⟨x,List.mem_of_mem_eraseIdx hx,hp⟩] at hb
    cases hb
theorem E1M (l:List H6) (r:H6) (t:Int):(l++[r]).any (D3 t)=(l.any (D3 t)||D3 t r):=by simp
theorem E6A {kn:Bool} {m m':List A1B} {held h':List H6} {r:H6} {l:List H6} (h1:C76 held) (hh:∀ t,held.any (D3 t)=(A6s l t==1)) (h:A42 kn m held r=some (m', h')) :
  (r.1=1∨r.1=2∨r.1=3)∧∀ t,h'.any (D3 t)=(A6s (l++[r]) t==1):=by
 simp only [A42] at h
 cases hok:A2I r.1 r.2.1 r.2.2 with
 | false=>rw [hok] at h;simp at h
 | true =>
  have hkd:=E4b hok
  refine ⟨hkd,fun t=>?_⟩
  rw [C6l]
  simp only [hok,Bool.not_true,cond_false] at h
  have keep:∀ b:Bool,r.1 ≠ 1→held.any (D3 r.2.1)=false→held.any (D3 t)=(cond (D3 t r) r.1 (A6s l t)==1):=fun _ hne ha=>by
   cases hi:D3 t r with
   | false=>exact hh t
   | true =>
    obtain rfl:r.2.1=t:=beq_iff_eq.1 hi
    rw [ha]
    exact (beq_eq_false_iff_ne.2 hne).symm
  have gone:r.1 ≠ 1→held.any (D3 r.2.1)=true→(held.eraseIdx (held.findIdx (D3 r.2.1))).any (D3 t)=(cond (D3 t r) r.1 (A6s l t)==1):=fun hne ha=>by
   rw [E6f h1 _ t ha]
   cases hi:D3 t r with
   | false =>
    have:(t==r.2.1)=false:=by
     have:(r.2.1==t)=false:=hi
     rw [beq_eq_false_iff_ne] at this ⊢
     exact fun e=>this e.symm
    rw [this];exact hh t
   | true =>
    obtain rfl:r.2.1=t:=beq_iff_eq.1 hi
    rw [beq_self_eq_true]
    exact (beq_eq_false_iff_ne.2 hne).symm
  cases hk:(r.1==1) with
  | true =>
   have hk1:r.1=1:=beq_iff_eq.1 hk
   simp only [hk,cond_true] at h
   cases kn with
   | true=>simp at h
   | false =>
    cases hlk:A2R held r.2.2 with
    | true=>rw [hlk] at h;simp at h
    | false =>
     rw [hlk] at h
     cases hmt:A8r m r.2.2 with
     | false=>rw [hmt] at h;simp at h
     | true =>
      rw [hmt] at h
      simp only [Bool.not_true,cond_false,Option.some.injEq,Prod.mk.injEq] at h
      obtain ⟨rfl,rfl⟩:=h
      rw [E1M,hh t]
      show (A6s l t==1||D3 t r)=_
      cases D3 t r with
      | false=>simp
      | true=>rw [hk1];simp
  | false =>
   have hne:r.1 ≠ 1:=by simpa using hk
   simp only [hk,cond_false] at h
   cases ha:held.any (D3 r.2.1) with
   | false =>
    simp only [ha,Bool.not_false,cond_true] at h
    cases h3:(r.1==3) with
    | false=>rw [h3] at h;simp at h
    | true =>
     rw [h3] at h
     cases kn with
     | true=>simp at h
     | false =>
      simp only [cond_true,cond_false,Option.some.injEq,Prod.mk.injEq] at h
      obtain ⟨rfl,rfl⟩:=h
      exact keep true hne ha
   | true =>
    simp only [ha,Bool.not_true,cond_false] at h
    cases h2:(r.1==2) with
    | true =>
     simp only [h2,cond_true] at h
     by_cases hc:((((held.getD (held.findIdx (D3 r.2.1)) B9).2.2.foldl B8E m).length:Nat):Int)≤60
     ·rw [decide_eq_true hc] at h
      simp only [cond_true,Option.some.injEq,Prod.mk.injEq] at h
      obtain ⟨rfl,rfl⟩:=h
      exact gone hne ha
     ·rw [decide_eq_false hc] at h;simp at h
    | false =>
     simp only [h2,cond_false] at h
     by_cases hc:(m.length:Int)≤60
     ·rw [decide_eq_true hc] at h
      simp only [cond_true,Option.some.injEq,Prod.mk.injEq] at h
      obtain ⟨rfl,rfl⟩:=h
      exact gone hne ha
     ·rw [decide_eq_false hc] at h;simp at h
theorem E8m {l:List H6} (hr:∀ x∈l,L1 x.2.2=true):∀ i,i≤l.length→∀ m held,A0D l i=some (m,held)→(∀ x∈l.take i,x.1=1∨x.1=2∨x.1=3)∧∀ t,held.any (D3 t)=(A6s (l.take i) t==1):=by
 intro i
 induction i with
 | zero =>
  intro _ m held h
  simp only [A0D,Option.some.injEq,Prod.mk.injEq] at h
  obtain ⟨rfl,rfl⟩:=h
  exact ⟨fun x hx=>by simp at hx,fun t=>rfl⟩
 | succ i ih =>
  intro hi m held h
  simp only [A0D] at h
  cases hp:A0D l i with
  | none=>rw [hp] at h;cases h
  | some s =>
   rw [hp] at h
   obtain ⟨k1,k2⟩:=ih (by omega) s.1 s.2 (by rw [hp])
   have I:=D3v hr i (by omega) s.1 s.2 (by rw [hp])
   have e:l.take (i+1)=l.take i++[l.getD i B9]:=D5 (by omega) B9
   obtain ⟨o1,o2⟩:=E6A I.hone k2 h
   rw [e]
   refine ⟨fun x hx=>?_,o2⟩
   rcases List.mem_append.1 hx with hx | hx
   ·exact k1 x hx
   ·rw [List.mem_singleton.1 hx];exact o1
theorem D4e {x:D8} (hl:A02 x.2.1) (h:B0E x):(∀ r∈x.2.1,r.1=1∨r.1=2∨r.1=3)∧∀ t,x.2.2.2.2.any (D3 t)=(A6s x.2.1 t==1):=by
 have:=E8m (A1O hl) x.2.1.length (Nat.le_refl _) _ _ h.2.2.2
 rwa [List.take_length] at this
noncomputable def D4O (l:List H6) (t:Int):Int:=l.foldl (fun o r=>cond (D3 t r&&(r.1==3)) 4 (cond (D3 t r&&(r.1==2)) 3 o)) 2
theorem D7R (l:List H6) (r:H6) (t:Int):D4O (l++[r]) t=cond (D3 t r&&(r.1==3)) 4 (cond (D3 t r&&(r.1==2)) 3 (D4O l t)):=by simp [D4O]
theorem E9g (l:List H6) (t:Int) (hl:l.length≤1099511627776):decide (A72 l t ≥ 0)=l.any (D3 t):=by
 have h:=D3a l t hl
 have e:decide (A72 l t ≥ 0)=!(decide (A72 l t<0)):=by
  by_cases h:A72 l t<0
  ·rw [decide_eq_true h,decide_eq_false (by omega)];rfl
  ·rw [decide_eq_false h,decide_eq_true (by omega)];rfl
 rw [e,h,Bool.not_not]
theorem E7b (x:D8) (t:Int) (hl:x.2.1.length≤1099511627776) (hh:x.2.2.2.2.length≤1099511627776):A0k x.1 x.2.1 x.2.2.1 x.2.2.2.1 x.2.2.2.2 t=true ∧
  A2H x.1 x.2.1 x.2.2.1 x.2.2.2.1 x.2.2.2.2 t=cond (x.2.2.2.2.any (D3 t)) 1 (D4O x.2.1 t):=by
 have e:A33 t 2 0 x.1 x.2.1 x.2.2.1 x.2.2.2.1 x.2.2.2.2=(0,D4O x.2.1 t):=by
  refine A0n (ss:=fun v:A4Z=>A32 v.1 v.2.1 v.2.2 x.1 x.2.1 x.2.2.1 x.2.2.2.1 x.2.2.2.2) (fa:=Q3)
   (fun v=>∃ i:Nat,v=(t,D4O (x.2.1.take i) t,(i:Int))∧i≤x.2.1.length) (fun a=>a=(0,D4O x.2.1 t)) (fun v=>x.2.1.length - v.2.2.toNat) ?_ ⟨0,rfl,Nat.zero_le _⟩ (by simp;omega)
  rintro v ⟨i,rfl,hi⟩
  by_cases hlt:i<x.2.1.length
  ·have e1:decide ((i:Int)<(x.2.1.length:Int))=true:=decide_eq_true (by omega)
   have e2:decide (0≤(i:Int)∧(i:Int)<(x.2.1.length:Int))=true:=decide_eq_true (by omega)
   have e3:D4O (x.2.1.take (i+1)) t=_:=(congrArg (D4O · t) (D5 hlt B9)).trans (D7R _ _ _)
   refine .inl ⟨(t,D4O (x.2.1.take (i+1)) t,((i+1:Nat):Int)),?_,⟨i+1,rfl,by omega⟩,by simp only [Int.toNat_natCast];omega⟩
   rw [e3]
   simp only [A32,e1,e2,cond_true,Int.toNat_natCast,A2O,K6 i (by omega),D3]
   generalize (x.2.1.getD i B9).1=kd
   cases ((x.2.1.getD i B9).2.1==t) with
   | false=>simp only [cond_false,Bool.false_and]
   | true =>
    simp only [cond_true,Bool.true_and]
    cases (kd==2)<;>cases (kd==3)<;>rfl
  ·obtain rfl:i=x.2.1.length:=by omega
   have e1:decide ((x.2.1.length:Int)<(x.2.1.length:Int))=false:=decide_eq_false (by omega)
   simp only [A32,e1,cond_false,List.take_length]
   exact .inr ⟨_,rfl,rfl⟩
 have a1:=(B3L x.2.2.2.2 t hh).1
 have a2:=E9g x.2.2.2.2 t hh
 simp only [A0k,A2H,a1,a2,e]
 cases x.2.2.2.2.any (D3 t)<;>first | exact ⟨rfl,rfl⟩ | exact ⟨trivial,rfl⟩ | simp
theorem E1r {α:Type} {P:List α→Prop} (h0:P []) (hs:∀ l x,P l→P (l++[x])) (l:List α):P l:=by
 rw [← List.reverse_reverse l]
 induction l.reverse with
 | nil=>exact h0
 | cons x l ih=>rw [List.reverse_cons];exact hs _ _ ih
theorem E9w (t:Int) (l:List H6):(∀ x∈l,x.1=1∨x.1=2∨x.1=3)→A6s l t ≠ 1→D4O l t=ofK (A6s l t):=by
 induction l using E1r with
 | h0=>intro _ _;rfl
 | hs l r ih =>
  intro h
  have hr:=h r (by simp)
  rw [C6l,D7R]
  cases D3 t r with
  | false=>exact ih (fun x hx=>h x (by simp [hx]))
  | true =>
   simp only [cond_true,Bool.true_and]
   intro hn
   rcases hr with e | e | e
   ·exact absurd e hn
   ·rw [e];rfl
   ·rw [e];rfl
theorem E2Y {x:D8} (h1:A02 x.2.1) (hr:B0E x) (t:Int):(A0k x.1 x.2.1 x.2.2.1 x.2.2.2.1 x.2.2.2.2 t=true∧A2H x.1 x.2.1 x.2.2.1 x.2.2.2.1 x.2.2.2.2 t=A2M x t):=by
 have hl1:=h1.1
 have hl4:=hr.2.2.1
 obtain ⟨k1,k2⟩:=D4e h1 hr
 obtain ⟨s1,s2⟩:=E7b x t (by omega) (by omega)
 refine ⟨s1,?_⟩
 rw [s2,A2M,k2 t]
 cases hc:(A6s x.2.1 t==1) with
 | true=>rfl
 | false =>
  simp only [cond_false]
  exact E9w t x.2.1 k1 (by simpa using hc)
theorem D7X (h:List H6) (r:H6):B1N (h++[r])=B1N h+r.2.2.length:=by simp [B1N]
theorem E52 (x:D8) (ops:Lq2) (hm:x.2.2.2.1.length≤1048576) (hh:x.2.2.2.2.length≤1048576) (ho:∀ r∈x.2.2.2.2,r.2.2.length≤1048576) (hl:ops.length≤1048576) :
  B0G x.1 x.2.1 x.2.2.1 x.2.2.2.1 x.2.2.2.2 ops=true∧C4E x.1 x.2.1 x.2.2.1 x.2.2.2.1 x.2.2.2.2 ops=((x.2.2.2.1.length+ops.length+B1N x.2.2.2.2:Nat):Int):=by
 have bnd:∀ l:List H6,(∀ r∈l,r.2.2.length≤1048576)→B1N l≤l.length*1048576:=by
  intro l
  induction l with
  | nil=>intro _;simp [B1N]
  | cons y l ih =>
   intro h
   have a1:=h y (by simp)
   have a2:=ih (fun r hr=>h r (by simp [hr]))
   simp only [B1N,List.map_cons,List.sum_cons,List.length_cons] at a2 ⊢
   omega
 have e0:=I5 (n:=(x.2.2.2.1.length:Int)+(ops.length:Int)) (by omega) (by omega)
 have e:B2Z ((x.2.2.2.1.length:Int)+(ops.length:Int)) 0 x.1 x.2.1 x.2.2.1 x.2.2.2.1 x.2.2.2.2=(0,((x.2.2.2.1.length+ops.length+B1N x.2.2.2.2:Nat):Int)):=by
  refine A0n (ss:=fun v:B1z=>A9h v.1 v.2 x.1 x.2.1 x.2.2.1 x.2.2.2.1 x.2.2.2.2) (fa:=C0g)
   (fun v=>∃ i:Nat,v=(((x.2.2.2.1.length+ops.length+B1N (x.2.2.2.2.take i):Nat):Int),(i:Int))∧i≤x.2.2.2.2.length) (fun a=>a=(0,((x.2.2.2.1.length+ops.length+B1N x.2.2.2.2:Nat):Int))) (fun v=>x.2.2.2.2.length - v.2.toNat) ?_ ⟨0,by simp [B1N],Nat.zero_le _⟩ (by simp;omega)
  rintro v ⟨i,rfl,hi⟩
  by_cases hlt:i<x.2.2.2.2.length
  ·have e1:decide ((i:Int)<(x.2.2.2.2.length:Int))=true:=decide_eq_true (by omega)
   have e2:decide (0≤(i:Int)∧(i:Int)<(x.2.2.2.2.length:Int))=true:=decide_eq_true (by omega)
   have e3:B1N (x.2.2.2.2.take (i+1))=B1N (x.2.2.2.2.take i)+(x.2.2.2.2.getD i B9).2.2.length:=by rw [D5 hlt B9,D7X]
   have b1:=bnd (x.2.2.2.2.take i) (fun r hr=>ho r (List.mem_of_mem_take hr))
   rw [List.length_take] at b1
   have b2:=ho _ (I7 hlt B9)
   refine .inl ⟨(((x.2.2.2.1.length+ops.length+B1N (x.2.2.2.2.take (i+1)):Nat):Int),((i+1:Nat):Int)),?_,⟨i+1,rfl,by omega⟩,by simp only [Int.toNat_natCast];omega⟩
   rw [e3]
   have w1:=I5 (n:=((x.2.2.2.1.length+ops.length+B1N (x.2.2.2.2.take i):Nat):Int)+(((x.2.2.2.2.getD i B9).2.2.length:Nat):Int)) (by omega) (by omega)
   simp only [A9h,e1,e2,cond_true,Int.toNat_natCast,A2O,K6 i (by omega),w1]
   congr 2
   omega
  ·obtain rfl:i=x.2.2.2.2.length:=by omega
   have e1:decide ((x.2.2.2.2.length:Int)<(x.2.2.2.2.length:Int))=false:=decide_eq_false (by omega)
   simp only [A9h,e1,cond_false,List.take_length]
   exact .inr ⟨_,rfl,rfl⟩
 have k1:B9w x.1 x.2.1 x.2.2.1 x.2.2.2.1 x.2.2.2.2 ops=B2Z (wI ((x.2.2.2.1.length:Int)+(ops.length:Int))) 0 x.1 x.2.1 x.2.2.1 x.2.2.2.1 x.2.2.2.2:=rfl
 simp only [B0G,C4E,k1,e0,e]
 exact ⟨rfl,trivial⟩
theorem E5m (r:H6) (m:List A1B) (held:List H6):C9v r.1 r.2.1 r.2.2 m held=A93 r.1 r.2.1 r.2.2 m held []∧B4m r.1 r.2.1 r.2.2 m held=A2x r.1 r.2.1 r.2.2 m held []:=⟨rfl,rfl⟩
theorem D3o {r:H6} {m m':List A1B} {held h':List H6} (id sure:Int) (log:List H6) (hr:L1 r.2.2=true) (hm:m.length≤1000) (hh:held.length≤1048576) (ho:∀ x∈held,L1 x.2.2=true) (hl:log.length≤1048576)
  (hs:A42 false m held r=some (m', h')):Z8 r.1 r.2.1 r.2.2 id sure log m held=true∧A5a r.1 r.2.1 r.2.2 id sure log m held=(id,sure,log++[r],m', h'):=by
 obtain ⟨o1,o2⟩:=D3V r m held [] hr hm hh ho (by simp)
 rw [show decide (r.2.1∈([]:List Int))=false from by simp,hs] at o2
 obtain ⟨s', o3,_⟩:=o2
 obtain ⟨n1,n2⟩:=E5m r m held
 have hl2:=L4 hr
 have f3:N5 r.1 r.2.1 r.2.2=true:=decide_eq_true (by simp only [List.length_nil,MAXB];omega)
 have f4:U6 r.1 r.2.1 r.2.2=(r.1,r.2.1,r.2.2):=rfl
 have f1:decide ((log.length+[(r.1,(r.2.1,r.2.2))].length)*40≤MAXB)=true:=decide_eq_true (by simp only [List.length_singleton,MAXB];omega)
 simp only [Z8,A5a,n1,n2,o1,o3,f3,f4,f1,Bool.and_self]
 exact ⟨trivial,trivial⟩
theorem D7M {x:D8} {t:Int} {ops:Lq2} (ht:C0 t 1 1000000=true) (ho:Z7 ops=true) (hl:A2R x.2.2.2.2 ops=false) (hm:A8r x.2.2.2.1 ops=true) :
  A42 false x.2.2.2.1 x.2.2.2.2 ((1:Int),(t,ops))=some (x.2.2.2.1,x.2.2.2.2++[((1:Int),(t,ops))]):=by
 have hr:A2I 1 t ops=true:=by simp only [A2I,ht,ho];rfl
 simp only [A42,hr,hl,hm]
 rfl
theorem E3F {x:D8} (h1:A02 x.2.1) (hr:B0E x) (t:Int) (ops:Lq2) (ho:L1 ops=true) :
  A7N t x.1 x.2.2.1 ops x.2.1 x.2.2.2.1 x.2.2.2.2=true∧D2V t x.1 x.2.2.1 ops x.2.1 x.2.2.2.1 x.2.2.2.2 =
   ((B8I x t ops).1,(B8I x t ops).2.1,(B8I x t ops).2.2.2.1,ops,(B8I x t ops).2.2.1,(B8I x t ops).2.2.2.2.1,(B8I x t ops).2.2.2.2.2):=by
 have I:=A8i h1 hr
 have hl:=L4 ho
 have hm:=I.hml
 have hh:=hr.2.2.1
 have hho:∀ r∈x.2.2.2.2,L1 r.2.2=true:=fun r hx=>(I.hmem r hx).1
 obtain ⟨a1,a2⟩:=E2Y h1 hr t
 obtain ⟨b1,b2⟩:=D1E x.2.2.2.2 ops (by omega) (fun r hx=>L4 (hho r hx)) hl
 obtain ⟨c1,c2⟩:=D1A x.2.2.2.1 ops (by omega) hl
 obtain ⟨d1,d2⟩:=E52 x ops (by omega) (by omega) (fun r hx=>L4 (hho r hx)) hl
 have w1:=I5 (n:=(x.2.1.length:Int)+(x.2.2.2.2.length:Int)) (by omega) (by omega)
 have w2:=I5 (n:=(x.2.1.length:Int)+(x.2.2.2.2.length:Int)+2) (by omega) (by omega)
 have g0:A2r ops=true:=ho
 have g1:N8 ops=true:=decide_eq_true (by simp only [List.length_nil,MAXB];omega)
 have g2:M5 ops=ops:=rfl
 simp only [A7N,D2V,B8I,a1,a2,b1,b2,c1,c2,d1,d2,w1,w2,g0,g1,g2,Bool.true_and]
 cases ht:C0 t 1 1000000 with
 | false=>exact ⟨rfl,rfl⟩
 | true =>
  cases hok:Z7 ops with
  | false=>exact ⟨rfl,rfl⟩
  | true =>
   cases hout:(A2M x t != 2) with
   | true=>exact ⟨rfl,rfl⟩
   | false =>
    cases hlk:A2R x.2.2.2.2 ops with
    | true=>exact ⟨rfl,rfl⟩
    | false =>
     cases hmt:A8r x.2.2.2.1 ops with
     | false=>exact ⟨rfl,rfl⟩
     | true =>
      obtain ⟨z1,z2⟩:=D3o (r:=((1:Int),(t,ops))) x.1 x.2.2.1 x.2.1 ho (by omega) (by omega) hho (by omega) (D7M (x:=x) ht hok hlk hmt)
      simp only at z1 z2
      simp only [z1,z2]
      cases decide (((x.2.2.2.1.length+ops.length+B1N x.2.2.2.2:Nat):Int) > 60)<;>cases decide ((x.2.1.length:Int)+(x.2.2.2.2.length:Int)+2 > 300)<;>exact ⟨rfl,rfl⟩
theorem E8h (t:Int) (l:List H6):(∀ x∈l,x.1=1∨x.1=2∨x.1=3)→(A6s l t=0∧l.any (D3 t)=false)∨((A6s l t=1∨A6s l t=2∨A6s l t=3)∧l.any (D3 t)=true):=by
 induction l using E1r with
 | h0=>intro _;exact .inl ⟨rfl,rfl⟩
 | hs l r ih =>
  intro h
  have:=ih (fun x hx=>h x (by simp [hx]))
  rw [C6l,E1M]
  cases hr:D3 t r with
  | true=>exact .inr ⟨h r (by simp),by simp⟩
  | false=>simp only [cond_false,Bool.or_false];exact this
theorem D8Q {x:D8} (h1:A02 x.2.1) (hr:B0E x) {t:Int} (h:A2M x t=2):x.2.2.2.2.any (D3 t)=false∧x.2.1.any (D3 t)=false:=by
 obtain ⟨k1,k2⟩:=D4e h1 hr
 simp only [A2M] at h
 cases ha:x.2.2.2.2.any (D3 t) with
 | true=>rw [ha] at h;simp at h
 | false =>
  rw [ha] at h
  rcases E8h t x.2.1 k1 with ⟨_,hb⟩ | ⟨hk,_⟩
  ·exact ⟨rfl,hb⟩
  ·simp only [cond_false] at h
   rcases hk with e | e | e<;>rw [e] at h<;>simp [ofK] at h
theorem C89 (l l2:List H6):∀ i,i≤l.length→A0D (l++l2) i=A0D l i:=by
 intro i
 induction i with
 | zero=>intro _;rfl
 | succ i ih =>
  intro hi
  have e1:(l++l2).take i=l.take i:=List.take_append_of_le_length (by omega)
  have e2:(l++l2).getD i B9=l.getD i B9:=by simp only [List.getD_eq_getElem?_getD];rw [List.getElem?_append_left (by omega)]
  simp only [A0D,ih (by omega),e1,e2]
theorem E65 (l:List H6) (r:H6):A0D (l++[r]) (l++[r]).length=(A0D l l.length).bind fun s=>A42 (l.any (D3 r.2.1)) s.1 s.2 r:=by
 have e1:(l++[r]).take l.length=l:=by simp
 have e2:(l++[r]).getD l.length B9=r:=by simp [List.getD_eq_getElem?_getD]
 rw [show (l++[r]).length=l.length+1 by simp]
 simp only [A0D,C89 l [r] l.length (Nat.le_refl _),e1,e2]
theorem C3C {l:List H6} {r:H6} (h:A02 l) (hl:l.length<1048576) (hr:L1 r.2.2=true):A02 (l++[r]):=by
 refine ⟨by rw [List.length_append];simp;omega,fun x hx=>?_⟩
 rcases List.mem_append.1 hx with hx | hx
 ·exact h.2 x hx
 ·rw [List.mem_singleton.1 hx];exact hr
theorem E1G {x:D8} (h1:A02 x.2.1) (hr:B0E x):A02 x.2.2.2.2:=by
 have I:=A8i h1 hr
 exact ⟨by have:=hr.2.2.1;omega,fun r hx=>(I.hmem r hx).1⟩
theorem DrawnS.any {x:D8} (D:DrawnS x):D9F x:=by
 have I:=A8i D.1 D.2.1
 have:=I.hml
 have:=D.2.1.2.2.1
 exact ⟨D.1,by omega,E1G D.1 D.2.1,fun _=>D,by omega,by omega⟩
theorem DrawnS.push {x:D8} (D:DrawnS x) {r:H6} {m':List A1B} {h':List H6} (hr:L1 r.2.2=true) (hs:A42 (x.2.1.any (D3 r.2.1)) x.2.2.2.1 x.2.2.2.2 r=some (m', h'))
  (h1:m'.length+B1N h'≤60) (h2:x.2.1.length+1+h'.length≤300):DrawnS (x.1,x.2.1++[r],x.2.2.1,m', h'):=by
 obtain ⟨o,R,B⟩:=D
 have hn:A0D (x.2.1++[r]) (x.2.1++[r]).length=some (m', h'):=by rw [E65,R.2.2.2];exact hs
 have hlen:(x.2.1++[r]).length=x.2.1.length+1:=by simp
 have hsure:=R.2.1
 refine ⟨C3C o (by omega) hr,⟨R.1,⟨hsure.1,?_⟩,?_,hn⟩,fun i hi m h hp=>?_⟩
 ·show x.2.2.1≤(((x.2.1++[r]).length:Nat):Int)
  rw [hlen];omega
 ·show (((x.2.1++[r]).length:Nat):Int)+(h'.length:Int)≤300
  rw [hlen];omega
 ·replace hi:i≤(x.2.1++[r]).length:=hi
  replace hp:A0D (x.2.1++[r]) i=some (m,h):=hp
  rw [hlen] at hi
  by_cases hle:i≤x.2.1.length
  ·rw [C89 _ _ i hle] at hp
   exact B i hle m h hp
  ·obtain rfl:i=(x.2.1++[r]).length:=by rw [hlen];omega
   rw [hn] at hp
   cases hp
   rw [hlen]
   exact ⟨h1,h2⟩
theorem E5d {x:D8} (D:DrawnS x) (t:Int) {ops:Lq2} (ho:L1 ops=true):DrawnS (B8I x t ops).2:=by
 simp only [B8I]
 cases ht:C0 t 1 1000000 with
 | false=>exact D
 | true =>
  cases hok:Z7 ops with
  | false=>exact D
  | true =>
   cases hout:(A2M x t != 2) with
   | true=>exact D
   | false =>
    cases hlk:A2R x.2.2.2.2 ops with
    | true=>exact D
    | false =>
     cases hmt:A8r x.2.2.2.1 ops with
     | false=>exact D
     | true =>
      by_cases hk:((x.2.2.2.1.length+ops.length+B1N x.2.2.2.2:Nat):Int) > 60
      ·rw [decide_eq_true hk];exact D
      ·rw [decide_eq_false hk]
       by_cases hn:(x.2.1.length:Int)+(x.2.2.2.2.length:Int)+2 > 300
       ·rw [decide_eq_true hn];exact D
       ·rw [decide_eq_false hn]
        obtain ⟨_,hany⟩:=D8Q D.1 D.2.1 (t:=t) (by simpa using hout)
        have hst:=D7M (x:=x) ht hok hlk hmt
        rw [← hany] at hst
        exact D.push (r:=((1:Int),(t,ops))) ho hst (by rw [D7X];simp only;omega) (by rw [List.length_append];simp;omega)
theorem E6g (x:D8) (t:Int) (ops:Lq2):(B8I x t ops).2.2.1=x.2.1∨(B8I x t ops).2.2.1=x.2.1++[((1:Int),(t,ops))]:=by
 simp only [B8I]
 cases (!(C0 t 1 1000000)) with
 | true=>exact .inl rfl
 | false=>cases (!(Z7 ops)) with
  | true=>exact .inl rfl
  | false=>cases (A2M x t != 2) with
   | true=>exact .inl rfl
   | false=>cases A2R x.2.2.2.2 ops with
    | true=>exact .inl rfl
    | false=>cases (!(A8r x.2.2.2.1 ops)) with
     | true=>exact .inl rfl
     | false=>cases decide (((x.2.2.2.1.length+ops.length+B1N x.2.2.2.2:Nat):Int) > 60) with
      | true=>exact .inl rfl
      | false=>cases decide ((x.2.1.length:Int)+(x.2.2.2.2.length:Int)+2 > 300) with
       | true=>exact .inl rfl
       | false=>exact .inr rfl
theorem E2q {l:List H6} {r:H6} (h:∀ r∈l,E8Y r) (hr:E8Y r):∀ r'∈l++[r],E8Y r':=fun r' h'=>by
 rcases List.mem_append.1 h' with h' | h'
 ·exact h r' h'
 ·rw [List.mem_singleton.1 h'];exact hr
theorem E2k {x:D8} (D:A49 x) {t:Int} (ht:t≤6) {ops:Lq2} (ho:L1 ops=true) (hk:∀ o∈ops,o.2.1∈D0B∧o.2.2.size≤20):A49 (B8I x t ops).2:=by
 refine ⟨E5d D.1 t ho,?_⟩
 rcases E6g x t ops with e | e<;>rw [e]
 ·exact D.2
 ·exact E2q D.2 ⟨ht,hk⟩
noncomputable def D7w (m:List A1B) (held:List H6) (t:Int):List A1B:=(held.getD (held.findIdx (D3 t)) B9).2.2.foldl B8E m
noncomputable def A4O (x:D8) (t:Int) (yes:Bool):Bool×D8 :=
 cond (!(C0 t 1 1000000)) (false,x)
  (cond (A2M x t==1) (true,(x.1,x.2.1++[(cond yes 2 3,(t,[]))],x.2.2.1,cond yes (D7w x.2.2.2.1 x.2.2.2.2 t) x.2.2.2.1,x.2.2.2.2.eraseIdx (x.2.2.2.2.findIdx (D3 t))))
   (cond (A2M x t==3) (yes,x) (cond (A2M x t==4) (!yes,x) (cond yes (false,x) (cond (decide ((x.2.1.length:Int)+(x.2.2.2.2.length:Int) ≥ 300)) (false,x)
    (true,(x.1,x.2.1++[((3:Int),(t,[]))],x.2.2.1,x.2.2.2.1,x.2.2.2.2)))))))
theorem E5k {x:D8} {t:Int}:(A2M x t==1)=x.2.2.2.2.any (D3 t):=by
 simp only [A2M]
 cases x.2.2.2.2.any (D3 t) with
 | true=>rfl
 | false =>
  simp only [cond_false,ofK]
  cases (A6s x.2.1 t==0)<;>cases (A6s x.2.1 t==2)<;>rfl
theorem D2Z {k t:Int} (ht:C0 t 1 1000000=true) (hk:k=2∨k=3):A2I k t []=true:=by
 rcases hk with rfl | rfl<;>simp only [A2I,ht]<;>rfl
theorem E5l (k t:Int) (m:List A1B) (held:List H6) (ht:C0 t 1 1000000=true) (hk:k=2∨k=3) (hm:m.length≤1000) (hh:held.length≤1048576) (ho:∀ x∈held,L1 x.2.2=true) (ha:held.any (D3 t)=true) :
  B4m k t [] m held=true∧(C9v k t [] m held).2.1=cond (k==2) (D7w m held t) m∧(C9v k t [] m held).2.2.1=held.eraseIdx (held.findIdx (D3 t)):=by
 obtain ⟨n1,n2⟩:=E5m (k,(t,[])) m held
 simp only at n1 n2
 rw [n1,n2]
 obtain ⟨o1,_⟩:=D3V (k,(t,[])) m held [] rfl hm hh ho (by simp)
 refine ⟨o1,?_⟩
 have hok:=D2Z ht hk
 have hk1:(k==1)=false:=by rcases hk with rfl | rfl<;>rfl
 have a2:=D3a held t (by omega)
 rw [ha] at a2
 have hlt:=List.findIdx_lt_length.2 (List.any_eq_true.1 ha)
 have e1:A72 held t=((held.findIdx (D3 t):Nat):Int):=by rw [(B3L held t (by omega)).2,decide_eq_true hlt];rfl
 simp only [A93,hok,hk1,a2,D7w,e1,Bool.not_true,cond_false]
 generalize hi:held.findIdx (D3 t)=i at hlt e1 ⊢
 have e2:=K6 i (by omega)
 have e3:=B7g held (i+1)
 have e4:[]++held.take i++held.drop (i+1)=held.eraseIdx i:=by rw [List.nil_append,List.eraseIdx_eq_take_drop_succ]
 obtain ⟨s1,s2⟩:=D0W m (held.getD i B9).2.2 (by omega) (by have:=L4 (ho _ (I7 hlt B9));omega)
 simp only [e2,Int.toNat_natCast,e3,e4,A2O,s2]
 rcases hk with rfl | rfl<;>exact ⟨rfl,rfl⟩
theorem E1z {x:D8} {t:Int} (h1:(A2M x t==1)=false) (h3:(A2M x t==3)=false) (h4:(A2M x t==4)=false):A2M x t=2:=by
 revert h1 h3 h4
 simp only [A2M,ofK]
 cases x.2.2.2.2.any (D3 t)<;>cases (A6s x.2.1 t==0)<;>cases (A6s x.2.1 t==2)<;>simp
theorem D79 {x:D8} {t:Int} (ht:C0 t 1 1000000=true) (ha:x.2.2.2.2.any (D3 t)=false):A42 false x.2.2.2.1 x.2.2.2.2 ((3:Int),(t,[]))=some (x.2.2.2.1,x.2.2.2.2):=by
 simp only [A42,D2Z ht (.inr rfl),ha]
 rfl
theorem C7x {x:D8} (h1:A02 x.2.1) (hr:B0E x) (t:Int) (yes:Bool) :
  T2 t yes x.1 x.2.2.1 x.2.1 x.2.2.2.1 x.2.2.2.2=true∧B3I t yes x.1 x.2.2.1 x.2.1 x.2.2.2.1 x.2.2.2.2 =
   ((A4O x t yes).1,(A4O x t yes).2.1,(A4O x t yes).2.2.2.1,(A4O x t yes).2.2.1,(A4O x t yes).2.2.2.2.1,(A4O x t yes).2.2.2.2.2):=by
 have I:=A8i h1 hr
 have hm:=I.hml
 have hh:=hr.2.2.1
 have hho:∀ r∈x.2.2.2.2,L1 r.2.2=true:=fun r hx=>(I.hmem r hx).1
 obtain ⟨a1,a2⟩:=E2Y h1 hr t
 have w1:=I5 (n:=(x.2.1.length:Int)+(x.2.2.2.2.length:Int)) (by omega) (by omega)
 simp only [T2,B3I,A4O,a1,a2,w1,Bool.true_and]
 cases ht:C0 t 1 1000000 with
 | false=>exact ⟨rfl,rfl⟩
 | true =>
  cases hout:(A2M x t==1) with
  | true =>
   rw [E5k] at hout
   have f3:∀ k:Int,N5 k t []=true:=fun k=>rfl
   have f4:∀ k:Int,U6 k t []=(k,t,[]):=fun k=>rfl
   have f1:∀ k:Int,decide ((x.2.1.length+[(k,(t,([]:Lq2)))].length)*40≤MAXB)=true:=fun k=>decide_eq_true (by simp only [List.length_singleton,MAXB];omega)
   obtain ⟨p1,p2,p3⟩:=E5l 2 t x.2.2.2.1 x.2.2.2.2 ht (.inl rfl) (by omega) (by omega) hho hout
   obtain ⟨p4,p5,p6⟩:=E5l 3 t x.2.2.2.1 x.2.2.2.2 ht (.inr rfl) (by omega) (by omega) hho hout
   cases yes with
   | true=>simp only [Z8,A5a,p1,p2,p3,f3,f4,f1,Bool.not_true,cond_true,cond_false,Bool.and_self];exact ⟨trivial,rfl⟩
   | false=>simp only [Z8,A5a,p4,p5,p6,f3,f4,f1,Bool.not_true,cond_true,cond_false,Bool.and_self];exact ⟨trivial,rfl⟩
  | false =>
   cases h3:(A2M x t==3) with
   | true=>cases yes<;>exact ⟨rfl,rfl⟩
   | false =>
    cases h4:(A2M x t==4) with
    | true=>cases yes<;>exact ⟨rfl,rfl⟩
    | false =>
     cases yes with
     | true=>exact ⟨rfl,rfl⟩
     | false =>
      obtain ⟨ha,_⟩:=D8Q h1 hr (E1z hout h3 h4)
      obtain ⟨z1,z2⟩:=D3o (r:=((3:Int),(t,[]))) x.1 x.2.2.1 x.2.1 rfl (by omega) (by omega) hho (by omega) (D79 (x:=x) ht ha)
      simp only at z1 z2
      simp only [z1,z2]
      cases decide ((x.2.1.length:Int)+(x.2.2.2.2.length:Int) ≥ 300)<;>exact ⟨rfl,rfl⟩
theorem E4Z (h:List H6) (k:Nat) (hk:k<h.length):B1N (h.eraseIdx k)+(h.getD k B9).2.2.length=B1N h:=by
 induction h generalizing k with
 | nil=>simp at hk
 | cons x h ih =>
  cases k with
  | zero=>simp [B1N];omega
  | succ k =>
   have:=ih k (by simpa using hk)
   simp only [B1N,List.eraseIdx_cons_succ,List.map_cons,List.sum_cons,List.getD_cons_succ] at this ⊢
   omega
theorem E6Y (l:Lq2):∀ m:List A1B,(l.foldl B8E m).length≤m.length+l.length:=by
 induction l with
 | nil=>intro m;simp
 | cons o l ih =>
  intro m
  have:=ih (B8E m o)
  have:=D3D m o
  simp only [List.foldl_cons,List.length_cons]
  omega
theorem D8H {x:D8} (D:DrawnS x) (t:Int) (yes:Bool):DrawnS (A4O x t yes).2:=by
 obtain ⟨b1,b2⟩:=D.2.2 x.2.1.length (Nat.le_refl _) _ _ D.2.1.2.2.2
 simp only [A4O]
 cases ht:C0 t 1 1000000 with
 | false=>exact D
 | true =>
  cases hout:(A2M x t==1) with
  | true =>
   rw [E5k] at hout
   have hlt:=List.findIdx_lt_length.2 (List.any_eq_true.1 hout)
   have he:=E4Z _ _ hlt
   have hlen:(x.2.2.2.2.eraseIdx (x.2.2.2.2.findIdx (D3 t))).length+1=x.2.2.2.2.length:=by rw [List.length_eraseIdx];simp only [hlt,if_true];omega
   have hfl:=E6Y (x.2.2.2.2.getD (x.2.2.2.2.findIdx (D3 t)) B9).2.2 x.2.2.2.1
   have hst:A42 (x.2.1.any (D3 t)) x.2.2.2.1 x.2.2.2.2 (cond yes 2 3,(t,[]))=some (cond yes (D7w x.2.2.2.1 x.2.2.2.2 t) x.2.2.2.1,x.2.2.2.2.eraseIdx (x.2.2.2.2.findIdx (D3 t))):=by
    cases yes with
    | true =>
     have g:decide (((((x.2.2.2.2.getD (x.2.2.2.2.findIdx (D3 t)) B9).2.2.foldl B8E x.2.2.2.1).length:Nat):Int)≤60)=true:=decide_eq_true (by omega)
     simp only [A42,cond_true,D2Z ht (.inl rfl),hout,g,D7w]
     rfl
    | false =>
     have g:decide ((x.2.2.2.1.length:Int)≤60)=true:=decide_eq_true (by omega)
     simp only [A42,cond_false,D2Z ht (.inr rfl),hout,g]
     rfl
   refine D.push (r:=(cond yes 2 3,(t,[]))) rfl hst ?_ (by omega)
   cases yes with
   | true=>simp only [cond_true,D7w];omega
   | false=>simp only [cond_false];omega
  | false =>
   cases h3:(A2M x t==3) with
   | true=>exact D
   | false =>
    cases h4:(A2M x t==4) with
    | true=>exact D
    | false =>
     cases yes with
     | true=>exact D
     | false =>
      obtain ⟨ha,hl⟩:=D8Q D.1 D.2.1 (E1z hout h3 h4)
      by_cases hn:(x.2.1.length:Int)+(x.2.2.2.2.length:Int) ≥ 300
      ·rw [decide_eq_true hn];exact D
      ·rw [decide_eq_false hn]
       have hst:=D79 (x:=x) ht ha
       rw [← hl] at hst
       exact D.push (r:=((3:Int),(t,[]))) rfl hst b1 (by omega)
theorem E1v (x:D8) (t:Int) (yes:Bool):(A4O x t yes).2.2.1=x.2.1∨∃ k:Int,(A4O x t yes).2.2.1=x.2.1++[(k,(t,[]))]:=by
 simp only [A4O]
 cases (!(C0 t 1 1000000)) with
 | true=>exact .inl rfl
 | false=>cases (A2M x t==1) with
  | true=>exact .inr ⟨_,rfl⟩
  | false=>cases (A2M x t==3) with
   | true=>exact .inl rfl
   | false=>cases (A2M x t==4) with
    | true=>exact .inl rfl
    | false=>cases yes with
     | true=>exact .inl rfl
     | false=>cases decide ((x.2.1.length:Int)+(x.2.2.2.2.length:Int) ≥ 300) with
      | true=>exact .inl rfl
      | false=>exact .inr ⟨_,rfl⟩
theorem D6z {x:D8} (D:A49 x) {t:Int} (ht:t≤6) (yes:Bool):A49 (A4O x t yes).2:=by
 refine ⟨D8H D.1 t yes,?_⟩
 rcases E1v x t yes with e | ⟨k,e⟩<;>rw [e]
 ·exact D.2
 ·exact E2q D.2 ⟨ht,fun o ho=>by simp at ho⟩
theorem A9O {b:List Int} {i:Int} (hc:cOk b i) (n:Int) (h:Int):O7 n b i h=true∧(A2o n b i h).2.1=b∧cOk b (A2o n b i h).2.2.1:=by
 obtain ⟨a1,a2,a3,a4,a5⟩:=D7 hc n h
 exact ⟨a1,a4,a5⟩
theorem E7V {x:D8} (D:A49 x) {k:Nat} (hk:k<x.2.2.2.2.length):(x.2.2.2.2.getD k ((0:Int),((0:Int),[]))).2.1≤6:=by
 have I:=A8i D.1.1 D.1.2.1
 obtain ⟨r,hr,hp⟩:=List.any_eq_true.1 (I.hmem _ (I7 hk ((0:Int),((0:Int),[])))).2
 rw [List.take_length] at hr
 have:=(D.2 r hr).1
 rw [← (beq_iff_eq.1 hp:r.2.1=_)]
 exact this
noncomputable def B4S (x:D8) (keep:Int):Nat:=(x.2.2.1+min (max keep 0) ((x.2.1.length:Int) - x.2.2.1)).toNat
noncomputable def B2d (x:D8) (keep:Int):D8:=(x.1,x.2.1.take (B4S x keep),((B4S x keep:Nat):Int),(O1 (x.2.1.take (B4S x keep))).1,(O1 (x.2.1.take (B4S x keep))).2.1)
theorem D1N {l:List H6} (h:A02 l) (n:Nat):A02 (l.take n):=⟨by rw [List.length_take];have:=h.1;omega,fun x hx=>h.2 x (List.mem_of_mem_take hx)⟩
theorem E1b {x:D8} (h1:A02 x.2.1) (hs:0≤x.2.2.1∧x.2.2.1≤(x.2.1.length:Int)) (keep:Int) :
  A5o keep x.1 x.2.2.1 x.2.1 x.2.2.2.1 x.2.2.2.2=true∧B8k keep x.1 x.2.2.1 x.2.1 x.2.2.2.1 x.2.2.2.2=((B2d x keep).1,(B2d x keep).2.2.1,(B2d x keep).2.1,(B2d x keep).2.2.2.1,(B2d x keep).2.2.2.2):=by
 have hl:=h1.1
 have w0:=I5 (n:=(x.2.1.length:Int) - x.2.2.1) (by omega) (by omega)
 have w1:=I5 (n:=x.2.2.1+((x.2.1.length:Int) - x.2.2.1)) (by omega) (by omega)
 have w2:=I5 (n:=x.2.2.1+(0:Int)) (by omega) (by omega)
 have rep:∀ n,M8 (x.2.1.take n)=true∧T3 (x.2.1.take n)=((O1 (x.2.1.take n)).2.2,(O1 (x.2.1.take n)).1,(O1 (x.2.1.take n)).2.1):=fun n=>D0J _ (by rw [List.length_take];omega) (A1O (D1N h1 n))
 simp only [A5o,B8k,B5G,w0,w1,w2,(rep _).1,(rep _).2,Bool.and_true]
 have d1:decide ((0:Int)≤0∧0≤x.2.2.1+((x.2.1.length:Int) - x.2.2.1)∧x.2.2.1+((x.2.1.length:Int) - x.2.2.1)≤(x.2.1.length:Int))=true:=decide_eq_true (by omega)
 have d2:decide ((0:Int)≤0∧0≤x.2.2.1+0∧x.2.2.1+0≤(x.2.1.length:Int))=true:=decide_eq_true (by omega)
 have hres:∀ n:Nat,n=B4S x keep→(x.1,((n:Nat):Int),x.2.1.take n,(O1 (x.2.1.take n)).1,(O1 (x.2.1.take n)).2.1)=((B2d x keep).1,(B2d x keep).2.2.1,(B2d x keep).2.1,(B2d x keep).2.2.2.1,(B2d x keep).2.2.2.2):=fun n hn=>by subst hn;rfl
 by_cases hk:keep<0
 ·rw [decide_eq_true hk,decide_eq_false (show ¬ (0:Int) > (x.2.1.length:Int) - x.2.2.1 by omega)]
  exact ⟨d2,hres _ (by simp only [B4S];omega)⟩
 ·rw [decide_eq_false hk]
  by_cases hg:keep > (x.2.1.length:Int) - x.2.2.1
  ·rw [decide_eq_true hg]
   exact ⟨d1,hres _ (by simp only [B4S];omega)⟩
  ·rw [decide_eq_false hg]
   have w3:=I5 (n:=x.2.2.1+keep) (by omega) (by omega)
   simp only [w3,cond_false]
   exact ⟨decide_eq_true (by omega),hres _ (by simp only [B4S];omega)⟩
theorem E6n {x:D8} (hs:0≤x.2.2.1∧x.2.2.1≤(x.2.1.length:Int)) (keep:Int):B4S x keep≤x.2.1.length:=by
 simp only [B4S];omega
theorem E56 {l:List H6} {n:Nat} {s:List A1B×List H6} (h:A0D l n=some s) {i:Nat} (hi:i≤n):∃ s', A0D l i=some s':=by
 cases hp:A0D l i with
 | some s'=>exact ⟨s', rfl⟩
 | none =>
  have:=D7G hp (n - i)
  rw [show i+(n - i)=n by omega,h] at this
  cases this
theorem D8e (l:List H6) (k i:Nat) (hk:k≤l.length) (hi:i≤k):A0D (l.take k) i=A0D l i:=by
 have:=C89 (l.take k) (l.drop k) i (by rw [List.length_take];omega)
 rw [List.take_append_drop] at this
 exact this.symm
theorem DrawnS.cut {x:D8} (D:DrawnS x) {n:Nat} (hn:n≤x.2.1.length):DrawnS (x.1,x.2.1.take n,((n:Nat):Int),(O1 (x.2.1.take n)).1,(O1 (x.2.1.take n)).2.1)∧(O1 (x.2.1.take n)).2.2=true:=by
 obtain ⟨o,R,B⟩:=D
 obtain ⟨s,hs⟩:=E56 R.2.2.2 hn
 have hl:(x.2.1.take n).length=n:=by rw [List.length_take];omega
 have hp:A0D (x.2.1.take n) (x.2.1.take n).length=some s:=by rw [hl,D8e _ _ _ hn (Nat.le_refl _)];exact hs
 have he:O1 (x.2.1.take n)=(s.1,s.2,true):=by simp only [O1,hp]
 rw [he]
 obtain ⟨b1,b2⟩:=B n hn s.1 s.2 hs
 refine ⟨⟨D1N o n,⟨R.1,⟨by show (0:Int)≤((n:Nat):Int);omega,?_⟩,?_,hp⟩,fun i hi m h hp2=>?_⟩,rfl⟩
 ·show ((n:Nat):Int)≤(((x.2.1.take n).length:Nat):Int)
  rw [hl];omega
 ·show (((x.2.1.take n).length:Nat):Int)+(s.2.length:Int)≤300
  rw [hl];omega
 ·replace hi:i≤(x.2.1.take n).length:=hi
  rw [hl] at hi
  replace hp2:A0D (x.2.1.take n) i=some (m,h):=hp2
  rw [D8e _ _ _ hn hi] at hp2
  exact B i (by omega) m h hp2
theorem E2y {x:D8} (D:DrawnS x) (keep:Int):DrawnS (B2d x keep):=(D.cut (E6n D.2.1.2.1 keep)).1
theorem E0g {x:D8} (D:A49 x) (keep:Int):A49 (B2d x keep):=⟨E2y D.1 keep,fun r hr=>D.2 r (List.mem_of_mem_take (show r∈x.2.1.take (B4S x keep) from hr))⟩
theorem D84 {b:List Int} {i:Int} (hc:cOk b i) (h:Int) (most:Int) (hm:most≤1000):A94 most b i h=true∧∃ x:D8,A49 x∧∃ (s1 i' h':Int),
    B5L most b i h=(x.1,x.2.2.1,b,i', h', x.1,x.2.2.1,x.2.1,x.2.2.2.1,x.2.2.2.2)∧cOk b i':=by
  obtain ⟨a1,a2,a3,a4,a5⟩:=D7 hc 4 h
  have a3:=a3 (by omega)
  obtain ⟨b1,b2,b3,b4,b5⟩:=D7 a5 most (A3 4 b i h).2.2.2
  have hn:C4j (A3 4 b i h).1=((A3 4 b i h).1,0,[],[],[]):=by
    simp only [C4j,E3Y]
    rw [decide_eq_true (by omega)]
    rfl
  have key:∃ (x:D8) (i' h':Int),A49 x∧A75 most b i h=(0,b,i', h', x.1,x.2.2.1,x.2.1,x.2.2.2.1,x.2.2.2.2)∧cOk b i':=by
    have e0:A75 most b i h=B8M (A3 most b (A3 4 b i h).2.2.1 (A3 4 b i h).2.2.2).1 b (A3 most b (A3 4 b i h).2.2.1 (A3 4 b i h).2.2.2).2.2.1 (A3 most b (A3 4 b i h).2.2.1 (A3 4 b i h).2.2.2).2.2.2 0 0 (A3 4 b i h).1 0 [] [] []:=by
      simp only [A75,D4o,hn,a4,b4]
    rw [e0]
    refine A0n (ss:=fun v:A2v=>A9S v.1 v.2.1 v.2.2.1 v.2.2.2.1 0 0 v.2.2.2.2.1 v.2.2.2.2.2.1 v.2.2.2.2.2.2.1 v.2.2.2.2.2.2.2.1 v.2.2.2.2.2.2.2.2) (fa:=B6)
      (fun v=>∃ (n i h:Int) (x:D8),v=(n,b,i,h,x.1,x.2.2.1,x.2.1,x.2.2.2.1,x.2.2.2.2)∧n≤1000000∧cOk b i∧A49 x)
      (fun a:A1t=>∃ (x:D8) (i' h':Int),A49 x∧a=(0,b,i', h', x.1,x.2.2.1,x.2.1,x.2.2.2.1,x.2.2.2.2)∧cOk b i') (fun v=>v.1.toNat) ?_
      ⟨_,_,_,((A3 4 b i h).1,[],0,[],[]),rfl,?_,b5,E4d a2 (by omega)⟩ (by
        have:(A3 most b (A3 4 b i h).2.2.1 (A3 4 b i h).2.2.2).1≤1000000:=by
          by_cases hp:0<most
          · have:=b3 hp;omega
          · have e:decide (most≤0)=true:=decide_eq_true (by omega)
            simp only [A3,e,cond_true];omega
        simp only;omega)
    · rintro v ⟨n,i,h,x,rfl,hn,hc,D⟩
      by_cases hgt:n > 0
      · have e1:decide (n > (0:Int))=true:=decide_eq_true hgt
        have ew:=I5 (n:=n - 1) (by omega) (by omega)
        obtain ⟨c1,c2,c3,c4,c5⟩:=D7 hc 6 h
        have c3:=c3 (by omega)
        obtain ⟨d1,d2,d3,d4,d5⟩:=D7 c5 8 (A3 6 b i h).2.2.2
        have k2:E1 b i h=A3 8 b (A3 6 b i h).2.2.1 (A3 6 b i h).2.2.2:=by simp only [E1,c4]
        rw [← k2] at d2 d4 d5
        have go : ∀ (w : A2v) (i' h' : Int) (x' : D8), w = (n - 1, b, i', h', x'.1, x'.2.2.1, x'.2.1, x'.2.2.2.1, x'.2.2.2.2) → cOk b i' → A49 x' →
            ((∃ v', (Sum.inl w:A2v ⊕ A1t)=.inl v'∧(∃ (n i h:Int) (x:D8),v'=(n,b,i,h,x.1,x.2.2.1,x.2.1,x.2.2.2.1,x.2.2.2.2)∧n≤1000000∧cOk b i∧A49 x)∧v'.1.toNat<n.toNat) ∨
              ∃ a:A1t,(Sum.inl w:A2v ⊕ A1t)=.inr a∧∃ (x:D8) (i' h':Int),A49 x∧a=(0,b,i', h', x.1,x.2.2.1,x.2.1,x.2.2.2.1,x.2.2.2.2)∧cOk b i'):=fun w i' h' x' hw hc' D' =>
          .inl ⟨w,rfl,⟨n - 1,i', h', x', hw,by omega,hc', D'⟩,by rw [hw];simp only;omega⟩
        -- holding
        obtain ⟨f1,f2,f3,f4,f5,f6⟩:=B3b d5 (E1 b i h).2.2.2
        have k3:A7K b i h=F0 b (E1 b i h).2.2.1 (E1 b i h).2.2.2:=by simp only [A7K,d4]
        rw [← k3] at f2 f3 f4 f5 f6
        have ho:=C2v f4 (by omega)
        have ht6:wI ((1:Int)+(A3 6 b i h).1)≤6:=by rw [I5 (by omega) (by omega)];omega
        obtain ⟨g1,g2⟩:=E3F D.1.1 D.1.2.1 (wI ((1:Int)+(A3 6 b i h).1)) (A7K b i h).2.2.2 ho
        have gD:=E2k D ht6 ho (fun o h=>⟨(f4.2 o h).1.1,(f4.2 o h).2.2⟩)
        have k4:B9E b i h x.1 x.2.2.1 x.2.1 x.2.2.2.1 x.2.2.2.2=_:=g2
        -- deciding one that is held
        have dec:∀ (t:Int) (y:Bool),t≤6→T2 t y x.1 x.2.2.1 x.2.1 x.2.2.2.1 x.2.2.2.2=true∧B3I t y x.1 x.2.2.1 x.2.1 x.2.2.2.1 x.2.2.2.2=_∧A49 (A4O x t y).2:=fun t y h6=>⟨(C7x D.1.1 D.1.2.1 t y).1,(C7x D.1.1 D.1.2.1 t y).2,D6z D h6 y⟩
        have two:((∃ v', (cond (decide ((x.2.2.2.2.length:Int) > (0:Int))) (cond (A5 (x.2.2.2.2.length:Int) b ((E1 b i h).2.2.1) ((E1 b i h).2.2.2)) (cond (decide (0≤((Q0 b i h x.2.2.2.2).1)∧((Q0 b i h x.2.2.2.2).1)<(x.2.2.2.2.length:Int))) (cond (O7 (4:Int) ((Q0 b i h x.2.2.2.2).2.1) ((Q0 b i h x.2.2.2.2).2.2.1) ((Q0 b i h x.2.2.2.2).2.2.2)) (cond (T2 (((x.2.2.2.2.getD (((Q0 b i h x.2.2.2.2).1).toNat) ((0:Int),((0:Int),[]))).2).1) (!((A1L b i h x.2.2.2.2).1)) x.1 x.2.2.1 x.2.1 x.2.2.2.1 x.2.2.2.2) (.inl (n - 1,((A1L b i h x.2.2.2.2).2.1),((A1L b i h x.2.2.2.2).2.2.1),((A1L b i h x.2.2.2.2).2.2.2),((A3M b i h x.1 x.2.2.1 x.2.1 x.2.2.2.1 x.2.2.2.2).2.1),((A3M b i h x.1 x.2.2.1 x.2.1 x.2.2.2.1 x.2.2.2.2).2.2.1),((A3M b i h x.1 x.2.2.1 x.2.1 x.2.2.2.1 x.2.2.2.2).2.2.2.1),((A3M b i h x.1 x.2.2.1 x.2.1 x.2.2.2.1 x.2.2.2.2).2.2.2.2.1),((A3M b i h x.1 x.2.2.1 x.2.1 x.2.2.2.1 x.2.2.2.2).2.2.2.2.2))) (.inr B6)) (.inr B6)) (.inr B6)) (.inr B6)) (cond (O7 (4:Int) b ((E1 b i h).2.2.1) ((E1 b i h).2.2.2)) (cond (T2 (wI ((1:Int)+((A3 (6:Int) b i h).1))) (!((A1H b i h).1)) x.1 x.2.2.1 x.2.1 x.2.2.2.1 x.2.2.2.2) (.inl (n - 1,((A1H b i h).2.1),((A1H b i h).2.2.1),((A1H b i h).2.2.2),((A3T b i h x.1 x.2.2.1 x.2.1 x.2.2.2.1 x.2.2.2.2).2.1),((A3T b i h x.1 x.2.2.1 x.2.1 x.2.2.2.1 x.2.2.2.2).2.2.1),((A3T b i h x.1 x.2.2.1 x.2.1 x.2.2.2.1 x.2.2.2.2).2.2.2.1),((A3T b i h x.1 x.2.2.1 x.2.1 x.2.2.2.1 x.2.2.2.2).2.2.2.2.1),((A3T b i h x.1 x.2.2.1 x.2.1 x.2.2.2.1 x.2.2.2.2).2.2.2.2.2))) (.inr B6)) (.inr B6)):A2v ⊕ A1t)=.inl v'∧(∃ (n i h:Int) (x:D8),v'=(n,b,i,h,x.1,x.2.2.1,x.2.1,x.2.2.2.1,x.2.2.2.2)∧n≤1000000∧cOk b i∧A49 x)∧v'.1.toNat<n.toNat)):=by
          by_cases hh:(x.2.2.2.2.length:Int) > 0
          · rw [decide_eq_true hh]
            obtain ⟨j1,j2,j3,j4,j5⟩:=D7 d5 (x.2.2.2.2.length:Int) (E1 b i h).2.2.2
            have j3:=j3 (by omega)
            have k5:Q0 b i h x.2.2.2.2=A3 (x.2.2.2.2.length:Int) b (E1 b i h).2.2.1 (E1 b i h).2.2.2:=by simp only [Q0,d4]
            rw [← k5] at j2 j3 j4 j5
            obtain ⟨l1,l2,l3⟩:=A9O j5 4 (Q0 b i h x.2.2.2.2).2.2.2
            have k6:A1L b i h x.2.2.2.2=A2o 4 b (Q0 b i h x.2.2.2.2).2.2.1 (Q0 b i h x.2.2.2.2).2.2.2:=by simp only [A1L,j4]
            rw [← k6] at l2 l3
            obtain ⟨m1,m2,m3⟩:=dec (((x.2.2.2.2.getD (((Q0 b i h x.2.2.2.2).1).toNat) ((0:Int),((0:Int),[]))).2).1) (!((A1L b i h x.2.2.2.2).1)) (E7V D (by omega))
            have k7:A3M b i h x.1 x.2.2.1 x.2.1 x.2.2.2.1 x.2.2.2.2=_:=m2
            rw [decide_eq_true (And.intro j2 j3)]
            simp only [j1,j4,l1,m1,k7,cond_true]
            exact ⟨_,rfl,⟨n - 1,_,_,_,by rw [l2],by omega,l3,m3⟩,by simp only;omega⟩
          · rw [decide_eq_false hh]
            obtain ⟨l1,l2,l3⟩:=A9O d5 4 (E1 b i h).2.2.2
            have k8:A1H b i h=A2o 4 b (E1 b i h).2.2.1 (E1 b i h).2.2.2:=by simp only [A1H,d4]
            rw [← k8] at l2 l3
            obtain ⟨m1,m2,m3⟩:=dec (wI ((1:Int)+((A3 (6:Int) b i h).1))) (!((A1H b i h).1)) ht6
            have k9:A3T b i h x.1 x.2.2.1 x.2.1 x.2.2.2.1 x.2.2.2.2=_:=m2
            simp only [l1,m1,k9,cond_true,cond_false]
            exact ⟨_,rfl,⟨n - 1,_,_,_,by rw [l2],by omega,l3,m3⟩,by simp only;omega⟩
        simp only [A9S,e1,c1,c4,d1,d4,f1,g1,k4,ew,cond_true]
        cases ((E1 b i h).1==0) with
        | true=>exact go _ _ _ _ (by rw [f2]) f3 gD
        | false =>
          cases ((E1 b i h).1==1) with
          | true=>exact go _ _ _ _ (by rw [f2]) f3 gD
          | false =>
            cases ((E1 b i h).1==2) with
            | true=>exact go _ _ _ _ (by rw [f2]) f3 gD
            | false =>
              cases ((E1 b i h).1==3) with
              | true=>exact go _ _ _ _ (by rw [f2]) f3 gD
              | false =>
                cases ((E1 b i h).1==4) with
                | true=>exact .inl two
                | false =>
                  cases ((E1 b i h).1==5) with
                  | true=>exact .inl two
                  | false =>
                    cases ((E1 b i h).1==6) with
                    | true=>exact go _ _ _ (x.1,x.2.1,(x.2.1.length:Int),x.2.2.2.1,x.2.2.2.2) rfl d5 (⟨D5h D.1 (by omega) (Int.le_refl _),D.2⟩)
                    | false =>
                      obtain ⟨j1,j2,j3,j4,j5⟩:=D7 d5 3 (E1 b i h).2.2.2
                      have k10:A8g b i h=A3 3 b (E1 b i h).2.2.1 (E1 b i h).2.2.2:=by simp only [A8g,d4]
                      rw [← k10] at j4 j5
                      obtain ⟨m1,m2⟩:=E1b D.1.1 D.1.2.1.2.1 (A8g b i h).1
                      simp only [j1,m1,m2,cond_true,cond_false]
                      exact go _ _ _ _ (by rw [j4]) j5 (E0g D _)
      · have e1:decide (n > (0:Int))=false:=decide_eq_false hgt
        simp only [A9S,e1,cond_false]
        exact .inr ⟨_,rfl,x,i,h,D,rfl,hc⟩
    · by_cases hp:0<most
      · have:=b3 hp;omega
      · have e:decide (most≤0)=true:=decide_eq_true (by omega)
        simp only [A3,e,cond_true];omega
  obtain ⟨x,i', h', D,e,hc'⟩:=key
  have q0:A5 most (A3 4 b i h).2.1 (A3 4 b i h).2.2.1 (A3 4 b i h).2.2.2=true:=by rw [a4];exact b1
  simp only [A94,B5L,a1,q0,e]
  exact ⟨rfl,x,D,0,i', h', rfl,hc'⟩
theorem E29 {b:List Int} {i:Int} (hc:cOk b i) (h:Int):B4U b i h=true∧L1 (A9L b i h).2.2.1=true∧(A9L b i h).2.2.2.1=b∧cOk b (A9L b i h).2.2.2.2.1∧(A9L b i h).2.1≤4:=by
 obtain ⟨a1,a2,a3,a4⟩:=A0A hc h (l:=[(1:Int),(1:Int),(2:Int),(3:Int)]) (by simp)
 obtain ⟨b1,b2,b3,b4,b5⟩:=D7 a4 4 (H7 b i h [(1:Int),(1:Int),(2:Int),(3:Int)]).2.2.2.1
 have k1:A4v b i h=A3 4 b (H7 b i h [(1:Int),(1:Int),(2:Int),(3:Int)]).2.2.1 (H7 b i h [(1:Int),(1:Int),(2:Int),(3:Int)]).2.2.2.1:=by simp only [A4v,a3]
 rw [← k1] at b2 b3 b4 b5
 have b3:=b3 (by omega)
 have ht:wI ((1:Int)+(A4v b i h).1)≤4:=by rw [I5 (by omega) (by omega)];omega
 obtain ⟨c1,c2,c3,c4,c5,c6⟩:=B3b b5 (A4v b i h).2.2.2
 have k2:C4n b i h=F0 b (A4v b i h).2.2.1 (A4v b i h).2.2.2:=by simp only [C4n,b4]
 rw [← k2] at c2 c3 c4 c5 c6
 simp only [B4U,A9L,a1,a3,b1,b4,c1,Bool.true_and]
 cases ((H7 b i h [(1:Int),(1:Int),(2:Int),(3:Int)]).1==1) with
 | true=>exact ⟨rfl,C2v c4 (Nat.le_trans c6 (by decide)),c2,c3,ht⟩
 | false=>exact ⟨rfl,rfl,rfl,b5,ht⟩
theorem E38 {α:Type} {l:List α} {i:Nat} {x y:α} (h:y∈l.set i x):y=x∨y∈l:=by
 rcases List.mem_or_eq_of_mem_set h with h | h
 ·exact .inr h
 ·exact .inl h
theorem D33 {b:List Int} {i:Int} (hc:cOk b i) (h:Int):A5c b i h=true∧(B3E b i h).1.size≤20∧(B3E b i h).2.1=b∧cOk b (B3E b i h).2.2.1:=by
 obtain ⟨a1,a2,a3⟩:=A9O hc 6 h
 simp only [A5c,B3E,B89,B9c,a1,a2,Bool.true_and]
 generalize A2o 6 b i h=r at *
 cases r.1 with
 | true =>
  obtain ⟨c1,c2,c3,c4⟩:=C2U a3 r.2.2.2 (l:=[(⟨#[]⟩:ByteArray),(⟨#[65]⟩:ByteArray),(⟨#[97,32,98]⟩:ByteArray),(⟨#[116,104,105,114,116,101,101,110,98,121,116,101,115]⟩:ByteArray),(⟨#[116,119,101,108,118,101,98,121,116,101,115,49]⟩:ByteArray)]) (by decide)
  simp only [cond_true]
  refine ⟨c1,?_,c3,c4⟩
  revert c2
  generalize (B6T b r.2.2.1 r.2.2.2 [(⟨#[]⟩:ByteArray),(⟨#[65]⟩:ByteArray),(⟨#[97,32,98]⟩:ByteArray),(⟨#[116,104,105,114,116,101,101,110,98,121,116,101,115]⟩:ByteArray),(⟨#[116,119,101,108,118,101,98,121,116,101,115,49]⟩:ByteArray)]).1=s
  intro c2
  simp only [List.mem_cons,List.not_mem_nil,or_false] at c2
  rcases c2 with rfl | rfl | rfl | rfl | rfl<;>decide
 | false =>
  obtain ⟨c1,c2,_,c3,c4⟩:=D0D a3 r.2.2.2
  simp only [cond_false]
  exact ⟨c1,by omega,c3,c4⟩
noncomputable def F1w (l:List Int):ByteArray:=⟨(l.map fun n=>UInt8.ofNat n.toNat).toArray⟩
theorem E5M (l:List Int):(F1w l).size=l.length:=by simp [F1w,ByteArray.size]
theorem E2T {b:List Int} {i:Int} (hc:cOk b i) (h:Int):B4w b i h=true∧L1 (C6d b i h).1=true∧(C6d b i h).2.1=b∧cOk b (C6d b i h).2.2.1:=by
 obtain ⟨a1,a2,a3,a4,a5,a6⟩:=B3b hc h
 simp only [B4w,C6d,C9,V6,A6e,A59,Z6,a1,a2,Bool.true_and]
 generalize F0 b i h=r at *
 obtain ⟨b1,b2,b3,b4,b5⟩:=D7 a3 10 r.2.2.1
 simp only [b1,b4,Bool.true_and]
 generalize A3 10 b r.2.1 r.2.2.1=t at *
 have hidx:decide ((0:Int)≤0∧(0:Int)<(r.2.2.2.length:Int))=true:=decide_eq_true (by omega)
 have hidx2:decide ((0:Int)≤0∧(0:Int)≤0∧(0:Int)≤(r.2.2.2.length:Int))=true:=decide_eq_true (by omega)
 have hsm:∀ o∈r.2.2.2,o.2.1.size≤1048576∧o.2.2.size≤1048576:=fun o ho=>by have:=a4.2 o ho;omega
 have h0:=hsm _ (I7 (l:=r.2.2.2) (i:=0) (by omega) ((0:Int),((⟨#[]⟩:ByteArray),(⟨#[]⟩:ByteArray))))
 have hset:∀ o:Int×ByteArray×ByteArray,o.2.1.size≤1048576→o.2.2.size≤1048576→L1 (r.2.2.2.set 0 o)=true:=fun o h1 h2=>B1v (by rw [List.length_set];omega) fun y hy=>by
  rcases E38 hy with rfl | hy
  ·exact ⟨h1,h2⟩
  ·exact hsm y hy
 cases c0:(t.1==0) with
 | true =>
  obtain ⟨o1,o2,o3,o4,o5,o6⟩:=D1O b5 t.2.2.2
  have m1:∀ x:Int×ByteArray×ByteArray,decide ((r.2.2.2.length+[x].length)*40≤MAXB)=true:=fun x=>decide_eq_true (by simp only [List.length_singleton,MAXB];omega)
  simp only [cond_true,o1,m1]
  refine ⟨rfl,B1v (by simp;omega) fun y hy=>?_,o5,o6⟩
  rcases List.mem_append.1 hy with hy | hy
  ·exact hsm y hy
  ·simp at hy;subst hy;exact ⟨by simp only;omega,by simp only;omega⟩
 | false =>
 cases c1:(t.1==1) with
 | true =>
  obtain ⟨d1,d2,d3,d4,d5⟩:=D7 b5 5 t.2.2.2
  simp only [cond_true,cond_false,d1,hidx]
  exact ⟨rfl,hset _ h0.1 h0.2,d4,d5⟩
 | false =>
 cases c2:(t.1==2) with
 | true =>
  obtain ⟨d1,d2,d3,d4⟩:=D33 b5 t.2.2.2
  simp only [cond_true,cond_false,d1,hidx]
  exact ⟨rfl,hset _ (by simp only;omega) h0.2,d3,d4⟩
 | false =>
 cases c3:(t.1==3) with
 | true =>
  obtain ⟨d1,d2,d3,d4,d5⟩:=D7 b5 2 t.2.2.2
  have d3:=d3 (by omega)
  have w:wI (20+(A3 2 b t.2.2.1 t.2.2.2).1)=20+(A3 2 b t.2.2.1 t.2.2.2).1:=I5 (by omega) (by omega)
  simp only [cond_true,cond_false,d1,hidx,w,Bool.true_and,Bool.and_true]
  refine ⟨decide_eq_true ⟨by omega,trivial,by simp only [MAXB];omega,by omega⟩,hset _ h0.1 ?_,d4,d5⟩
  have:(F1w (List.replicate (20+(A3 2 b t.2.2.1 t.2.2.2).1).toNat (0:Int))).size≤1048576:=by rw [E5M,List.length_replicate];omega
  exact this
 | false =>
 cases c4:(t.1==4) with
 | true =>
  simp only [cond_true,cond_false,hidx2]
  exact ⟨trivial,B1v (by simp) fun y hy=>by simp at hy,trivial,b5⟩
 | false =>
  simp only [cond_false]
  exact ⟨trivial,B1v (by omega) hsm,trivial,b5⟩
theorem E1Z {b:List Int} {i:Int} (hc:cOk b i) (h:Int):B5f b i h=true∧L1 (C3Y b i h).2.2.1=true∧(C3Y b i h).2.2.2.1=b∧cOk b (C3Y b i h).2.2.2.2.1∧(C3Y b i h).2.1 ≠ 999999:=by
 obtain ⟨a1,a2,a3,a4,a5⟩:=E29 hc h
 have a6:(A9L b i h).2.1 ≠ 999999:=by omega
 obtain ⟨b1,b2,b3,b4,b5⟩:=D7 a4 8 (A9L b i h).2.2.2.2.2
 have k1:P4 b i h=A3 8 b (A9L b i h).2.2.2.2.1 (A9L b i h).2.2.2.2.2:=by simp only [P4,a3]
 rw [← k1] at b4 b5
 obtain ⟨c1,c2,c3,c4,c5⟩:=D7 b5 5 (P4 b i h).2.2.2
 have k2:C4h b i h=A3 5 b (P4 b i h).2.2.1 (P4 b i h).2.2.2:=by simp only [C4h,b4]
 rw [← k2] at c4 c5
 obtain ⟨d1,d2,d3,d4⟩:=A0A b5 (P4 b i h).2.2.2 (l:=[(0:Int),(1000000:Int),(1000001:Int)]) (by simp)
 have k3:B72 b i h=H7 b (P4 b i h).2.2.1 (P4 b i h).2.2.2 [(0:Int),(1000000:Int),(1000001:Int)]:=by simp only [B72,b4]
 rw [← k3] at d2 d3 d4
 have d5:(B72 b i h).1 ≠ 999999:=by
  simp only [List.mem_cons,List.not_mem_nil,or_false] at d2
  omega
 obtain ⟨e1,e2,e3,e4⟩:=E2T b5 (P4 b i h).2.2.2
 have k4:C4i b i h=C6d b (P4 b i h).2.2.1 (P4 b i h).2.2.2:=by simp only [C4i,b4]
 rw [← k4] at e2 e3 e4
 simp only [B5f,C3Y,a1,a3,b1,b4,c1,d1,e1,Bool.true_and]
 cases ((P4 b i h).1==0) with
 | true=>exact ⟨rfl,a2,c4,c5,a6⟩
 | false =>
  cases ((P4 b i h).1==1) with
  | true=>exact ⟨rfl,a2,d3,d4,d5⟩
  | false =>
   cases ((P4 b i h).1==2) with
   | true=>exact ⟨rfl,e2,e3,e4,a6⟩
   | false=>exact ⟨rfl,a2,rfl,b5,a6⟩
theorem F04 {x:D8} (D:DrawnS x) (id:Int):D9F (id,x.2.1,x.2.2.1,x.2.2.2.1,x.2.2.2.2):=⟨D.1,D.any.2.1,D.any.2.2.1,fun R=>⟨D.1,R,D.2.2⟩,D.any.2.2.2.2⟩
theorem E7S {x:D8} (D:DrawnS x) (n:Int):D9F (x.1,x.2.1,n,x.2.2.2.1,x.2.2.2.2):=⟨D.1,D.any.2.1,D.any.2.2.1,fun R=>⟨D.1,R,D.2.2⟩,D.any.2.2.2.2⟩
theorem E9d {x:D8} (D:DrawnS x) (p:A1B):D9F (x.1,x.2.1,x.2.2.1,x.2.2.2.1++[p],x.2.2.2.2):=by
 have I:=A8i D.1 D.2.1
 have:=I.hml
 refine ⟨D.1,by rw [List.length_append];simp;omega,D.any.2.2.1,fun R=>?_,D.any.2.2.2.2⟩
 have h1:=D.2.1.2.2.2
 have h2:A0D x.2.1 x.2.1.length=some (x.2.2.2.1++[p],x.2.2.2.2):=R.2.2.2
 rw [h1] at h2
 simp only [Option.some.injEq,Prod.mk.injEq] at h2
 have:=congrArg List.length h2.1
 simp at this
theorem E9n {x:D8} (D:DrawnS x) {r:H6} (hr:L1 r.2.2=true):D9F (x.1,x.2.1++[r],x.2.2.1,x.2.2.2.1,x.2.2.2.2):=by
 have hl:=D.2.1.2.2.1
 have hlen:(x.2.1++[r]).length=x.2.1.length+1:=by simp
 refine ⟨C3C D.1 (by omega) hr,D.any.2.1,D.any.2.2.1,fun R=>⟨C3C D.1 (by omega) hr,R,fun i hi m h hp=>?_⟩,by show (x.2.1++[r]).length≤_;omega,D.any.2.2.2.2.2⟩
 replace hi:i≤(x.2.1++[r]).length:=hi
 replace hp:A0D (x.2.1++[r]) i=some (m,h):=hp
 by_cases hle:i≤x.2.1.length
 ·rw [C89 _ _ i hle] at hp
  exact D.2.2 i hle m h hp
 ·obtain rfl:i=(x.2.1++[r]).length:=by omega
  have h2:A0D (x.2.1++[r]) (x.2.1++[r]).length=some (x.2.2.2.1,x.2.2.2.2):=R.2.2.2
  rw [h2] at hp
  cases hp
  have h3:(((x.2.1++[r]).length:Nat):Int)+(x.2.2.2.2.length:Int)≤300:=R.2.2.1
  exact ⟨(D.2.2 x.2.1.length (Nat.le_refl _) _ _ D.2.1.2.2.2).1,by omega⟩
theorem E0X {b:List Int} {i:Int} (hc:cOk b i) (h:Int) (most:Int) (hm:most≤1000):B45 most b i h=true∧∃ (x:D8) (i' h' c1 c2:Int),F4V x∧cOk b i' ∧
  D24 most b i h=(x.1,x.2.2.1,b,i', h', c1,c2,x.2.1,x.2.2.2.1,x.2.2.2.2):=by
 obtain ⟨d1,x,⟨D,hsix⟩,_,i1,h1,d2,d3⟩:=D84 hc h most hm
 have hne:∀ r∈x.2.1,r.2.1 ≠ 999999:=fun r hr=>by have:=(hsix r hr).1;omega
 have hl:=D.2.1.2.2.1
 have hml:=(A8i D.1 D.2.1).hml
 obtain ⟨b1,b2,b3,b4,b5⟩:=D7 d3 12 h1
 have k1:O8 most b i h=A3 12 b i1 h1:=by simp only [O8,d2]
 rw [← k1] at b4 b5
 obtain ⟨e1,e2,e3,e4⟩:=A0A b5 (O8 most b i h).2.2.2 (l:=[(-1:Int),(7:Int),(8:Int)]) (by simp)
 have k2:B8o most b i h=H7 b (O8 most b i h).2.2.1 (O8 most b i h).2.2.2 [(-1:Int),(7:Int),(8:Int)]:=by simp only [B8o,b4]
 rw [← k2] at e3 e4
 obtain ⟨f1,f2,f3,f4⟩:=A0A b5 (O8 most b i h).2.2.2 (l:=[(-1:Int),(x.2.1.length:Int),wI ((x.2.1.length:Int)+(1:Int))]) (by simp)
 have k3:B70 most b i h=H7 b (O8 most b i h).2.2.1 (O8 most b i h).2.2.2 [(-1:Int),(x.2.1.length:Int),wI ((x.2.1.length:Int)+(1:Int))]:=by simp only [B70,b4,d2]
 rw [← k3] at f3 f4
 obtain ⟨g1,g2,g3,g4,g5⟩:=E1Z b5 (O8 most b i h).2.2.2
 have k4:A0Y most b i h=C3Y b (O8 most b i h).2.2.1 (O8 most b i h).2.2.2:=by simp only [A0Y,b4]
 rw [← k4] at g2 g3 g4 g5
 have m1:decide ((x.2.2.2.1.length+[((⟨#[122,122,122]⟩:ByteArray),(⟨#[]⟩:ByteArray))].length)*32≤MAXB)=true:=decide_eq_true (by simp only [List.length_singleton,MAXB];omega)
 have m2:decide ((x.2.1.length+[((A0Y most b i h).1,((A0Y most b i h).2.1,(A0Y most b i h).2.2.1))].length)*40≤MAXB)=true:=decide_eq_true (by simp only [List.length_singleton,MAXB];omega)
 simp only [B45,D24,d1,d2,b1,b4,e1,f1,g1,m1,m2,Bool.true_and,Bool.and_true]
 cases ((O8 most b i h).1==0) with
 | true=>exact ⟨rfl,(((B8o most b i h).1,x.2.1,x.2.2.1,x.2.2.2.1,x.2.2.2.2):D8),_,_,_,_,⟨F04 D _,hne⟩,e4,by simp only [cond_true,e3];rfl⟩
 | false =>
  cases ((O8 most b i h).1==1) with
  | true=>exact ⟨rfl,((x.1,x.2.1,(B70 most b i h).1,x.2.2.2.1,x.2.2.2.2):D8),_,_,_,_,⟨E7S D _,hne⟩,f4,by simp only [cond_true,cond_false,f3];rfl⟩
  | false =>
   cases ((O8 most b i h).1==2) with
   | true=>exact ⟨rfl,((x.1,x.2.1,x.2.2.1,x.2.2.2.1++[((⟨#[122,122,122]⟩:ByteArray),(⟨#[]⟩:ByteArray))],x.2.2.2.2):D8),_,_,_,_,⟨E9d D _,hne⟩,b5,by simp only [cond_true,cond_false];rfl⟩
   | false =>
    cases ((O8 most b i h).1==3) with
    | true=>exact ⟨rfl,((x.1,x.2.1++[((A0Y most b i h).1,((A0Y most b i h).2.1,(A0Y most b i h).2.2.1))],x.2.2.1,x.2.2.2.1,x.2.2.2.2):D8),_,_,_,_,⟨E9n D (r:=((A0Y most b i h).1,((A0Y most b i h).2.1,(A0Y most b i h).2.2.1))) g2,fun r hr=>by
     rcases List.mem_append.1 hr with hr | hr
     ·exact hne r hr
     ·rw [List.mem_singleton.1 hr];exact g5⟩,g4,by simp only [cond_true,cond_false,g3];rfl⟩
    | false=>exact ⟨rfl,x,_,_,_,_,⟨D.any,hne⟩,b5,by simp only [cond_false];rfl⟩
structure DC (m n life next:Int) (jobs:List X1) (log:LIbe) (sure:Int):Prop where
 cr:CR n life next jobs log sure
 m0:0≤m
 lm:life+m≤900
 jm:∀ j∈jobs,L1 j.2.1=true∧(j.2.2.2.length:Int)+m≤1048576
theorem F00 {n:Int} (h1:1≤n) (h2:n≤8):CR n 1 0 [] [] 0 :=
 ⟨⟨h1,h2⟩,⟨by omega,by omega⟩,⟨by omega,by omega⟩,by simp,⟨by omega,by simp⟩,fun i hi=>by simp at hi,fun i hi=>by simp at hi,fun i hi=>by simp at hi⟩
theorem A3i {α:Type} (l:List α) (x d:α) (i:Nat):(l++[x]).getD i d=if i<l.length then l.getD i d else if i=l.length then x else d:=by
 simp only [List.getD_eq_getElem?_getD]
 split
 ·rename_i h;rw [List.getElem?_append_left h]
 ·split
  ·rename_i h;subst h;simp
  ·rename_i h1 h2;rw [List.getElem?_eq_none (by simp;omega)];rfl
theorem E8S (L:List Int):C6E L []=(1,false):=rfl
theorem D7B {log:LIbe} {t:Int} (h:∀ i,i<log.length→(log.getD i dCh).1 ≠ t):A2E log t=-1:=by
 rcases V7 (fun i=>cond ((log.getD i dCh).1==t) (some ((0:Nat),(i:Int))) none) (1,0) log.length 0 with ⟨j,a,_,h2,h3,_,h5⟩ | ⟨_,h5⟩
 ·cases hc:((log.getD j dCh).1==t) with
  | true=>exact absurd (beq_iff_eq.1 hc) (h j (by omega))
  | false=>simp only [hc,cond_false] at h3;cases h3
 ·have h6:chP log t=(1,0):=h5
  simp only [A2E,h6];rfl
theorem E7A {n life next:Int} {jobs:List X1} {log:LIbe} {sure:Int} (D:CR n life next jobs log sure) {ops:Lq2} (ho:Z7 ops=true) (hx:next ≠ 999) :
  CR n life (next+1) (jobs++[(life*1000+next,(ops,((1:Int),[])))]) log sure:=by
 have hch:∀ i,i<log.length→(log.getD i dCh).1 ≠ life*1000+next:=fun i hi=>by have:=(D.tx i hi).2.1;omega
 refine ⟨D.n1,D.l1,⟨by have:=D.x1;omega,by have:=D.x1;omega⟩,D.lg,D.s1,fun i hi=>?_,fun i hi=>?_,fun i hi=>?_⟩
 ·obtain ⟨h1,h2,h3⟩:=D.tx i hi;exact ⟨h1,by omega,h3⟩
 ·rw [A3i]
  split
  ·rename_i h
   obtain ⟨h1,h2,h3,h4,h5⟩:=D.jb i h
   exact ⟨h1,by omega,h3,h4,h5⟩
  ·rw [if_pos (by simp at hi;omega)]
   refine ⟨by have:=D.x1;simp only;omega,by simp only;omega,ho,E8S _,?_⟩
   simp only [D7B hch]
   rfl
 ·simp only [List.length_append,List.length_singleton] at hi
  rw [A3i,A3i,if_pos (by omega)]
  split
  ·rename_i h;exact D.jo i h
  ·rw [if_pos (by omega)]
   have:=(D.jb i (by omega)).hi
   simp only;omega
theorem D9E {l:Lq2} (ho:L1 l=true) (k n:Int):A8p l k n=true∧B3f l k n=l.filter (fun o=>shO n o==k):=by
 have hl:=L4 ho
 have key:A8T l k n 0 []=(0,l.filter (fun o=>shO n o==k)):=by
  refine A0n (fun v:B1n=>∃ i:Nat,v=(l,k,n,(i:Int),(l.take i).filter (fun o=>shO n o==k))∧i≤l.length) (fun a:A8h=>a=(0,l.filter (fun o=>shO n o==k))) (fun v=>l.length - v.2.2.2.1.toNat) ?_ ⟨0,by simp,Nat.zero_le _⟩ (by simp;omega)
  rintro v ⟨i,rfl,hi⟩
  by_cases hlt:i<l.length
  ·have e1:decide ((i:Int)<(l.length:Int))=true:=decide_eq_true (by omega)
   have e2:decide (0≤(i:Int)∧(i:Int)<(l.length:Int))=true:=decide_eq_true (by omega)
   have hf:((l.take i).filter (fun o=>shO n o==k)).length≤i:=Nat.le_trans (List.length_filter_le _ _) (by rw [List.length_take];omega)
   have hm:∀ x:Int×ByteArray×ByteArray,decide ((((l.take i).filter (fun o=>shO n o==k)).length+[x].length)*40≤MAXB)=true:=fun x=>decide_eq_true (by simp only [List.length_singleton,MAXB];omega)
   have hk:=D0c ho (I7 hlt dOp)
   obtain ⟨_,hq,he,_⟩:=B9z hk n
   have hd:((0:Int),((⟨#[]⟩:ByteArray),(⟨#[]⟩:ByteArray)))=dOp:=rfl
   have hsh:B4a (l.getD i dOp).2.1 n=shO n (l.getD i dOp):=he.symm
   simp only [B3s,hd,e1,e2,cond_true,Int.toNat_natCast,hq,hm,B9o,K6 i (by omega),hsh]
   left
   cases hc:(shO n (l.getD i dOp)==k) with
   | true =>
    refine ⟨_,rfl,⟨i+1,?_,by omega⟩,by simp only [Int.toNat_natCast];omega⟩
    rw [D5 hlt dOp,List.filter_append,List.filter_cons,hc]
    rfl
   | false =>
    refine ⟨_,rfl,⟨i+1,?_,by omega⟩,by simp only [Int.toNat_natCast];omega⟩
    rw [D5 hlt dOp,List.filter_append,List.filter_cons,hc]
    simp
  ·obtain rfl:i=l.length:=by omega
   have e1:decide ((l.length:Int)<(l.length:Int))=false:=decide_eq_false (by omega)
   simp only [B3s,e1,cond_false]
   exact .inr ⟨_,rfl,by rw [List.take_length]⟩
 simp only [A8p,B3f,key]
 exact ⟨rfl,trivial⟩
theorem E7p (a0 a1 a2:Int) (a3:List X1) (a4:LIbe) (a5 b0:Int) {b1:Lq2} (b2:Int) {b3:List Int} (ho:L1 b1=true) (hy:b3.length≤1048576):A5D a0 a1 a2 a3 a4 a5 b0 b1 b2 b3=true:=by
 obtain ⟨s1,_,_,s4⟩:=B0U ho a0
 have key:(B5x (E4 b1 a0) 0 a0 a1 a2 a3 a4 a5 b0 b1 b2 b3 []).1=0:=by
  refine A0n (fun v:A6M=>∃ (i:Nat) (h:F4H),v=(E4 b1 a0,(i:Int),h)∧i≤(E4 b1 a0).length∧h.length≤i) (fun a:A4r=>a.1=0) (fun v=>(E4 b1 a0).length - v.2.1.toNat) ?_ ⟨0,[],rfl,Nat.zero_le _,by simp⟩ (by simp;omega)
  rintro v ⟨i,h,rfl,hi,hh⟩
  by_cases hlt:i<(E4 b1 a0).length
  ·have e1:decide ((i:Int)<(((E4 b1 a0).length:Nat):Int))=true:=decide_eq_true (by omega)
   have e2:decide (0≤(i:Int)∧(i:Int)<(((E4 b1 a0).length:Nat):Int))=true:=decide_eq_true (by omega)
   obtain ⟨q1,q2⟩:=B4l hy ((E4 b1 a0).getD i 0)
   obtain ⟨q3,q4⟩:=D9E ho ((E4 b1 a0).getD i 0) a0
   have e3:∀ x:Int×Int×Int×Lq2×Bool,decide ((h.length+[x].length)*56≤MAXB)=true:=fun x=>decide_eq_true (by simp only [List.length_singleton,MAXB];omega)
   simp only [A9K,e1,e2,q1,q2,q3,e3,cond_true,Int.toNat_natCast,K6 i (by omega)]
   cases decide ((E4 b1 a0).getD i 0∈b3) with
   | true=>exact .inl ⟨_,rfl,⟨i+1,_,rfl,by omega,by omega⟩,by simp only [Int.toNat_natCast];omega⟩
   | false=>exact .inl ⟨_,rfl,⟨i+1,_,rfl,by omega,by simp;omega⟩,by simp only [Int.toNat_natCast];omega⟩
  ·have e1:decide ((i:Int)<(((E4 b1 a0).length:Nat):Int))=false:=decide_eq_false (by omega)
   simp only [A9K,e1,cond_false]
   exact .inr ⟨_,rfl,rfl⟩
 simp only [A5D,B3d,s1,key]
 rfl
theorem CR.jlo {n life next:Int} {jobs:List X1} {log:LIbe} {sure:Int} (D:CR n life next jobs log sure):∀ i:Nat,i<jobs.length→life*1000+(i:Int)≤(jobs.getD i D6).1:=by
 intro i
 induction i with
 | zero=>intro h;have:=(D.jb 0 h).lo;omega
 | succ i ih=>intro h;have:=ih (by omega);have:=D.jo i h;omega
theorem CR.jlen {n life next:Int} {jobs:List X1} {log:LIbe} {sure:Int} (D:CR n life next jobs log sure):(jobs.length:Int)≤next:=by
 cases h:jobs.length with
 | zero=>have:=D.x1;omega
 | succ k =>
  have h1:=D.jlo k (by omega)
  have h2:=(D.jb k (by omega)).hi
  omega
theorem DC.few {m n life next:Int} {jobs:List X1} {log:LIbe} {sure:Int} (D:DC m n life next jobs log sure):jobs.length≤999:=by
 have:=CR.jlen D.cr;have:=D.cr.x1;omega
theorem E0M {m n life next:Int} {jobs:List X1} {log:LIbe} {sure:Int} (D:DC m n life next jobs log sure) {ops:Lq2} (ho:L1 ops=true) :
  A0M n life next sure ops jobs log=true∧∃ (next':Int) (jobs':List X1),(A2a n life next sure ops jobs log).2.2=(n,life,next', sure,ops,jobs', log)∧DC m n life next' jobs' log sure:=by
 have hsame:(A2a n life next sure ops jobs log).2.2=(n,life,next,sure,ops,jobs,log)→∃ (next':Int) (jobs':List X1),(A2a n life next sure ops jobs log).2.2=(n,life,next', sure,ops,jobs', log)∧DC m n life next' jobs' log sure:=fun h=>⟨next,jobs,h,D⟩
 have qo:A2r ops=true:=by simp only [A2r];exact ho
 cases h1:Z7 ops with
 | false=>exact ⟨by simp only [A0M,qo,h1];rfl,hsame (by simp only [A2a,h1];rfl)⟩
 | true =>
  by_cases h2:next=999
  ·have e:(next==999)=true:=by simpa using h2
   exact ⟨by simp only [A0M,qo,h1,e];rfl,hsame (by simp only [A2a,h1,e];rfl)⟩
  have e2:(next==999)=false:=by simpa using h2
  by_cases h3:(log.length:Int) ≥ 1000
  ·have e:decide ((log.length:Int) ≥ 1000)=true:=decide_eq_true h3
   exact ⟨by simp only [A0M,qo,h1,e2,e];rfl,hsame (by simp only [A2a,h1,e2,e];rfl)⟩
  have e3:decide ((log.length:Int) ≥ 1000)=false:=decide_eq_false h3
  obtain ⟨w1,w2,_⟩:=txw D.cr.l1 D.cr.x1
  rw [w1] at w2
  have ec:M5 ops=ops:=by simp [M5]
  have qc:N8 ops=true:=by
   have:=L4 ho
   exact decide_eq_true (by simp only [List.length_nil,MAXB];omega)
  have w3:wI (next+1)=next+1:=by have:=D.cr.x1;exact I5 (by omega) (by omega)
  have hlen:=D.few
  have qd:∀ x:X1,decide ((jobs.length+[x].length)*64≤MAXB)=true:=fun x=>decide_eq_true (by simp only [List.length_singleton,MAXB];omega)
  refine ⟨?_,next+1,jobs++[(life*1000+next,(ops,((1:Int),[])))],?_,⟨E7A D.cr h1 h2,D.m0,D.lm,fun j hj=>?_⟩⟩
  ·simp only [A0M,qo,h1,e2,e3,ec,qc,w1,w2,w3,qd,Bool.not_true,cond_false,Bool.true_and]
   exact E7p _ _ _ _ _ _ _ _ ho (by simp)
  ·simp only [A2a,h1,e2,e3,ec,w1,w2,w3,Bool.not_true,cond_false]
  ·rcases List.mem_append.1 hj with hj | hj
   ·exact D.jm j hj
   ·rw [List.mem_singleton.1 hj]
    exact ⟨ho,by have:=D.lm;have:=D.cr.l1;simp only [List.length_nil];omega⟩
theorem E5b {l:Lq2} (h:Z7 l=true):1≤l.length:=by
 simp only [Z7] at h
 cases h5:B1x (C7g l) (l.length - (0:Int).toNat) (0:Int).toNat with
 | false=>rw [h5] at h;simp at h
 | true =>
  rw [h5] at h
  simp only [cond_true,C0] at h
  cases h6:decide ((l.length:Int) ≥ 1) with
  | false=>simp [h6] at h
  | true=>have:=of_decide_eq_true h6;omega
noncomputable def jbP (jobs:List X1) (tx:Int):Nat×Int:=A45 (fun i=>cond ((jobs.getD i D6).1==tx) (some (0,(i:Int))) none) (1,0) jobs.length 0
noncomputable def E8t (jobs:List X1) (tx:Int):Int:=cond ((jbP jobs tx).1==0) (jbP jobs tx).2 (-1)
theorem F2T (jobs:List X1) (tx:Int):(cond ((jbP jobs tx).1==0) true ((jbP jobs tx).1==1))=true:=by
 rcases V7 (fun i=>cond ((jobs.getD i D6).1==tx) (some ((0:Nat),(i:Int))) none) (1,0) jobs.length 0 with ⟨j,a,_,h2,h3,h4,h5⟩ | ⟨h4,h5⟩
 ·have h6:jbP jobs tx=a:=h5
  cases hc:((jobs.getD j D6).1==tx) with
  | true=>simp only [hc,cond_true,Option.some.injEq] at h3;rw [h6,← h3];rfl
  | false=>simp only [hc,cond_false] at h3;cases h3
 ·have h6:jbP jobs tx=(1,0):=h5
  rw [h6];rfl
theorem E57 (a0 a1 a2:Int) {a3:List X1} (a4:LIbe) (a5:Int) (hl:a3.length≤1048576) (tx:Int):A4Y a0 a1 a2 a3 a4 a5 tx=true∧A8a a0 a1 a2 a3 a4 a5 tx=E8t a3 tx:=by
 have hdj:((0:Int),(([]:Lq2),((0:Int),([]:List Int))))=D6:=rfl
 have e:A5I tx 0 a0 a1 a2 a3 a4 a5=jbP a3 tx:=by
  refine A23 (fun i=>(tx,(i:Int))) a3.length _ _ (by omega) (fun i hi=>?_) ?_
  ·have e1:decide ((i:Int)<(a3.length:Int))=true:=decide_eq_true (by omega)
   have e2:decide (0≤(i:Int)∧(i:Int)<(a3.length:Int))=true:=decide_eq_true (by omega)
   simp only [A8S,e1,e2,cond_true,Int.toNat_natCast,K6 i (by omega),hdj]
   cases ((a3.getD i D6).1==tx)<;>rfl
  ·have e1:decide ((a3.length:Int)<(a3.length:Int))=false:=decide_eq_false (by omega)
   simp only [A8S,e1,cond_false]
 simp only [A4Y,A8a,e]
 exact ⟨F2T a3 tx,rfl⟩
theorem E5O (jobs:List X1) (tx:Int):(E8t jobs tx=-1∧∀ i,i<jobs.length→(jobs.getD i D6).1 ≠ tx)∨∃ i:Nat,i<jobs.length∧E8t jobs tx=(i:Int)∧(jobs.getD i D6).1=tx:=by
 rcases V7 (fun i=>cond ((jobs.getD i D6).1==tx) (some ((0:Nat),(i:Int))) none) (1,0) jobs.length 0 with ⟨j,a,_,h2,h3,h4,h5⟩ | ⟨h4,h5⟩
 ·cases hc:((jobs.getD j D6).1==tx) with
  | true =>
   simp only [hc,cond_true,Option.some.injEq] at h3
   have h6:jbP jobs tx=a:=h5
   rw [← h3] at h6
   refine .inr ⟨j,by omega,?_,beq_iff_eq.1 hc⟩
   simp only [E8t,h6];rfl
  | false=>simp only [hc,cond_false] at h3;cases h3
 ·left
  have h6:jbP jobs tx=(1,0):=h5
  refine ⟨by simp only [E8t,h6];rfl,fun i hi e=>?_⟩
  have:=h4 i (Nat.zero_le _) (by omega)
  simp only [e,beq_self_eq_true,cond_true] at this
  cases this
theorem E0Z {L ys:List Int}:C6E L ys=(1,false)↔(∀ y∈ys,y∈L)∧ys.Pairwise (·<·):=by
 have key:C6E L ys=(1,false)↔∀ i,i<ys.length→D6S L ys i=none:=by
  rcases V7 (D6S L ys) (1,false) ys.length 0 with ⟨j,a,_,h2,h3,_,h5⟩ | ⟨h4,h5⟩
  ·have h6:C6E L ys=a:=h5
   constructor
   ·intro h
    exfalso
    rw [h6] at h
    rw [h] at h3
    simp only [D6S] at h3
    revert h3
    cases (!decide (ys.getD j 0∈L))<;>cases decide ((j:Int) > 0)<;>cases decide (ys.getD (j - 1) 0 ≥ ys.getD j 0)<;>simp
   ·intro h
    rw [h j (by omega)] at h3;cases h3
  ·have h6:C6E L ys=(1,false):=h5
   exact ⟨fun _ i hi=>h4 i (Nat.zero_le _) (by omega),fun _=>h6⟩
 have one:∀ i,i<ys.length→(D6S L ys i=none↔ys.getD i 0∈L∧(i=0∨ys.getD (i - 1) 0<ys.getD i 0)):=by
  intro i hi
  simp only [D6S]
  by_cases h1:ys.getD i 0∈L
  ·rw [decide_eq_true h1]
   simp only [Bool.not_true,cond_false]
   by_cases h2:(i:Int) > 0
   ·rw [decide_eq_true h2]
    simp only [cond_true]
    by_cases h3:ys.getD (i - 1) 0 ≥ ys.getD i 0
    ·rw [decide_eq_true h3];simp only [cond_true,reduceCtorEq,false_iff];rintro ⟨_,h | h⟩<;>omega
    ·rw [decide_eq_false h3];simp only [cond_false,true_iff];exact ⟨h1,.inr (by omega)⟩
   ·rw [decide_eq_false h2];simp only [cond_false,true_iff];exact ⟨h1,.inl (by omega)⟩
  ·rw [decide_eq_false h1];simp only [Bool.not_false,cond_true,reduceCtorEq,false_iff];exact fun h=>h1 h.1
 rw [key]
 constructor
 ·intro h
  refine ⟨fun y hy=>?_,?_⟩
  ·obtain ⟨i,hi,e⟩:=List.getElem_of_mem hy
   have:=((one i hi).1 (h i hi)).1
   rwa [List.getD_eq_getElem?_getD,List.getElem?_eq_getElem hi,Option.getD_some,e] at this
  ·rw [List.pairwise_iff_getElem]
   intro i j hi hj hij
   have step:∀ k:Nat,∀ i:Nat,i<k→k<ys.length→ys.getD i 0<ys.getD k 0:=by
    intro k
    induction k with
    | zero=>intro i h;omega
    | succ k ih =>
     intro i hik hk
     have h1:ys.getD k 0<ys.getD (k+1) 0:=by
      rcases ((one (k+1) hk).1 (h (k+1) hk)).2 with h | h
      ·omega
      ·exact h
     by_cases e:i=k
     ·rw [e];exact h1
     ·have:=ih i (by omega) (by omega);omega
   have:=step j i hij hj
   simpa [List.getD_eq_getElem?_getD,hi,hj] using this
 ·rintro ⟨h1,h2⟩ i hi
  refine (one i hi).2 ⟨h1 _ (I7 hi 0),?_⟩
  cases i with
  | zero=>exact .inl rfl
  | succ i =>
   right
   rw [List.pairwise_iff_getElem] at h2
   have:=h2 i (i+1) (by omega) hi (by omega)
   simpa [List.getD_eq_getElem?_getD,hi,show i<ys.length by omega] using this
theorem E2E {log:LIbe} {t:Int} (h:A2E log t<0):∀ i,i<log.length→(log.getD i dCh).1 ≠ t:=by
 intro i hi e
 rcases V7 (fun i=>cond ((log.getD i dCh).1==t) (some ((0:Nat),(i:Int))) none) (1,0) log.length 0 with ⟨j,a,_,h2,h3,_,h5⟩ | ⟨h4,h5⟩
 ·cases hc:((log.getD j dCh).1==t) with
  | true =>
   simp only [hc,cond_true,Option.some.injEq] at h3
   have:chP log t=a:=h5
   rw [← h3] at this
   simp only [A2E,this] at h
   have h':(j:Int)<0:=h
   omega
  | false=>simp only [hc,cond_false] at h3;cases h3
 ·have:=h4 i (Nat.zero_le _) (by omega)
  simp only [e,beq_self_eq_true,cond_true] at this
  cases this
theorem C9H {log:LIbe} {t:Int} {i:Nat} (hi:i<log.length) (e:(log.getD i dCh).1=t) (h:∀ j,j<i→(log.getD j dCh).1 ≠ t):A2E log t=(i:Int):=by
 rcases V7 (fun i=>cond ((log.getD i dCh).1==t) (some ((0:Nat),(i:Int))) none) (1,0) log.length 0 with ⟨j,a,_,h2,h3,h4,h5⟩ | ⟨h4,_⟩
 ·cases hc:((log.getD j dCh).1==t) with
  | true =>
   simp only [hc,cond_true,Option.some.injEq] at h3
   have h6:chP log t=a:=h5
   rw [← h3] at h6
   have hij:j=i:=by
    rcases Nat.lt_trichotomy j i with hlt | heq | hgt
    ·exact absurd (beq_iff_eq.1 hc) (h j hlt)
    ·exact heq
    ·have:=h4 i (Nat.zero_le _) hgt
     simp only [e,beq_self_eq_true,cond_true] at this
     cases this
   simp only [A2E,h6]
   rw [hij];rfl
  | false=>simp only [hc,cond_false] at h3;cases h3
 ·have:=h4 i (Nat.zero_le _) (by omega)
  simp only [e,beq_self_eq_true,cond_true] at this
  cases this
theorem E7d {log:LIbe} {u:Int} (b:Bool) (h:A2E log u<0):A2E (log++[(u,b)]) u=(log.length:Int):=by
 have hn:=E2E h
 refine C9H (by simp) (by rw [A3i,if_neg (by omega),if_pos rfl]) fun j hj=>?_
 rw [A3i,if_pos hj];exact hn j hj
theorem D7o (log:LIbe) (t:Int):(A2E log t=-1∧∀ i,i<log.length→(log.getD i dCh).1 ≠ t)∨∃ i:Nat,i<log.length∧A2E log t=(i:Int)∧(log.getD i dCh).1=t∧∀ j,j<i→(log.getD j dCh).1 ≠ t:=by
 rcases V7 (fun i=>cond ((log.getD i dCh).1==t) (some ((0:Nat),(i:Int))) none) (1,0) log.length 0 with ⟨j,a,_,h2,h3,h4,h5⟩ | ⟨h4,h5⟩
 ·cases hc:((log.getD j dCh).1==t) with
  | true =>
   simp only [hc,cond_true,Option.some.injEq] at h3
   have h6:chP log t=a:=h5
   rw [← h3] at h6
   refine .inr ⟨j,by omega,?_,beq_iff_eq.1 hc,fun k hk e=>?_⟩
   ·simp only [A2E,h6];rfl
   ·have:=h4 k (Nat.zero_le _) hk
    simp only [e,beq_self_eq_true,cond_true] at this
    cases this
  | false=>simp only [hc,cond_false] at h3;cases h3
 ·left
  have h6:chP log t=(1,0):=h5
  refine ⟨by simp only [A2E,h6];rfl,fun i hi e=>?_⟩
  have:=h4 i (Nat.zero_le _) (by omega)
  simp only [e,beq_self_eq_true,cond_true] at this
  cases this
theorem D70 (log:LIbe) (u:Int) (b:Bool) (t:Int) (h:t ≠ u):A2E (log++[(u,b)]) t=A2E log t:=by
 rcases D7o log t with ⟨e,hn⟩ | ⟨i,hi,e,h1,h2⟩
 ·rw [e]
  refine D7B fun i hi=>?_
  rw [A3i]
  split
  ·rename_i h;exact hn i h
  ·split
   ·exact fun e=>h e.symm
   ·simp at hi;omega
 ·rw [e]
  refine C9H (by simp;omega) (by rw [A3i,if_pos hi];exact h1) fun j hj=>?_
  rw [A3i,if_pos (by omega)];exact h2 j hj
theorem C3u {α:Type} {l:List α} {i:Nat} (hi:i<l.length) (x d:α):(l.set i x).getD i d=x:=by
 simp [List.getD_eq_getElem?_getD,hi]
theorem B6z {α:Type} {l:List α} {i k:Nat} (h:k ≠ i) (x d:α):(l.set k x).getD i d=l.getD i d:=by
 simp [List.getD_eq_getElem?_getD,List.getElem?_set_ne h]
theorem E64 {log:LIbe} (x:Int×Bool) (st ch:Int) (h:ch<(log.length:Int)):D93 (log++[x]) st ch=D93 log st ch:=by
 by_cases h0:ch<0
 ·have e:decide (ch ≥ 0)=false:=decide_eq_false (by omega)
  simp only [D93,e]
  rfl
 ·have e:(log++[x]).getD ch.toNat dCh=log.getD ch.toNat dCh:=by rw [A3i,if_pos (by omega)]
  simp only [D93,e]
theorem CR.jlt {n life next:Int} {jobs:List X1} {log:LIbe} {sure:Int} (D:CR n life next jobs log sure):∀ k i:Nat,i<k→k<jobs.length→(jobs.getD i D6).1<(jobs.getD k D6).1:=by
 intro k
 induction k with
 | zero=>intro i h;omega
 | succ k ih =>
  intro i h hk
  have h1:=D.jo k hk
  by_cases e:i=k
  ·rw [e];exact h1
  ·have:=ih i (by omega) (by omega);omega
theorem D8c {n life next:Int} {jobs:List X1} {log:LIbe} {sure:Int} (D:CR n life next jobs log sure) {k:Nat} (hk:k<jobs.length) (hs:(jobs.getD k D6).2.2.1=1) (hl:log.length<1000) (b:Bool) (st:Int) (hst:st=cond b 2 3)
  {ys:List Int} (hy:C6E (E4 (jobs.getD k D6).2.1 n) ys=(1,false)) :
  CR n life next (jobs.set k ((jobs.getD k D6).1,((jobs.getD k D6).2.1,(st,ys)))) (log++[((jobs.getD k D6).1,b)]) sure:=by
 obtain ⟨k1,k2,k3,k4,k5⟩:=D.jb k hk
 have hneg:A2E log (jobs.getD k D6).1<0:=by
  rw [hs] at k5
  exact of_decide_eq_true k5
 have hne:=E2E hneg
 have hlast:=E7d b hneg
 refine ⟨D.n1,D.l1,D.x1,by simp;omega,⟨D.s1.1,by simp;have:=D.s1.2;omega⟩,fun i hi=>?_,fun i hi=>?_,fun i hi=>?_⟩
 ·rw [A3i]
  split
  ·rename_i h
   obtain ⟨h1,h2,h3⟩:=D.tx i h
   exact ⟨h1,h2,by rw [D70 _ _ _ _ (hne i h)];exact h3⟩
  ·rename_i h
   simp only [List.length_append,List.length_singleton] at hi
   rw [if_pos (by omega)]
   refine ⟨by have:=D.l1;simp only;omega,k2,?_⟩
   rw [hlast];omega
 ·simp only [List.length_set] at hi
  by_cases e:i=k
  ·subst e
   rw [C3u hi]
   refine ⟨k1,k2,k3,hy,?_⟩
   simp only [hlast]
   have e1:decide ((log.length:Int) ≥ 0)=true:=decide_eq_true (by omega)
   have e2:((log++[((jobs.getD i D6).1,b)]).getD (log.length:Int).toNat dCh).2=b:=by
    rw [Int.toNat_natCast,A3i,if_neg (by omega),if_pos rfl]
   simp only [D93,e1,e2,cond_true]
   subst hst
   cases b<;>rfl
  ·rw [B6z (fun h=>e h.symm)]
   obtain ⟨h1,h2,h3,h4,h5⟩:=D.jb i hi
   have hd:(jobs.getD i D6).1 ≠ (jobs.getD k D6).1:=by
    rcases Nat.lt_or_gt_of_ne e with h | h
    ·have:=D.jlt k i h hk;omega
    ·have:=D.jlt i k h hi;omega
   refine ⟨h1,h2,h3,h4,?_⟩
   rw [D70 _ _ _ _ hd,E64 _ _ _ (by rcases C6a log (jobs.getD i D6).1 with h | h<;>omega)]
   exact h5
 ·simp only [List.length_set] at hi
  have fst:∀ i:Nat,i<jobs.length→((jobs.set k ((jobs.getD k D6).1,((jobs.getD k D6).2.1,(st,ys)))).getD i D6).1=(jobs.getD i D6).1:=fun i hi=>by
   by_cases e:i=k
   ·subst e;rw [C3u hi]
   ·rw [B6z (fun h=>e h.symm)]
  rw [fst i (by omega),fst (i+1) hi]
  exact D.jo i hi
theorem F0X {n life next:Int} {jobs:List X1} {log:LIbe} {sure:Int} (D:CR n life next jobs log sure) {k:Nat} (hk:k<jobs.length) {ys:List Int} (hy:C6E (E4 (jobs.getD k D6).2.1 n) ys=(1,false)) :
  CR n life next (jobs.set k ((jobs.getD k D6).1,((jobs.getD k D6).2.1,((jobs.getD k D6).2.2.1,ys)))) log sure:=by
 refine ⟨D.n1,D.l1,D.x1,D.lg,D.s1,D.tx,fun i hi=>?_,fun i hi=>?_⟩
 ·simp only [List.length_set] at hi
  by_cases e:i=k
  ·subst e
   rw [C3u hi]
   obtain ⟨k1,k2,k3,k4,k5⟩:=D.jb i hi
   exact ⟨k1,k2,k3,hy,k5⟩
  ·rw [B6z (fun h=>e h.symm)];exact D.jb i hi
 ·simp only [List.length_set] at hi
  have fst:∀ i:Nat,i<jobs.length→((jobs.set k ((jobs.getD k D6).1,((jobs.getD k D6).2.1,((jobs.getD k D6).2.2.1,ys)))).getD i D6).1=(jobs.getD i D6).1:=fun i hi=>by
   by_cases e:i=k
   ·subst e;rw [C3u hi]
   ·rw [B6z (fun h=>e h.symm)]
  rw [fst i (by omega),fst (i+1) hi]
  exact D.jo i hi
theorem DC.less {m m' n life next:Int} {jobs:List X1} {log:LIbe} {sure:Int} (D:DC m n life next jobs log sure) (h0:0≤m') (h:m'≤m):DC m' n life next jobs log sure :=
 ⟨D.cr,h0,by have:=D.lm;omega,fun j hj=>⟨(D.jm j hj).1,by have:=(D.jm j hj).2;omega⟩⟩
theorem E5f {m n life next:Int} {jobs:List X1} {log:LIbe} {sure:Int} (D:DC m n life next jobs log sure) (h1m:1≤m) (shard tx:Int) (yes:Bool) :
  U5 shard tx yes n life next sure jobs log=true∧∃ (jobs':List X1) (log':LIbe),A3Y shard tx yes n life next sure jobs log=(n,life,next,sure,jobs', log')∧DC (m - 1) n life next jobs' log' sure:=by
 have hlen:=D.few
 have D1:=D.less (m':=m - 1) (by omega) (by omega)
 have hsame:A3Y shard tx yes n life next sure jobs log=(n,life,next,sure,jobs,log)→∃ (jobs':List X1) (log':LIbe),A3Y shard tx yes n life next sure jobs log=(n,life,next,sure,jobs', log')∧DC (m - 1) n life next jobs' log' sure:=fun h=>⟨jobs,log,h,D1⟩
 have hdj:((0:Int),(([]:Lq2),((0:Int),([]:List Int))))=D6:=rfl
 obtain ⟨q1,q2⟩:=E57 n life next (a3:=jobs) log sure (by omega) tx
 rcases E5O jobs tx with ⟨e,_⟩ | ⟨k,hk,e,hkt⟩
 ·have e0:decide ((-1:Int)<0)=true:=rfl
  exact ⟨by simp only [U5,q1,q2,e,e0];rfl,hsame (by simp only [A3Y,q2,e,e0];rfl)⟩
 have e0:decide ((k:Int)<0)=false:=decide_eq_false (by omega)
 have e1:decide (0≤(k:Int)∧(k:Int)<(jobs.length:Int))=true:=decide_eq_true (by omega)
 have et:((k:Nat):Int).toNat=k:=Int.toNat_natCast k
 obtain ⟨o1,o2⟩:=D.jm _ (I7 hk D6)
 obtain ⟨s1,s2,s3,s4⟩:=B0U o1 n
 obtain ⟨t1,t2⟩:=B4l s4 shard
 have hk1:B1p tx n life next sure jobs log=E4 (jobs.getD k D6).2.1 n:=by simp only [B1p,q2,e,et,hdj]
 by_cases hs:(jobs.getD k D6).2.2.1=1
 case neg =>
  have f1:((jobs.getD k D6).2.2.1 != 1)=true:=by simpa using hs
  exact ⟨by simp only [U5,q1,q2,e,e0,e1,et,hdj,f1];rfl,hsame (by simp only [A3Y,q2,e,e0,et,hdj,f1];rfl)⟩
 have f1:((jobs.getD k D6).2.2.1 != 1)=false:=by rw [hs];rfl
 by_cases hl:(log.length:Int) ≥ 1000
 ·have f2:decide ((log.length:Int) ≥ 1000)=true:=decide_eq_true hl
  exact ⟨by simp only [U5,q1,q2,e,e0,e1,et,hdj,f1,f2];rfl,hsame (by simp only [A3Y,q2,e,e0,et,hdj,f1,f2];rfl)⟩
 have f2:decide ((log.length:Int) ≥ 1000)=false:=decide_eq_false hl
 by_cases hm:shard∈E4 (jobs.getD k D6).2.1 n
 case neg =>
  have f3:decide (shard∈E4 (jobs.getD k D6).2.1 n)=false:=decide_eq_false hm
  exact ⟨by simp only [U5,q1,q2,e,e0,e1,et,hdj,f1,f2,hk1,s1,t1,t2,f3];rfl,hsame (by simp only [A3Y,q2,e,e0,et,hdj,f1,f2,hk1,t2,f3];rfl)⟩
 have f3:decide (shard∈E4 (jobs.getD k D6).2.1 n)=true:=decide_eq_true hm
 have q5:∀ x:Int×Bool,decide ((log.length+[x].length)*16≤MAXB)=true:=fun x=>decide_eq_true (by simp only [List.length_singleton,MAXB];omega)
 obtain ⟨y1,y2⟩:=E0Z.1 (D.cr.jb k hk).yes
 have ht:(jobs.getD k D6).1=tx:=hkt
 have okj:∀ (x:X1),(L1 x.2.1=true∧(x.2.2.2.length:Int)+(m - 1)≤1048576)→∀ j∈jobs.set k x,L1 j.2.1=true∧(j.2.2.2.length:Int)+(m - 1)≤1048576:=fun x hx j hj=>by
  rcases List.mem_or_eq_of_mem_set hj with hj | hj
  ·exact D1.jm j hj
  ·rw [hj];exact hx
 cases yes with
 | false =>
  refine ⟨by simp only [U5,q1,q2,e,e0,e1,et,hdj,f1,f2,hk1,s1,t1,t2,f3,q5];rfl,jobs.set k ((jobs.getD k D6).1,((jobs.getD k D6).2.1,(3,(jobs.getD k D6).2.2.2))),log++[(tx,false)],by simp only [A3Y,q2,e,e0,et,hdj,f1,f2,hk1,t2,f3,Bool.not_false,Bool.not_true,cond_true,cond_false],?_,D1.m0,D1.lm,okj _ ⟨o1,by simp only;omega⟩⟩
  have:=D8c D.cr hk hs (by omega) false 3 rfl (D.cr.jb k hk).yes
  rw [ht] at this ⊢
  exact this
 | true =>
  have hyl:(jobs.getD k D6).2.2.2.length≤1048575:=by omega
  obtain ⟨p1,p2,p3,p4⟩:=D5q (l:=(jobs.getD k D6).2.2.2) (by omega) y2 shard
  have hk2:B1k shard tx n life next sure jobs log=A0X (jobs.getD k D6).2.2.2 shard:=by simp only [B1k,q2,e,et,hdj]
  have hyes:C6E (E4 (jobs.getD k D6).2.1 n) (A0X (jobs.getD k D6).2.2.2 shard)=(1,false):=E0Z.2 ⟨fun y hy=>by
   rcases (p4 y).1 hy with h | h
   ·exact y1 y h
   ·rw [h];exact hm,p2⟩
  have hg:∀ x:X1,(jobs.set k x).getD k D6=x:=fun x=>C3u hk x D6
  cases h6:((((A0X (jobs.getD k D6).2.2.2 shard).length:Nat):Int)==(((E4 (jobs.getD k D6).2.1 n).length:Nat):Int)) with
  | true =>
   refine ⟨by simp only [U5,q1,q2,e,e0,e1,et,hdj,f1,f2,hk1,hk2,s1,t1,t2,f3,p1,hg,h6,q5];rfl,jobs.set k ((jobs.getD k D6).1,((jobs.getD k D6).2.1,(2,A0X (jobs.getD k D6).2.2.2 shard))),log++[(tx,true)],by simp only [A3Y,q2,e,e0,et,hdj,f1,f2,hk1,hk2,t2,f3,hg,h6,List.set_set,Bool.not_true,cond_true,cond_false],?_,D1.m0,D1.lm,okj _ ⟨o1,by simp only;omega⟩⟩
   have:=D8c D.cr hk hs (by omega) true 2 rfl hyes
   rw [ht] at this ⊢
   exact this
  | false =>
   exact ⟨by simp only [U5,q1,q2,e,e0,e1,et,hdj,f1,f2,hk1,hk2,s1,t1,t2,f3,p1,hg,h6];rfl,jobs.set k ((jobs.getD k D6).1,((jobs.getD k D6).2.1,((jobs.getD k D6).2.2.1,A0X (jobs.getD k D6).2.2.2 shard))),log,by simp only [A3Y,q2,e,e0,et,hdj,f1,f2,hk1,hk2,t2,f3,hg,h6,Bool.not_true,cond_true,cond_false],F0X D.cr hk hyes,D1.m0,D1.lm,okj _ ⟨o1,by simp only;omega⟩⟩
theorem E0k {m n life next:Int} {jobs:List X1} {log:LIbe} {sure:Int} (D:CR n life next jobs log sure) (keep:Int) :
  A0G keep n life next sure jobs log=true∧((life=900∧A4B keep n life next sure jobs log=(false,n,life,next,sure,jobs,log))∨∃ k:Nat,life ≠ 900∧sure≤k∧k≤log.length∧(keep≤0→(k:Int)=sure)∧((log.length:Int) - sure≤keep→k=log.length)∧(0≤keep→keep≤(log.length:Int) - sure→(k:Int)=sure+keep)∧A4B keep n life next sure jobs log=(true,n,life+1,0,(k:Int),[],log.take k)):=by
 by_cases h9:life=900
 ·have e:(life==900)=true:=by simpa using h9
  simp only [A0G,A4B,e,cond_true]
  exact ⟨trivial,.inl ⟨h9,trivial⟩⟩
 have e:(life==900)=false:=by simpa using h9
 obtain ⟨s0,s1⟩:=D.s1
 have hl:=D.lg
 have w0:wI ((log.length:Int) - sure)=(log.length:Int) - sure:=I5 (by omega) (by omega)
 have w1:wI (sure+((log.length:Int) - sure))=(log.length:Int):=by rw [I5 (by omega) (by omega)];omega
 have w2:wI (sure+0)=sure:=by rw [I5 (by omega) (by omega)];omega
 have w4:wI (life+1)=life+1:=by have:=D.l1;exact I5 (by omega) (by omega)
 by_cases hk:keep<0
 ·have e1:decide (keep<0)=true:=decide_eq_true hk
  have e2:decide ((0:Int) > (log.length:Int) - sure)=false:=decide_eq_false (by omega)
  simp only [A0G,A4B,e,e1,e2,w0,w2,w4,cond_true,cond_false]
  refine ⟨decide_eq_true ⟨by omega,s0,s1⟩,.inr ⟨sure.toNat,h9,by omega,by omega,fun _=>by omega,fun _=>by omega,fun _ _=>by omega,rfl⟩⟩
 have e1:decide (keep<0)=false:=decide_eq_false hk
 by_cases hk2:keep > (log.length:Int) - sure
 ·have e2:decide (keep > (log.length:Int) - sure)=true:=decide_eq_true hk2
  simp only [A0G,A4B,e,e1,e2,w0,w1,w4,cond_true,cond_false,Int.toNat_natCast]
  exact ⟨decide_eq_true ⟨by omega,by omega,by omega⟩,.inr ⟨log.length,h9,by omega,Nat.le_refl _,fun _=>by omega,fun _=>rfl,fun _ _=>by omega,rfl⟩⟩
 have e2:decide (keep > (log.length:Int) - sure)=false:=decide_eq_false hk2
 have w3:wI (sure+keep)=sure+keep:=I5 (by omega) (by omega)
 simp only [A0G,A4B,e,e1,e2,w0,w3,w4,cond_true,cond_false]
 exact ⟨decide_eq_true ⟨by omega,by omega,by omega⟩,.inr ⟨(sure+keep).toNat,h9,by omega,by omega,fun _=>by omega,fun _=>by omega,fun _ _=>by omega,rfl⟩⟩
theorem C91 {α:Type} (l:List α) (d:α) (m i:Nat):(l.take m).getD i d=if i<m then l.getD i d else d:=by
 simp only [List.getD_eq_getElem?_getD,List.getElem?_take]
 split<;>rfl
theorem E5U {log:LIbe} {m:Nat} {i:Nat} (hi:i<log.length) (hm:i<m) (h:A2E log (log.getD i dCh).1=(i:Int)):A2E (log.take m) (log.getD i dCh).1=(i:Int):=by
 rcases D7o log (log.getD i dCh).1 with ⟨e,_⟩ | ⟨k,hk,e,h1,h2⟩
 ·rw [e] at h;omega
 ·have:k=i:=by rw [e] at h;omega
  subst this
  refine C9H (by simp;omega) (by rw [C91,if_pos hm]) fun j hj=>?_
  rw [C91,if_pos (by omega)];exact h2 j hj
theorem E8v {n life next:Int} {jobs:List X1} {log:LIbe} {sure:Int} (D:CR n life next jobs log sure) (hl:life ≠ 900) (m:Nat):CR n (life+1) 0 [] (log.take m) (((log.take m).length:Nat):Int):=by
 refine ⟨D.n1,⟨by have:=D.l1;omega,by have:=D.l1;omega⟩,⟨by omega,by omega⟩,by have:=D.lg;simp;omega,⟨by omega,by omega⟩,fun i hi=>?_,fun i hi=>by simp at hi,fun i hi=>by simp at hi⟩
 simp only [List.length_take] at hi
 obtain ⟨h1,h2,h3⟩:=D.tx i (by omega)
 rw [C91,if_pos (by omega)]
 exact ⟨h1,by have:=D.x1;omega,E5U (by omega) (by omega) h3⟩
theorem D6b {b:List Int} {i:Int} (hc:cOk b i) (h:Int) (most:Int) (hm:most≤100):A7I most b i h=true∧∃ (n life next sure:Int) (jobs:List X1) (log:LIbe) (i' h':Int),
    DC 100 n life next jobs log sure∧life≤101∧B1S most b i h=(n,life,next,sure,b,i', h', n,life,next,sure,jobs,log)∧cOk b i':=by
  obtain ⟨a1,a2,a3,a4⟩:=A0A hc h (l:=[(3:Int),(2:Int),(1:Int)]) (by decide)
  obtain ⟨b1,b2,b3,b4,b5⟩:=D7 a4 most (H7 b i h [(3:Int),(2:Int),(1:Int)]).2.2.2.1
  have hn:C4a (H7 b i h [(3:Int),(2:Int),(1:Int)]).1=((H7 b i h [(3:Int),(2:Int),(1:Int)]).1,1,0,0,[],[]):=by
    have:C0 (H7 b i h [(3:Int),(2:Int),(1:Int)]).1 1 8=true:=by
      simp only [List.mem_cons,List.not_mem_nil,or_false] at a2
      exact A2p.2 (by omega)
    simp only [C4a,this]
    rfl
  have hn3:1≤(H7 b i h [(3:Int),(2:Int),(1:Int)]).1∧(H7 b i h [(3:Int),(2:Int),(1:Int)]).1≤8:=by
    simp only [List.mem_cons,List.not_mem_nil,or_false] at a2;omega
  have hdj:((0:Int),(([]:Lq2),((0:Int),([]:List Int))))=D6:=rfl
  have hmost:(A3 most b (H7 b i h [(3:Int),(2:Int),(1:Int)]).2.2.1 (H7 b i h [(3:Int),(2:Int),(1:Int)]).2.2.2.1).1≤100:=by
    by_cases hp:0<most
    · have:=b3 hp;omega
    · have e:decide (most≤0)=true:=decide_eq_true (by omega)
      simp only [A3,e,cond_true];omega
  have key:∃ (n life next sure:Int) (jobs:List X1) (log:LIbe) (i' h':Int),DC 100 n life next jobs log sure∧life≤101∧A58 most b i h=(0,b,i', h', n,life,next,sure,jobs,log)∧cOk b i':=by
    have e0:A58 most b i h=B6G (A3 most b (H7 b i h [(3:Int),(2:Int),(1:Int)]).2.2.1 (H7 b i h [(3:Int),(2:Int),(1:Int)]).2.2.2.1).1 b (A3 most b (H7 b i h [(3:Int),(2:Int),(1:Int)]).2.2.1 (H7 b i h [(3:Int),(2:Int),(1:Int)]).2.2.2.1).2.2.1 (A3 most b (H7 b i h [(3:Int),(2:Int),(1:Int)]).2.2.1 (H7 b i h [(3:Int),(2:Int),(1:Int)]).2.2.2.1).2.2.2 0 0 0 0 (H7 b i h [(3:Int),(2:Int),(1:Int)]).1 1 0 0 [] []:=by
      simp only [A58,D1M,hn,a3,b4]
    rw [e0]
    refine A0n (ss:=fun v:A1l=>A65 v.1 v.2.1 v.2.2.1 v.2.2.2.1 0 0 0 0 v.2.2.2.2.1 v.2.2.2.2.2.1 v.2.2.2.2.2.2.1 v.2.2.2.2.2.2.2.1 v.2.2.2.2.2.2.2.2.1 v.2.2.2.2.2.2.2.2.2) (fa:=A8)
      (fun v=>∃ (m i h n life next sure:Int) (jobs:List X1) (log:LIbe),v=(m,b,i,h,n,life,next,sure,jobs,log)∧0≤m∧m≤100∧life+m≤101∧cOk b i∧DC (m+100) n life next jobs log sure)
      (fun a:A0h=>∃ (n life next sure:Int) (jobs:List X1) (log:LIbe) (i' h':Int),DC 100 n life next jobs log sure∧life≤101∧a=(0,b,i', h', n,life,next,sure,jobs,log)∧cOk b i') (fun v=>v.1.toNat) ?_
      ⟨_,_,_,_,_,_,_,_,_,rfl,b2,hmost,by omega,b5,⟨F00 hn3.1 hn3.2,by omega,by omega,fun j hj=>by simp at hj⟩⟩ (by simp only;omega)
    rintro v ⟨m,i,h,n,life,next,sure,jobs,log,rfl,m0,m1,hlm,hc,D⟩
    by_cases hgt:m > 0
    · have e1:decide (m > (0:Int))=true:=decide_eq_true hgt
      have ew:=I5 (n:=m - 1) (by omega) (by omega)
      obtain ⟨d1,d2,d3,d4,d5⟩:=D7 hc 8 h
      generalize hr:A3 8 b i h=r at d2 d4 d5
      have go : ∀ (w : A1l) (i' h' n' life' next' sure' : Int) (jobs' : List X1) (log' : LIbe), w = (m - 1, b, i', h', n', life', next', sure', jobs', log') → life' + (m - 1) ≤ 101 → cOk b i' → DC (m - 1 + 100) n' life' next' jobs' log' sure' →
          ((∃ v', (Sum.inl w:A1l ⊕ A0h)=.inl v'∧(∃ (m i h n life next sure:Int) (jobs:List X1) (log:LIbe),v'=(m,b,i,h,n,life,next,sure,jobs,log)∧0≤m∧m≤100∧life+m≤101∧cOk b i∧DC (m+100) n life next jobs log sure)∧v'.1.toNat<m.toNat) ∨
            ∃ a:A0h,(Sum.inl w:A1l ⊕ A0h)=.inr a∧∃ (n life next sure:Int) (jobs:List X1) (log:LIbe) (i' h':Int),DC 100 n life next jobs log sure∧life≤101∧a=(0,b,i', h', n,life,next,sure,jobs,log)∧cOk b i'):=fun w i' h' n' life' next' sure' jobs' log' hw hl hc' D' =>
        .inl ⟨w,rfl,⟨m - 1,i', h', n', life', next', sure', jobs', log', hw,by omega,by omega,hl,hc', D'⟩,by rw [hw];simp only;omega⟩
      have Dm:=D.less (m':=m - 1+100) (by omega) (by omega)
      -- one begun
      obtain ⟨f1,f2,f3,f4,f5,f6⟩:=B3b d5 r.2.2.2
      have k2:A44 b i h=F0 b r.2.2.1 r.2.2.2:=by simp only [A44,hr,d4]
      rw [← k2] at f2 f3 f4 f5 f6
      have ho:=C2v f4 (by omega)
      obtain ⟨g1,next1,jobs1,g2,g3⟩:=E0M Dm ho
      have g4:(A2a n life next sure (A44 b i h).2.2.2 jobs log).2.2=(n,life,next1,sure,(A44 b i h).2.2.2,jobs1,log):=g2
      -- one that hears a vote
      have voted:∃ w i' h' jobs' log', (cond (decide ((jobs.length:Int) > (0:Int))) (cond (A5 (jobs.length:Int) b (r.2.2.1) (r.2.2.2)) (cond (decide (0≤((I9 b i h jobs).1)∧((I9 b i h jobs).1)<(jobs.length:Int))) (cond (O9 (((jobs.getD (((I9 b i h jobs).1).toNat) D6).2).1) n) (cond (A5 (((R7 b i h n jobs).length:Nat):Int) ((I9 b i h jobs).2.1) ((I9 b i h jobs).2.2.1) ((I9 b i h jobs).2.2.2)) (cond (decide (0≤((N1 b i h n jobs).1)∧((N1 b i h n jobs).1)<(((R7 b i h n jobs).length:Nat):Int))) (cond (O7 (5:Int) ((N1 b i h n jobs).2.1) ((N1 b i h n jobs).2.2.1) ((N1 b i h n jobs).2.2.2)) (cond (U5 ((R7 b i h n jobs).getD (((N1 b i h n jobs).1).toNat) (0:Int)) ((jobs.getD (((I9 b i h jobs).1).toNat) D6).1) (!((A0r b i h n jobs).1)) n life next sure jobs log) (.inl (m - 1,((A0r b i h n jobs).2.1),((A0r b i h n jobs).2.2.1),((A0r b i h n jobs).2.2.2),((A1r b i h n life next sure jobs log).1),((A1r b i h n life next sure jobs log).2.1),((A1r b i h n life next sure jobs log).2.2.1),((A1r b i h n life next sure jobs log).2.2.2.1),((A1r b i h n life next sure jobs log).2.2.2.2.1),((A1r b i h n life next sure jobs log).2.2.2.2.2))) (.inr A8)) (.inr A8)) (.inr A8)) (.inr A8)) (.inr A8)) (.inr A8)) (.inr A8)) (.inl (m - 1,b,(r.2.2.1),(r.2.2.2),n,life,next,sure,jobs,log)):A1l ⊕ A0h)=.inl w∧w=(m - 1,b,i', h', n,life,next,sure,jobs', log')∧cOk b i'∧DC (m - 1+100) n life next jobs' log' sure:=by
        by_cases hj:(jobs.length:Int) > 0
        · rw [decide_eq_true hj]
          obtain ⟨j1,j2,j3,j4,j5⟩:=D7 d5 (jobs.length:Int) r.2.2.2
          have j3:=j3 (by omega)
          have k3:I9 b i h jobs=A3 (jobs.length:Int) b r.2.2.1 r.2.2.2:=by simp only [I9,hr,d4]
          rw [← k3] at j2 j3 j4 j5
          have hk:(I9 b i h jobs).1.toNat<jobs.length:=by omega
          obtain ⟨o1,_⟩:=D.jm _ (I7 hk D6)
          obtain ⟨s1,s2,s3⟩:=C2r o1 n
          have k4:R7 b i h n jobs=E4 (jobs.getD (I9 b i h jobs).1.toNat D6).2.1 n:=by simp only [R7,hdj]
          have hpos:0<(R7 b i h n jobs).length:=by
            rw [k4]
            have hok:=(D.cr.jb _ hk).ops
            have hne:0<(jobs.getD (I9 b i h jobs).1.toNat D6).2.1.length:=by have:=E5b hok;omega
            have hm:=(s3 (shO n ((jobs.getD (I9 b i h jobs).1.toNat D6).2.1.getD 0 dOp))).2 (List.mem_map.2 ⟨_,I7 hne dOp,rfl⟩)
            exact List.length_pos_of_mem hm
          obtain ⟨l1,l2,l3,l4,l5⟩:=D7 j5 (((R7 b i h n jobs).length:Nat):Int) (I9 b i h jobs).2.2.2
          have l3:=l3 (by omega)
          have k5:N1 b i h n jobs=A3 (((R7 b i h n jobs).length:Nat):Int) b (I9 b i h jobs).2.2.1 (I9 b i h jobs).2.2.2:=by simp only [N1,j4]
          rw [← k5] at l2 l3 l4 l5
          obtain ⟨n1,n2,n3⟩:=A9O l5 5 (N1 b i h n jobs).2.2.2
          have k6:A0r b i h n jobs=A2o 5 b (N1 b i h n jobs).2.2.1 (N1 b i h n jobs).2.2.2:=by simp only [A0r,l4]
          rw [← k6] at n2 n3
          obtain ⟨v1,jobs', log', v2,v3⟩:=E5f D (by omega) ((R7 b i h n jobs).getD (N1 b i h n jobs).1.toNat 0) (jobs.getD (I9 b i h jobs).1.toNat D6).1 (!(A0r b i h n jobs).1)
          have k7:A1r b i h n life next sure jobs log=(n,life,next,sure,jobs', log'):=v2
          rw [decide_eq_true (And.intro j2 j3),decide_eq_true (And.intro l2 l3)]
          simp only [j1,j4,s1,l1,l4,n1,v1,k7,cond_true]
          exact ⟨_,_,_,_,_,rfl,by rw [n2],n3,v3.less (by omega) (by omega)⟩
        · rw [decide_eq_false hj]
          exact ⟨_,_,_,_,_,rfl,rfl,d5,Dm⟩
      obtain ⟨wv,iv,hv,jv,lv,ev,wv2,cv,Dv⟩:=voted
      simp only [A65,e1,d1,hr,d4,f1,g1,g4,ew,hdj,cond_true]
      cases (r.1==0) with
      | true=>exact go _ _ _ _ _ _ _ _ _ (by rw [f2]) (by omega) f3 g3
      | false =>
        cases (r.1==1) with
        | true=>exact go _ _ _ _ _ _ _ _ _ (by rw [f2]) (by omega) f3 g3
        | false =>
          cases (r.1==2) with
          | true=>exact go _ _ _ _ _ _ _ _ _ (by rw [f2]) (by omega) f3 g3
          | false =>
            cases (r.1==3) with
            | true=>simp only [cond_true,cond_false,ev];exact go _ _ _ _ _ _ _ _ _ wv2 (by omega) cv Dv
            | false =>
              cases (r.1==4) with
              | true=>simp only [cond_true,cond_false,ev];exact go _ _ _ _ _ _ _ _ _ wv2 (by omega) cv Dv
              | false =>
                cases (r.1==5) with
                | true=>simp only [cond_true,cond_false,ev];exact go _ _ _ _ _ _ _ _ _ wv2 (by omega) cv Dv
                | false =>
                  cases (r.1==6) with
                  | true=>exact go _ _ _ _ _ _ _ _ _ rfl (by omega) d5 ⟨E5v Dm.cr,Dm.m0,Dm.lm,Dm.jm⟩
                  | false =>
                    obtain ⟨n1,n2,n3⟩:=A9O d5 3 r.2.2.2
                    have k8:A1A b i h=A2o 3 b r.2.2.1 r.2.2.2:=by simp only [A1A,hr,d4]
                    rw [← k8] at n2 n3
                    simp only [n1,cond_true,cond_false]
                    cases (A1A b i h).1 with
                    | false=>exact go _ _ _ _ _ _ _ _ _ (by rw [n2]) (by omega) n3 Dm
                    | true =>
                      obtain ⟨p1,p2,p3,p4,p5⟩:=D7 n3 3 (A1A b i h).2.2.2
                      have k9:A7Z b i h=A3 3 b (A1A b i h).2.2.1 (A1A b i h).2.2.2:=by simp only [A7Z,n2]
                      rw [← k9] at p4 p5
                      obtain ⟨c1,c2⟩:=E0k (m:=m) D.cr (A7Z b i h).1
                      simp only [n2,p1,c1,cond_true]
                      rcases c2 with ⟨h9,c2⟩ | ⟨k,h9,_,hk,_,_,_,c2⟩
                      · rw [c2]
                        exact go _ _ _ _ _ _ _ _ _ (by rw [p4]) (by omega) p5 Dm
                      · rw [c2]
                        have hcr:=E8v D.cr h9 k
                        have hlen:(log.take k).length=k:=by simp;omega
                        rw [hlen] at hcr
                        exact go _ _ _ _ _ _ _ _ _ (by rw [p4]) (by omega) p5 ⟨hcr,by omega,by have:=D.lm;omega,fun j hj=>by simp at hj⟩
    · obtain rfl:m=0:=by omega
      have e1:decide ((0:Int) > (0:Int))=false:=rfl
      simp only [A65,e1,cond_false]
      exact .inr ⟨_,rfl,n,life,next,sure,jobs,log,i,h,by simpa using D,by omega,rfl,hc⟩
  obtain ⟨n,life,next,sure,jobs,log,i', h', D,hl,e,hc'⟩:=key
  have q0:A5 most (H7 b i h [(3:Int),(2:Int),(1:Int)]).2.1 (H7 b i h [(3:Int),(2:Int),(1:Int)]).2.2.1 (H7 b i h [(3:Int),(2:Int),(1:Int)]).2.2.2.1=true:=by rw [a3];exact b1
  simp only [A7I,B1S,a1,q0,e]
  exact ⟨rfl,n,life,next,sure,jobs,log,i', h', D,hl,rfl,hc'⟩
theorem DC.okJ {m n life next:Int} {jobs:List X1} {log:LIbe} {sure:Int} (D:DC m n life next jobs log sure):∀ j∈jobs,D4E j:=fun j hj=>⟨(D.jm j hj).1,by have:=(D.jm j hj).2;have:=D.m0;omega⟩
theorem DC.any {m n life next:Int} {jobs:List X1} {log:LIbe} {sure:Int} (D:DC m n life next jobs log sure):AnyC jobs log:=⟨by have:=DC.few D;omega,DC.okJ D,by have:=D.cr.lg;omega⟩
theorem E0r {b:List Int} {i:Int} (hc:cOk b i) (h:Int) (most:Int) (hm:most≤100):B0g most b i h=true∧∃ (n life next sure:Int) (jobs:List X1) (log:LIbe) (i' h':Int),
    AnyC jobs log∧C7U most b i h=(n,life,next,jobs,log,sure,b,i', h')∧cOk b i':=by
  obtain ⟨d1,n,life,next,sure,jobs,log,i1,h1,D,hlf,d2,hc1⟩:=D6b hc h most hm
  have A:=DC.any D
  have hdj:((0:Int),(([]:Lq2),((0:Int),([]:List Int))))=D6:=rfl
  obtain ⟨c1,c2,c3,c4,c5⟩:=D7 hc1 12 h1
  have k1:C7 most b i h=A3 12 b i1 h1:=by simp only [C7,d2]
  rw [← k1] at c4 c5
  obtain ⟨p1,p2,p3,p4⟩:=A0A c5 (C7 most b i h).2.2.2 (l:=[(0:Int),(1:Int),(9:Int)]) (by decide)
  obtain ⟨r1,r2,r3,r4⟩:=A0A c5 (C7 most b i h).2.2.2 (l:=[(0:Int),(999:Int),(1000:Int),(-1:Int)]) (by decide)
  obtain ⟨s1,s2,s3,s4⟩:=A0A c5 (C7 most b i h).2.2.2 (l:=[(0:Int),(1:Int),(900:Int),(901:Int)]) (by decide)
  obtain ⟨t1,t2,t3,t4⟩:=A0A c5 (C7 most b i h).2.2.2 (l:=[(-1:Int),wI ((log.length:Int)+(1:Int))]) (by simp)
  obtain ⟨u1,u2,u3,u4⟩:=A0A c5 (C7 most b i h).2.2.2 (l:=[(999:Int),(1000:Int),(1001:Int),(5000:Int)]) (by decide)
  obtain ⟨v1,v2,v3,v4,v5⟩:=D7 c5 5 (C7 most b i h).2.2.2
  have k2:B9D most b i h=H7 b (C7 most b i h).2.2.1 (C7 most b i h).2.2.2 [(0:Int),(1:Int),(9:Int)]:=by simp only [B9D,c4]
  have k3:B9W most b i h=H7 b (C7 most b i h).2.2.1 (C7 most b i h).2.2.2 [(0:Int),(999:Int),(1000:Int),(-1:Int)]:=by simp only [B9W,c4]
  have k4:B85 most b i h=H7 b (C7 most b i h).2.2.1 (C7 most b i h).2.2.2 [(0:Int),(1:Int),(900:Int),(901:Int)]:=by simp only [B85,c4]
  have k5:B9C most b i h=H7 b (C7 most b i h).2.2.1 (C7 most b i h).2.2.2 [(-1:Int),wI ((log.length:Int)+(1:Int))]:=by simp only [B9C,c4,d2]
  have k6:B4y most b i h=H7 b (C7 most b i h).2.2.1 (C7 most b i h).2.2.2 [(999:Int),(1000:Int),(1001:Int),(5000:Int)]:=by simp only [B4y,c4]
  have k7:B5n most b i h=A3 5 b (C7 most b i h).2.2.1 (C7 most b i h).2.2.2:=by simp only [B5n,c4]
  rw [← k2] at p3 p4
  rw [← k3] at r3 r4
  rw [← k4] at s3 s4
  rw [← k5] at t3 t4
  rw [← k6] at u3 u4
  rw [← k7] at v4 v5
  have m:∀ x:Int×Bool,decide ((log.length+[x].length)*16≤MAXB)=true:=fun x=>decide_eq_true (by have:=A.ln;simp only [List.length_singleton,MAXB];omega)
  have A2:∀ x:Int×Bool,AnyC jobs (log++[x]):=fun x=>⟨A.jn,A.ok,by have:=D.cr.lg;simp;omega⟩
  simp only [B0g,C7U,d1,d2,c1,c4,p1,r1,s1,t1,u1,v1,m,hdj,Bool.true_and]
  cases ((C7 most b i h).1==0) with
  | true=>exact ⟨rfl,_,_,_,_,_,_,_,_,A,by simp only [cond_true];rw [p3],p4⟩
  | false =>
   cases ((C7 most b i h).1==1) with
   | true=>exact ⟨rfl,_,_,_,_,_,_,_,_,A,by simp only [cond_true,cond_false];rw [r3],r4⟩
   | false =>
    cases ((C7 most b i h).1==2) with
    | true=>exact ⟨rfl,_,_,_,_,_,_,_,_,A,by simp only [cond_true,cond_false];rw [s3],s4⟩
    | false =>
     cases ((C7 most b i h).1==3) with
     | true=>exact ⟨rfl,_,_,_,_,_,_,_,_,A,by simp only [cond_true,cond_false];rw [t3],t4⟩
     | false =>
      cases ((C7 most b i h).1==4) with
      | true=>exact ⟨rfl,_,_,_,_,_,_,_,_,A2 _,by simp only [cond_true,cond_false];rw [u3],u4⟩
      | false =>
       cases ((C7 most b i h).1==5) with
       | true =>
         by_cases hj:(jobs.length:Int) > 0
         · have h0:0<jobs.length:=by omega
           rw [decide_eq_true hj,decide_eq_true (show (0:Int)≤0∧(0:Int)<(jobs.length:Int) by omega)]
           obtain ⟨o1,o2⟩:=A.ok _ (I7 h0 D6)
           refine ⟨rfl,n,life,next,sure,jobs.set (0:Int).toNat ((jobs.getD (0:Int).toNat D6).1,((jobs.getD (0:Int).toNat D6).2.1,((B5n most b i h).1,(jobs.getD (0:Int).toNat D6).2.2.2))),log,_,_,⟨by rw [List.length_set];exact A.jn,fun j hj=>?_,A.ln⟩,by simp only [cond_true,cond_false];rw [v4],v5⟩
           rcases List.mem_or_eq_of_mem_set hj with hj | hj
           · exact A.ok j hj
           · rw [hj];exact ⟨o1,o2⟩
         · rw [decide_eq_false hj]
           exact ⟨rfl,_,_,_,_,_,_,_,_,A,rfl,c5⟩
       | false=>exact ⟨rfl,_,_,_,_,_,_,_,_,A,rfl,c5⟩
theorem D53 (a b:Lq2) (hl:a.length≤1099511627776):A7r a b=true∧C1O a b=A1s qO a b:=by
 simp only [A7r,C1O,A1s]
 by_cases hab:a.length=b.length
 ·have e : A6K a b 0 = cond (B0u qO a b) (1, false) (0, false) := by
   refine B3y (ss:=fun v:A6h=>A67 v.1 v.2.1 v.2.2) (fa:=B0W) (fun i=>((a,b,(i:Int)):A6h)) a b dOp qO _ _ hab (by omega) (fun i hi=>?_) ?_
   ·have h1:decide ((i:Int)<(a.length:Int))=true:=decide_eq_true (by omega)
    have h2:decide (0≤(i:Int)∧(i:Int)<(a.length:Int))=true:=decide_eq_true (by omega)
    have h3:decide (0≤(i:Int)∧(i:Int)<(b.length:Int))=true:=decide_eq_true (by omega)
    simp only [A67,h1,h2,h3,cond_true,Int.toNat_natCast,K6 i (by omega),B56,qO]
    generalize ((a.getD i dOp).1==(b.getD i dOp).1&&((a.getD i dOp).2.1.toList==(b.getD i dOp).2.1.toList&&((a.getD i dOp).2.2.toList==(b.getD i dOp).2.2.toList&&true)))=z
    cases z<;>rfl
   ·have h1:decide ((a.length:Int)<(a.length:Int))=false:=decide_eq_false (by omega)
    simp only [A67,h1,cond_false]
  rw [B4j hab,e]
  cases B0u qO a b<;>exact ⟨rfl,rfl⟩
 ·rw [B6Q hab];exact ⟨rfl,rfl⟩
theorem E1a (x y:H6) (hl:x.2.2.length≤1048576):A7G x.1 x.2.1 x.2.2 y.1 y.2.1 y.2.2=true∧C8k x.1 x.2.1 x.2.2 y.1 y.2.1 y.2.2=qR x y:=by
 obtain ⟨o1,o2⟩:=D53 x.2.2 y.2.2 (by omega)
 simp only [A7G,C8k,o1,o2,qR,bne]
 cases (x.1==y.1)<;>cases (x.2.1==y.2.1)<;>exact ⟨rfl,rfl⟩
theorem D5E (a b:List H6) (hl:a.length≤1099511627776) (ho:∀ x∈a,x.2.2.length≤1048576):A3v a b=true∧A95 a b=A1s qR a b:=by
 simp only [A3v,A95,A1s]
 by_cases hab:a.length=b.length
 ·have e : A5q a b 0 = cond (B0u qR a b) (1, false) (0, false) := by
   refine B3y (ss:=fun v:A4D=>A5j v.1 v.2.1 v.2.2) (fa:=A5p) (fun i=>((a,b,(i:Int)):A4D)) a b B9 qR _ _ hab (by omega) (fun i hi=>?_) ?_
   ·have h1:decide ((i:Int)<(a.length:Int))=true:=decide_eq_true (by omega)
    have h2:decide (0≤(i:Int)∧(i:Int)<(a.length:Int))=true:=decide_eq_true (by omega)
    have h3:decide (0≤(i:Int)∧(i:Int)<(b.length:Int))=true:=decide_eq_true (by omega)
    obtain ⟨o1,o2⟩:=E1a (a.getD i B9) (b.getD i B9) (ho _ (I7 hi B9))
    simp only [A5j,B9e,h1,h2,h3,cond_true,Int.toNat_natCast,K6 i (by omega),A2O,o1,o2]
    cases qR (a.getD i B9) (b.getD i B9)<;>rfl
   ·have h1:decide ((a.length:Int)<(a.length:Int))=false:=decide_eq_false (by omega)
    simp only [A5j,h1,cond_false]
  rw [B4j hab,e]
  cases B0u qR a b<;>exact ⟨rfl,rfl⟩
 ·rw [B6Q hab];exact ⟨rfl,rfl⟩
theorem F3S {a:List H6} (h:a.length≤1099511627776) (ho:∀ x∈a,x.2.2.length≤1048576):A3v a a=true∧A95 a a=true:=by
 obtain ⟨p1,p2⟩:=D5E a a h ho
 exact ⟨p1,p2.trans ((C4I a a).2 rfl)⟩
theorem D2o (a b:List A1B) (hl:a.length≤1099511627776):A2A a b=true∧A7A a b=A1s qP a b:=by
 simp only [A2A,A7A,A1s]
 by_cases hab:a.length=b.length
 ·have e : A4f a b 0 = cond (B0u qP a b) (1, false) (0, false) := by
   refine B3y (ss:=fun v:A3b=>A3U v.1 v.2.1 v.2.2) (fa:=A7f) (fun i=>((a,b,(i:Int)):A3b)) a b dP qP _ _ hab (by omega) (fun i hi=>?_) ?_
   ·have h1:decide ((i:Int)<(a.length:Int))=true:=decide_eq_true (by omega)
    have h2:decide (0≤(i:Int)∧(i:Int)<(a.length:Int))=true:=decide_eq_true (by omega)
    have h3:decide (0≤(i:Int)∧(i:Int)<(b.length:Int))=true:=decide_eq_true (by omega)
    simp only [A3U,h1,h2,h3,cond_true,Int.toNat_natCast,K6 i (by omega),A53,qP]
    generalize ((a.getD i dP).1.toList==(b.getD i dP).1.toList&&((a.getD i dP).2.toList==(b.getD i dP).2.toList&&true))=z
    cases z<;>rfl
   ·have h1:decide ((a.length:Int)<(a.length:Int))=false:=decide_eq_false (by omega)
    simp only [A3U,h1,cond_false]
  rw [B4j hab,e]
  cases B0u qP a b<;>exact ⟨rfl,rfl⟩
 ·rw [B6Q hab];exact ⟨rfl,rfl⟩
theorem F3H {a:List A1B} (h:a.length≤1099511627776):A2A a a=true∧A7A a a=true:=by
 obtain ⟨p1,p2⟩:=D2o a a h
 exact ⟨p1,p2.trans ((B7p a a).2 rfl)⟩
theorem E5F {l:List Int} (h:C6P T4 l=true):okB l:=by
 have hb:(decide (l.length≤maxLen)&&l.all (fun x=>(Lit.int .u8 x).wf))=true:=h
 rw [Bool.and_eq_true,List.all_eq_true] at hb
 intro c hc
 have:=hb.2 c hc
 simp only [Lit.wf,Bool.and_eq_true,decide_eq_true_eq] at this
 exact ⟨this.1,this.2⟩
theorem E1J {x:D8} (A:D9F x):B0d x.1 x.2.1 x.2.2.1 x.2.2.2.1 x.2.2.2.2=true∧C8Q x.1 x.2.1 x.2.2.1 x.2.2.2.1 x.2.2.2.2=x:=by
 obtain ⟨a1,a2⟩:=C27 A.1
 obtain ⟨b1,b2⟩:=C27 A.2.2.1
 have h2:=A.2.1
 have m:decide ((([]:List A1B).length+x.2.2.2.1.length)*32≤MAXB)=true:=decide_eq_true (by simp only [List.length_nil,MAXB];omega)
 simp only [B0d,C8Q,a1,a2,b1,b2,m,Bool.and_self]
 exact ⟨trivial,rfl⟩
theorem E58 {x:D8} (A:D9F x):∃ y:D8,A3u x.1 x.2.1 x.2.2.1 x.2.2.2.1 x.2.2.2.2=true∧A3x x.1 x.2.1 x.2.2.1 x.2.2.2.1 x.2.2.2.2=true ∧
  B8e x.1 x.2.1 x.2.2.1 x.2.2.2.1 x.2.2.2.2=y∧B8g x.1 x.2.1 x.2.2.1 x.2.2.2.1 x.2.2.2.2=y∧y.2.1=x.2.1∧y.2.2.2.1=x.2.2.2.1 ∧
  A05 y.1 y.2.1 y.2.2.1 y.2.2.2.1 y.2.2.2.2=true∧A1Y x.1 x.2.1 x.2.2.1 x.2.2.2.1 x.2.2.2.2=true∧A46 y.1 y.2.1 y.2.2.1 y.2.2.2.1 y.2.2.2.2=A6T x.1 x.2.1 x.2.2.1 x.2.2.2.1 x.2.2.2.2:=by
 obtain ⟨cp1,cp2⟩:=E4C A.1 (x:=x) (by have:=A.2.1;omega) A.2.2.1
 obtain ⟨sc1,sc2⟩:=E1J A
 obtain ⟨⟨s1,s2⟩,hcase⟩:=E9Z A
 have qi:A3u x.1 x.2.1 x.2.2.1 x.2.2.2.1 x.2.2.2.2=true:=by simp only [A3u,cp1,s2,Bool.and_self]
 have qs:A3x x.1 x.2.1 x.2.2.1 x.2.2.2.1 x.2.2.2.2=true:=by simp only [A3x,sc1,s1,Bool.and_self]
 rcases hcase with ⟨D,s3,s4⟩ | ⟨s3,s4⟩
 ·have D2:=D5h D (n:=(x.2.1.length:Int)) (by omega) (Int.le_refl _)
  obtain ⟨_,t1,t2⟩:=E3t D2
  refine ⟨(x.1,x.2.1,(x.2.1.length:Int),x.2.2.2.1,x.2.2.2.2),qi,qs,?_,?_,rfl,rfl,t1,s1,t2.trans s3.symm⟩
  ·simp only [B8e,s4,cp2,cond_true]
  ·simp only [B8g,s3,sc2,cond_true]
 ·refine ⟨x,qi,qs,?_,?_,rfl,rfl,s2,s1,s4.trans s3.symm⟩
  ·simp only [B8e,s4,cp2,cond_false]
  ·simp only [B8g,s3,sc2,cond_false]
theorem E6G (n life next sure:Int) {jobs:List X1} {log:LIbe} (A:AnyC jobs log):∃ t:Int,A5m n life next jobs log sure=true∧A5h n life next jobs log sure=true ∧
  C15 n life next jobs log sure=(n,life,next,jobs,log,t)∧C1N n life next jobs log sure=(n,life,next,jobs,log,t)∧A1a n life next jobs log t=true∧A2K n life next jobs log sure=true∧A9N n life next jobs log t=B1R n life next jobs log sure:=by
 have h4:log.length≤1048576:=by have:=A.ln;omega
 obtain ⟨c1,c2,c3⟩:=D8K n life next sure A.jn A.ok h4
 obtain ⟨p1,p2⟩:=E16 n life next sure A.jn A.ok (by omega:log.length≤1048577)
 obtain ⟨r1,r2⟩:=E2p n life next sure A
 have qs:A5h n life next jobs log sure=true:=by simp only [A5h,r1,c1,Bool.and_self]
 have qi:A5m n life next jobs log sure=true:=by simp only [A5m,p1,c2,Bool.and_self]
 cases hs:B1R n life next jobs log sure with
 | true =>
  have s4:=c3.trans hs
  obtain ⟨g1,g2⟩:=C8p (a0:=n) (a1:=life) (a2:=next) (a5:=sure) A.jn A.ok h4
  obtain ⟨e1,e2⟩:=C8p (a0:=n) (a1:=life) (a2:=next) (a5:=(log.length:Int)) A.jn A.ok h4
  refine ⟨(log.length:Int),qi,qs,?_,?_,e1,c1,e2.2 (E5v (g2.1 s4))⟩
  ·simp only [C15,s4,p2,cond_true]
  ·simp only [C1N,hs,r2,cond_true]
 | false =>
  have s4:=c3.trans hs
  refine ⟨sure,qi,qs,?_,?_,c2,c1,s4⟩
  ·simp only [C15,s4,p2,cond_false]
  ·simp only [C1N,hs,r2,cond_false]
theorem E2v {b:List Int} (hb:okB b):A4n b=true∧A70 b=true:=by
 by_cases hl:(b.length:Int) > 1048576
 ·have e:lbig b=true:=decide_eq_true hl
  simp only [A4n,A70,e,cond_true]
  exact ⟨trivial,trivial⟩
 ·have e:lbig b=false:=decide_eq_false hl
  obtain ⟨a1,a2,a3⟩:=E3i hb (by omega)
  obtain ⟨z1,z2⟩:=E9k b 16 (by omega) (by omega)
  obtain ⟨n1,x,i', h', c1,c2,⟨A,_⟩,hc,n2⟩:=E0X a3 (A2V b).2.2 (A7p b 16) (by omega)
  have q0:A0Z b=true:=by simp only [A0Z,a1,a2,n1,Bool.and_self]
  have k0:W2 b=(x.1,x.2.1,x.2.2.1,x.2.2.2.1,x.2.2.2.2):=by simp only [W2,a2,n2]
  obtain ⟨m1,n,life,next,sure,jobs,log,i2,h2,C,m2,_⟩:=E0r a3 (A2V b).2.2 (A7p b 16) (by omega)
  have q1:A1K b=true:=by simp only [A1K,a1,a2,m1,Bool.and_self]
  have k1:A1j b=(n,life,next,jobs,log,sure):=by simp only [A1j,a2,m2]
  obtain ⟨y,qi,qs,ei,es,y1,y2,u1,u2,u3⟩:=E58 A
  obtain ⟨t,ri,rs,fi,fs,v1,v2,v3⟩:=E6G n life next sure C
  have hml:=A.2.1
  have hll:=A.2.2.2.2.1
  obtain ⟨w1,w2⟩:=F3S (a:=x.2.1) (by omega) (fun r hr=>L4 (A1O A.1 r hr))
  obtain ⟨w3,w4⟩:=F3H (a:=x.2.2.2.1) (by omega)
  have e0:∀ x:Int,(x != x)=false:=fun x=>by simp
  simp only [A4n,A70,A5l,A5u,A8U,A8Y,A9H,A9P,B5j,B43,e,q0,k0,q1,k1,qi,qs,ei,es,ri,rs,fi,fs,y1,y2,w1,w2,w3,w4,e0,v1,v2,v3,u2,cond_true,cond_false,Bool.not_true,Bool.and_self,beq_self_eq_true]
  rw [y1] at u1 u3
  rw [y2] at u1 u3
  simp only [u1,u3,cond_true,Bool.and_self,beq_self_eq_true]
  exact ⟨trivial,trivial⟩
theorem C67 (b:List Int) (h:C6P T4 b=true):A4d (b,())=true:=(E2v (E5F h)).1
theorem C9f (b:List Int) (h:C6P T4 b=true):A70 b=true:=(E2v (E5F h)).2

end Go.Proofs.YtapikgcgahomlaaGreat.Eng
