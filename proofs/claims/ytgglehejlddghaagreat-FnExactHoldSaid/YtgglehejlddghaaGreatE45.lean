/- The engine, part 45: Insert's contract. -/
import Derived.Test.YtgglehejlddghaaGreatE44
namespace Go.Proofs.YtgglehejlddghaaGreat.Eng
open Go Go.RowKit
set_option linter.unusedSimpArgs false
set_option linter.unusedVariables false
section
variable {P:Program}
theorem MContract.insPair {F:FuncId} {E:TypeId}
    (h1:∀ (b n c i vb vc:Nat) (cs vs:List Value) (w:World),i<n→n+1≤c→c≤9223372036854775807→vb ≠ b→cs.length=n*2→vs.length=1*2 →
      (∀ (j:Nat) (v:Value),cs[j]? = some v→w.cell? ⟨b,j,none⟩=some v)→(∀ j,j<(n+1)*2→(w.cell? ⟨b,j,none⟩).isSome=true)→(∀ j,j<(n+1)*2→w.frozen? ⟨b,j,none⟩=false) →
      (∀ (j:Nat) (v:Value),vs[j]? = some v→w.cell? ⟨vb,0+j,none⟩=some v)→(∀ v∈cs,v.oneCell'=true)→(∀ v∈vs,v.oneCell'=true) →
      ∀ (tA tB:TypeId) (kA kB:Nat),w.shape? vb=some (tA,kA)→w.shape? b=some (tB,kB)→kB ≠ 0→w.frozen? ⟨vb,0,none⟩=false→w.frozen? ⟨vb,kA,none⟩=false →
      Calls P F #[.slice (some ⟨b,0,none⟩) n c,.int .i64 i,.slice (some ⟨vb,0,none⟩) 1 vc] w fun e w' =>
        e=.returned (.slice (some ⟨b,0,none⟩) (n+1) c)∧w'=(w.drew.setCells b ((i+1)*2) (cs.drop (i*2))).setCells b (i*2) vs)
    (h2:∀ (b n c vb vc:Nat) (vs:List Value) (w:World),n+1≤c→c≤9223372036854775807→vs.length=1*2→(∀ j,j<1*2→(w.cell? ⟨b,n*2+j,none⟩).isSome=true)→(∀ j,j<1*2→w.frozen? ⟨b,n*2+j,none⟩=false) →
      (∀ (j:Nat) (v:Value),vs[j]? = some v→w.cell? ⟨vb,0+j,none⟩=some v)→(∀ v∈vs,v.oneCell'=true) →
      Calls P F #[.slice (some ⟨b,0,none⟩) n c,.int .i64 n,.slice (some ⟨vb,0,none⟩) 1 vc] w fun e w' =>
        e=.returned (.slice (some ⟨b,0,none⟩) (n+1) c)∧w'=w.setCells b (n*2) vs)
    (h3:∀ (base:Option Addr) (n c vb vc:Nat) (cs vs:List Value) (w:World),n≤c→c<n+1→(n+1)*32≤140737488355328→cs.length=n*2→vs.length=1*2→(base=none→n=0) →
      (∀ a,base=some a→∀ (j:Nat) (v:Value),cs[j]? = some v→w.cell? (a.add j)=some v)→(∀ (j:Nat) (v:Value),vs[j]? = some v→w.cell? ⟨vb,0+j,none⟩=some v)→(∀ v∈vs,v.oneCell'=true) →
      Calls P F #[.slice base n c,.int .i64 n,.slice (some ⟨vb,0,none⟩) 1 vc] w fun e w' =>
        ∃ G,n+1≤G∧G≤maxLen∧e=.returned (.slice (some ⟨w.heap.size,0,none⟩) (n+1) G) ∧
        w'=w.drew.alloc (.cells ((cs++vs).toArray++Builtin.zeroCells #[Value.string ⟨#[]⟩,Value.string ⟨#[]⟩] (G - (n+1))) E))
    (h4:∀ (b n c i vb vc:Nat) (cs vs:List Value) (w:World),i<n→n≤c→c<n+1→(n+1)*32≤140737488355328→cs.length=n*2→vs.length=1*2 →
      (∀ (j:Nat) (v:Value),cs[j]? = some v→w.cell? ⟨b,j,none⟩=some v)→(∀ (j:Nat) (v:Value),vs[j]? = some v→w.cell? ⟨vb,0+j,none⟩=some v)→(∀ v∈cs,v.oneCell'=true)→(∀ v∈vs,v.oneCell'=true) →
      Calls P F #[.slice (some ⟨b,0,none⟩) n c,.int .i64 i,.slice (some ⟨vb,0,none⟩) 1 vc] w fun e w' =>
        ∃ G,n+1≤G∧G≤maxLen∧e=.returned (.slice (some ⟨w.heap.size,0,none⟩) (n+1) G) ∧
        w'=(((w.alloc (.cells ((cs.take (i*2)).toArray++Builtin.zeroCells #[Value.string ⟨#[]⟩,Value.string ⟨#[]⟩] (n+1 - i)++Builtin.zeroCells #[Value.string ⟨#[]⟩,Value.string ⟨#[]⟩] (G - (n+1))) E)).drew.setCells w.heap.size (i*2) vs).drew).setCells w.heap.size ((i+1)*2) (cs.drop (i*2))) :
    MContract P F (A6K E):=by
  intro args H r H' Kf hs N w0 η w vs I hsz hr
  unfold A6K at hs
  split at hs
  · rename_i fi i E0 f l E2 f2 x
    simp only [Option.some.injEq,Prod.mk.injEq,Bool.and_eq_true,decide_eq_true_eq] at hs
    obtain ⟨rfl,rfl,rfl,⟨rfl,hi0,hi1⟩,hbig⟩:=hs
    obtain ⟨i,rfl⟩:∃ k:Nat,i=(k:Int):=⟨Int.toNat i,(Int.toNat_of_nonneg hi0).symm⟩
    have hv0:=hr 0 (.all 0 2) rfl
    have hv1:=hr 1 (.t fi (.int .i64) (i:Int)) rfl
    have hv2:=hr 2 (.all 1 2) rfl
    have evs:vs=#[vs.getD 0 undef,vs.getD 1 undef,vs.getD 2 undef]:=by
      have h3:vs.size=3:=by rw [hsz];rfl
      apply Array.ext_getElem?
      intro k
      rcases k with _ | _ | _ | k
      · simp [Array.getD,h3]
      · simp [Array.getD,h3]
      · simp [Array.getD,h3]
      · rw [Array.getElem?_eq_none (by omega),Array.getElem?_eq_none (by simp)]
    generalize vs.getD 0 undef=u0 at hv0 evs
    generalize vs.getD 1 undef=u1 at hv1 evs
    generalize vs.getD 2 undef=u2 at hv2 evs
    have e1:u1=.int .i64 (i:Int):=by
      cases hv1 with
      | t h1 hl=>simpa [Lay] using hl
    have e0:u0=η.hv 0:=by cases hv0 with | all _=>rfl
    have e2:u2=η.hv 1:=by cases hv2 with | all _=>rfl
    subst e0;subst e1;subst e2
    have il:i≤l.length:=Int.ofNat_le.1 hi1
    rw [Int.toNat_natCast]
    -- what is put in
    obtain ⟨hln1,hob1⟩:=I.obj 1 (.rows E2 f2 (.pair .str .str) [x]) rfl
    rcases hob1 with ⟨_,hx⟩ | ⟨c1,cap1,g1,g2,g3,g4,g5,g6⟩
    · cases hx
    have m1:(AObj.rows E2 f2 (.pair .str .str) [x]).mat η 1:=C9 g1 g4.1
    obtain ⟨own1,ownz1,ownl1⟩:=I.own 1 _ rfl m1
    have hvs:∀ (j:Nat) (v:Value),(D7 x)[j]? = some v→w.cell? ⟨η.ι 1,0+j,none⟩=some v:=fun j v hv=>by
      rw [Nat.zero_add,C5 g2]
      exact A2B (l:=[x]) g6 j v (by simpa using hv)
    have hw1:∀ v∈D7 x,v.oneCell'=true:=fun v hv=>by
      simp [D7] at hv;rcases hv with rfl | rfl<;>rfl
    have hvl:(D7 x).length=1*2:=rfl
    have g1':η.hv 1=.slice (some ⟨η.ι 1,0,none⟩) 1 cap1:=g1
    -- what it is put into
    obtain ⟨hln0,hob0⟩:=I.obj 0 (.rows E0 f (.pair .str .str) l) rfl
    have insl:(l.take i++x::l.drop i).length=l.length+1:=by
      rw [List.length_append,List.length_cons,List.length_take,List.length_drop];omega
    have fresh:¬ N w.heap.size∧¬ η.Z false w.heap.size:=⟨fun h=>by have:=I.nlt _ h;have:=I.fr.size;omega,fun h=>by have:=I.zlt _ _ h;omega⟩
    -- the new row
    have fin : ∀ (w' : World) (g cap : Nat) (c : Array Value) (mm : Nat → Prop), Keeps w w' mm → (∀ k, k < w.heap.size → mm k → ((AObj.rows E0 f (.pair .str .str) l).mat η 0 ∧ k = η.ι 0) ∨ ((AObj.rows E2 f2 (.pair .str .str) [x]).mat η 1 ∧ k = η.ι 1)) → w'.heap[g]? = some (.cells c E0 (0, 0)) → l.length + 1 ≤ cap → cap ≤ maxLen → c.size = cap * 2 →
        (∀ (j:Nat) (v:Value),((l.flatMap D7).take (i*2)++(D7 x++(l.flatMap D7).drop (i*2)))[j]? = some v→c[j]? = some v)→¬ N g→¬ η.Z false g→η.O g=none →
        ∃ v η', Ending.returned (.slice (some ⟨g,0,none⟩) (l.length+1) cap)=.returned v∧Inv N w0 η' [.rows E0 true (.pair .str .str) (l.take i++x::l.drop i),.dead] w'∧Ext (List.contains [0]) η 2 w η' 2 w'∧AVR η' 2 w' (.all 0 2) v:=by
      intro w' g cap c mm hk hmm hg hcap hcm hcs hcells hN hZ hO
      obtain ⟨J,xJ⟩:=I.give (hk.mono hmm)
      rw [← A6D] at hcells
      obtain ⟨J2,xJ2⟩:=J.finish (l:=l.take i++x::l.drop i) hg (by rw [insl];exact hcap) ⟨by omega,hcm⟩ hcs hcells hN hZ hO
      refine ⟨_,_,rfl,J2,((xJ 2).trans xJ2 (fun _ _ h=>⟨rfl,h⟩)),?_⟩
      have:=@A6A η w' (l.take i++x::l.drop i) g cap
      rwa [insl] at this ⊢
    have ne:η.ι 1 ≠ η.ι 0∨¬ (AObj.rows E0 f (.pair .str .str) l).mat η 0:=by
      by_cases hm0:(AObj.rows E0 f (.pair .str .str) l).mat η 0
      · exact .inl fun h=>by have:=I.inj 1 0 _ _ rfl rfl m1 hm0 h;cases this
      · exact .inr hm0
    have hG:maxLen=9223372036854775807:=by decide
    rcases hob0 with ⟨⟨A,hA⟩,rfl⟩ | ⟨c0,cap0,q1,q2,q3,q4,q5,q6⟩
    · -- nil
      obtain rfl:i=0:=by simpa using il
      rw [evs,hA,g1']
      refine (h3 A 0 0 (η.ι 1) cap1 [] (D7 x) w (Nat.le_refl _) (by omega) (by omega) rfl hvl (fun _=>rfl) (fun a _ j v hj=>by simp at hj) hvs hw1).mono ?_
      rintro e w' ⟨G,G1,G2,rfl,rfl⟩
      refine fin _ w.heap.size G _ (fun _=>False) ((Keeps.drew w _).trans (Keeps.alloc _ _ _)) (fun _ _ h=>h.elim) (A3l w.drew _) (by simpa using G1) G2 ?_ (fun j v hj=>?_) fresh.1 fresh.2 (I.O_ge (Nat.le_refl _))
      · simp [Builtin.zeroCells,D7];omega
      · simp at hj
        rw [Array.getElem?_append_left (by
          have:=(List.getElem?_eq_some_iff.1 hj).1
          simpa using this)]
        simpa using hj
    · have hm0:(AObj.rows E0 f (.pair .str .str) l).mat η 0:=C9 q1 q4.1
      have hne:η.ι 1 ≠ η.ι 0:=ne.resolve_right (fun h=>h hm0)
      obtain ⟨own0,ownz0,ownl0⟩:=I.own 0 _ rfl hm0
      have q1':η.hv 0=.slice (some ⟨η.ι 0,0,none⟩) l.length cap0:=q1
      have hcl:(l.flatMap D7).length=l.length*2:=A3r l
      have hcs:∀ (j:Nat) (v:Value),(l.flatMap D7)[j]? = some v→w.cell? ⟨η.ι 0,j,none⟩=some v:=fun j v hv=>by
        rw [C5 q2];exact A2B q6 j v hv
      have hsome:∀ j,j<cap0*2→(w.cell? ⟨η.ι 0,j,none⟩).isSome=true:=fun j hj=>by
        rw [C5 q2,Array.getElem?_eq_getElem (by rw [q5];exact hj)];rfl
      have hone:∀ v∈l.flatMap D7,v.oneCell'=true:=A6E l
      rw [evs,q1', g1']
      by_cases hin:i<l.length
      · by_cases hroom:l.length+1≤cap0
        · -- in place,in the middle
          refine (h1 (η.ι 0) l.length cap0 i (η.ι 1) cap1 (l.flatMap D7) (D7 x) w hin hroom (by rw [hG] at q4;omega) hne hcl hvl hcs (fun j hj=>hsome j (by omega)) (fun j _=>A1g q2 j) hvs hone hw1
            E2 E0 c1.size c0.size (by simp [World.shape?,g2]) (by simp [World.shape?,q2]) (by rw [q5];simp only [Ty.cells];omega) (A1g g2 0) (A1g g2 _)).mono ?_
          rintro e w' ⟨rfl,rfl⟩
          obtain ⟨k1,s1,r1⟩:=A0v (η.ι 0) ((l.flatMap D7).drop (i*2)) ((i+1)*2) w.drew
          obtain ⟨ca,a1,a2,a3⟩:=r1 c0 E0 (0,0) q2
          obtain ⟨k2,s2,r2⟩:=A0v (η.ι 0) (D7 x) (i*2) (w.drew.setCells (η.ι 0) ((i+1)*2) ((l.flatMap D7).drop (i*2)))
          obtain ⟨cb,b1,b2,b3⟩:=r2 ca E0 (0,0) a1
          refine fin _ (η.ι 0) cap0 cb (fun k=>k=η.ι 0) (((Keeps.drew w _).trans k1).trans k2) (fun k _ h=>.inl ⟨hm0,h⟩) b1 hroom q4.2 (by rw [b2,a2,q5];rfl) (fun j v hj=>?_) own0 ownz0 (I.O_own (id:=0) rfl hm0)
          rw [A4K (by rw [hcl];omega) rfl] at hj
          have hlen:((l.flatMap D7).drop (i*2)).length=(l.length - i)*2:=by rw [List.length_drop,hcl];omega
          have hca:ca.size=cap0*2:=by rw [a2,q5];rfl
          have hc0:c0.size=cap0*2:=by rw [q5];rfl
          rw [b3,a3,hvl,hlen,hca,hc0]
          by_cases hj1:j<i*2
          · rw [if_pos hj1] at hj
            rw [if_neg (by omega),if_neg (by omega)]
            have:=hcs j v hj
            rwa [C5 q2] at this
          · rw [if_neg hj1] at hj
            by_cases hj2:j<i*2+2
            · rw [if_pos hj2] at hj
              rw [if_pos (by omega)]
              exact hj
            · rw [if_neg hj2] at hj
              have hjl:j - i*2 - 2<((l.flatMap D7).drop (i*2)).length:=(List.getElem?_eq_some_iff.1 hj).1
              rw [hlen] at hjl
              rw [if_neg (by omega),if_pos (by omega),show j - (i+1)*2=j - i*2 - 2 by omega]
              exact hj
        · -- a new row,in the middle
          refine (h4 (η.ι 0) l.length cap0 i (η.ι 1) cap1 (l.flatMap D7) (D7 x) w hin q3 (by omega) (by omega) hcl hvl hcs hvs hone hw1).mono ?_
          rintro e w' ⟨G,G1,G2,rfl,rfl⟩
          have ha:=A3l w (.cells ((((l.flatMap D7).take (i*2)).toArray++Builtin.zeroCells #[Value.string ⟨#[]⟩,Value.string ⟨#[]⟩] (l.length+1 - i))++Builtin.zeroCells #[Value.string ⟨#[]⟩,Value.string ⟨#[]⟩] (G - (l.length+1))) E0 (0,0))
          have hsz0:((((l.flatMap D7).take (i*2)).toArray++Builtin.zeroCells #[Value.string ⟨#[]⟩,Value.string ⟨#[]⟩] (l.length+1 - i))++Builtin.zeroCells #[Value.string ⟨#[]⟩,Value.string ⟨#[]⟩] (G - (l.length+1))).size=G*2:=by
            simp [Builtin.zeroCells,hcl];omega
          generalize hROW:((((l.flatMap D7).take (i*2)).toArray++Builtin.zeroCells #[Value.string ⟨#[]⟩,Value.string ⟨#[]⟩] (l.length+1 - i))++Builtin.zeroCells #[Value.string ⟨#[]⟩,Value.string ⟨#[]⟩] (G - (l.length+1)))=ROW at ha hsz0 ⊢
          have hrow:∀ j v,j<i*2→(l.flatMap D7)[j]? = some v→ROW[j]? = some v:=fun j v hj hv=>by
            rw [← hROW,Array.append_assoc,Array.getElem?_append_left (by simp [hcl];omega)]
            simp [List.getElem?_take,hj,hv]
          obtain ⟨k1,s1,r1⟩:=A0v w.heap.size (D7 x) (i*2) ((w.alloc (.cells ROW E0 (0,0))).drew)
          obtain ⟨ca,a1,a2,a3⟩:=r1 ROW E0 (0,0) ha
          obtain ⟨k2,s2,r2⟩:=A0v w.heap.size ((l.flatMap D7).drop (i*2)) ((i+1)*2) (((w.alloc (.cells ROW E0 (0,0))).drew.setCells w.heap.size (i*2) (D7 x)).drew)
          obtain ⟨cb,b1,b2,b3⟩:=r2 ca E0 (0,0) a1
          refine fin _ w.heap.size G cb (fun k=>k=w.heap.size) ((((Keeps.alloc w _ _).trans (Keeps.drew _ _)).trans k1).trans ((Keeps.drew _ _).trans k2)) (fun k hk h=>by omega) b1 G1 G2 (by rw [b2,a2,hsz0]) (fun j v hj=>?_) fresh.1 fresh.2 (I.O_ge (Nat.le_refl _))
          rw [A4K (by rw [hcl];omega) rfl] at hj
          have hlen:((l.flatMap D7).drop (i*2)).length=(l.length - i)*2:=by rw [List.length_drop,hcl];omega
          rw [b3,a3,hvl,hlen,a2,hsz0]
          by_cases hj1:j<i*2
          · rw [if_pos hj1] at hj
            rw [if_neg (by omega),if_neg (by omega)]
            exact hrow j v hj1 hj
          · rw [if_neg hj1] at hj
            by_cases hj2:j<i*2+2
            · rw [if_pos hj2] at hj
              rw [if_neg (by omega),if_pos (by omega)]
              exact hj
            · rw [if_neg hj2] at hj
              have hjl:j - i*2 - 2<((l.flatMap D7).drop (i*2)).length:=(List.getElem?_eq_some_iff.1 hj).1
              rw [hlen] at hjl
              rw [if_pos (by omega),show j - (i+1)*2=j - i*2 - 2 by omega]
              exact hj
      · obtain rfl:i=l.length:=by omega
        by_cases hroom:l.length+1≤cap0
        · refine (h2 (η.ι 0) l.length cap0 (η.ι 1) cap1 (D7 x) w hroom (by rw [hG] at q4;omega) hvl (fun j hj=>hsome _ (by omega)) (fun j _=>A1g q2 _) hvs hw1).mono ?_
          rintro e w' ⟨rfl,rfl⟩
          obtain ⟨k1,s1,r1⟩:=A0v (η.ι 0) (D7 x) (l.length*2) w
          obtain ⟨ca,a1,a2,a3⟩:=r1 c0 E0 (0,0) q2
          refine fin _ (η.ι 0) cap0 ca (fun k=>k=η.ι 0) k1 (fun k _ h=>.inl ⟨hm0,h⟩) a1 hroom q4.2 (by rw [a2,q5];rfl) (fun j v hj=>?_) own0 ownz0 (I.O_own (id:=0) rfl hm0)
          rw [A4K (by rw [hcl];omega) rfl] at hj
          have hc0:c0.size=cap0*2:=by rw [q5];rfl
          rw [a3,hvl,hc0]
          by_cases hj1:j<l.length*2
          · rw [if_pos hj1] at hj
            rw [if_neg (by omega)]
            have:=hcs j v hj
            rwa [C5 q2] at this
          · rw [if_neg hj1] at hj
            by_cases hj2:j<l.length*2+2
            · rw [if_pos hj2] at hj
              rw [if_pos (by omega)]
              exact hj
            · rw [if_neg hj2,List.drop_of_length_le (by rw [hcl];omega)] at hj
              simp at hj
        · refine (h3 (some ⟨η.ι 0, 0, none⟩) l.length cap0 (η.ι 1) cap1 (l.flatMap D7) (D7 x) w q3 (by omega) (by omega) hcl hvl (fun h => by cases h) (fun a ha j v hj => by
            obtain rfl:=Option.some.inj ha
            rw [Addr.add_lit,Nat.zero_add];exact hcs j v hj) hvs hw1).mono ?_
          rintro e w' ⟨G,G1,G2,rfl,rfl⟩
          refine fin _ w.heap.size G _ (fun _=>False) ((Keeps.drew w _).trans (Keeps.alloc _ _ _)) (fun _ _ h=>h.elim) (A3l w.drew _) G1 G2 ?_ (fun j v hj=>?_) fresh.1 fresh.2 (I.O_ge (Nat.le_refl _))
          · simp [Builtin.zeroCells,D7,hcl];omega
          · rw [List.take_of_length_le (by rw [hcl];omega),List.drop_of_length_le (by rw [hcl];omega),List.append_nil] at hj
            rw [Array.getElem?_append_left (by
              have:=(List.getElem?_eq_some_iff.1 hj).1
              simpa using this)]
            simpa using hj
  · cases hs
end
end Go.Proofs.YtgglehejlddghaaGreat.Eng
