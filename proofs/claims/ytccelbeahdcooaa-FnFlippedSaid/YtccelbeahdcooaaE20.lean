/- The engine, part 20: quiet operations, further. -/
import Derived.Test.YtccelbeahdcooaaE19
namespace Go.Proofs.Ytccelbeahdcooaa.Eng
open Go Go.RowKit
set_option linter.unusedSimpArgs false
set_option linter.unusedVariables false

section
variable {P:Program} {tt:TT} {S:Tab} {QF:FuncId→Bool} {R R':Type}

theorem evalOpG_nat {ev:Operand→AV} {H:List AObj} {o:Oper} {K:AV→Option R} {r:R} (h:evalOpG P tt S ev H o K=some r):∃ v,K v=some r∧∀ (K':AV→Option (AV×St)),evalOpG P tt S ev H o K'=K' v:=by
 cases ho:o.op with
 | pick c x y =>
  simp only [evalOpG,ho] at h ⊢
  split at h
  ·rename_i v hc
   rcases cond_some h with ⟨rfl,h⟩ | ⟨rfl,h⟩
   ·exact ⟨_,h,fun K'=>by first | rfl | simp [hc]⟩
   ·exact ⟨_,h,fun K'=>by first | rfl | simp [hc]⟩
  ·cases h
 | move x=>simp only [evalOpG,ho] at h ⊢;exact ⟨_,h,fun _=>rfl⟩
 | assign x=>simp only [evalOpG,ho] at h ⊢;exact ⟨_,h,fun _=>rfl⟩
 | makeFunc f a b =>
  cases f with
  | func f =>
   simp only [evalOpG,ho] at h ⊢
   split at h
   ·rename_i hc;exact ⟨_,h,fun K'=>by rw [if_pos hc]⟩
   ·cases h
  | _=>simp [evalOpG,ho] at h
 | _ =>
  simp only [evalOpG,ho] at h ⊢
  (repeat' split at h)<;>first
   | (cases h;done)
   | (obtain ⟨hb,h⟩:=cond_none h;exact ⟨_,h,fun K'=>by simp only [*,cond_true,if_true]⟩)
   | exact ⟨_,h,fun K'=>by simp only [*,if_true,if_false]⟩
   | exact ⟨_,h,fun K'=>by simp_all⟩

theorem evalOpG_congr {ev ev':Operand→AV} {H:List AObj} {o:Oper} {K:AV→Option R} (h:∀ x∈o.op.operands,ev x=ev' x):evalOpG P tt S ev H o K=evalOpG P tt S ev' H o K:=by
  cases ho:o.op with
  | move x=>rw [ho] at h;simp only [evalOpG,ho];rw [h x (by simp [Op.operands])]
  | assign x=>rw [ho] at h;simp only [evalOpG,ho];rw [h x (by simp [Op.operands])]
  | load t x=>rw [ho] at h;simp only [evalOpG,ho];rw [h x (by simp [Op.operands])]
  | nilCheck x=>rw [ho] at h;simp only [evalOpG,ho];rw [h x (by simp [Op.operands])]
  | unOp op t x=>rw [ho] at h;simp only [evalOpG,ho];rw [h x (by simp [Op.operands])]
  | convert t u x=>rw [ho] at h;simp only [evalOpG,ho];rw [h x (by simp [Op.operands])]
  | fieldAddr t x f=>rw [ho] at h;simp only [evalOpG,ho];rw [h x (by simp [Op.operands])]
  | field t x f=>rw [ho] at h;simp only [evalOpG,ho];rw [h x (by simp [Op.operands])]
  | extract x i=>rw [ho] at h;simp only [evalOpG,ho];rw [h x (by simp [Op.operands])]
  | pick c x y=>rw [ho] at h;simp only [evalOpG,ho];rw [h c (by simp [Op.operands]),h x (by simp [Op.operands]),h y (by simp [Op.operands])]
  | indexAddr t x i=>rw [ho] at h;simp only [evalOpG,ho];rw [h x (by simp [Op.operands]),h i (by simp [Op.operands])]
  | index t x i=>rw [ho] at h;simp only [evalOpG,ho];rw [h x (by simp [Op.operands]),h i (by simp [Op.operands])]
  | binOp op t x y t'=>rw [ho] at h;simp only [evalOpG,ho];rw [h x (by simp [Op.operands]),h y (by simp [Op.operands])]
  | slice t x lo hi mx =>
    rw [ho] at h
    simp only [evalOpG,ho]
    rw [h x (by simp [Op.operands])]
    cases lo with
    | none=>cases hi with
      | none=>rfl
      | some hi=>simp only [];rw [h hi (by simp [Op.operands])]
    | some lo=>cases hi with
      | none=>simp only [];rw [h lo (by simp [Op.operands])]
      | some hi=>simp only [];rw [h hi (by simp [Op.operands]),h lo (by simp [Op.operands])]
  | build t parts =>
    rw [ho] at h
    have:(parts.toList.map fun p=>(p.1,ev p.2))=parts.toList.map fun p=>(p.1,ev' p.2):=List.map_congr_left fun p hp=>by rw [h p.2 (by simp [Op.operands];exact ⟨p.1,by simpa using hp⟩)]
    simp only [evalOpG,ho,this]
  | makeFunc f a b =>
    rw [ho] at h
    have:b.toList.map ev=b.toList.map ev':=List.map_congr_left fun p hp=>h p (by simp [Op.operands];exact .inr (by simpa using hp))
    cases f<;>simp only [evalOpG,ho,this]
  | call c =>
    rw [ho] at h
    have h1:c.args.toList.map ev=c.args.toList.map ev':=List.map_congr_left fun p hp=>h p (by simp [Op.operands,Call.operands];exact .inr (by simpa using hp))
    have h2:(c.args.toList.map fun x=>(ev x).toValue)=c.args.toList.map fun x=>(ev' x).toValue:=List.map_congr_left fun p hp=>by rw [h p (by simp [Op.operands,Call.operands];exact .inr (by simpa using hp))]
    simp only [evalOpG,ho]
    cases hc:c.callee with
    | value f=>simp only [h1,h f (by simp [Op.operands,Call.operands,hc])]
    | invoke r m=>rfl
    | builtin b =>
      have hlen:∀ x,c.args.toList=[x]→ev x=ev' x:=fun x hx=>h x (by simp [Op.operands,Call.operands,← Array.mem_toList_iff,hx])
      have key : ∀ (l : List Operand), (∀ x, l = [x] → ev x = ev' x) → (match l, c.argTypes.toList with
          | [x],[t]=>match descOf tt t,(ev x).len H with
            | some d,some n=>if lenOk d (ev x) then K (.t true (.int .i64) (n:Int)) else none
            | _,_=>none
          | _,_=>none)=(match l,c.argTypes.toList with
          | [x],[t]=>match descOf tt t,(ev' x).len H with
            | some d,some n=>if lenOk d (ev' x) then K (.t true (.int .i64) (n:Int)) else none
            | _,_=>none
          | _,_=>none):=by
        intro l hl
        match l with
        | [x] =>
          cases c.argTypes.toList with
          | nil=>rfl
          | cons t r=>cases r with
            | nil=>simp only [hl x rfl]
            | cons _ _=>rfl
        | []=>rfl
        | _::_::_=>rfl
      cases b<;>first
        | rfl
        | exact key _ hlen
        | (simp only [h2];done)
  | _=>simp only [evalOpG,ho]
end
end Go.Proofs.Ytccelbeahdcooaa.Eng
