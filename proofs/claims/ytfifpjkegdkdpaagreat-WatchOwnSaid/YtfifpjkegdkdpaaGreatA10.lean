/- Typed pure data, a condition on code that says what a call gives, what the code of each function comes to, and what each function gives. -/
set_option linter.unusedVariables false
set_option linter.unusedSimpArgs false
set_option linter.unnecessarySimpa false
namespace Go.Proofs.Pf
theorem rat_mul (q r:Rat):q*r=Rat.divInt (q.num*r.num) ((q.den:Int)*(r.den:Int)):=by
 conv=>lhs;rw[<-Rat.num_divInt_den q,<-Rat.num_divInt_den r]
 exact Rat.divInt_mul_divInt _ _
theorem q5P (q r:Rat):q+r=Rat.divInt (q.num*(r.den:Int)+r.num*(q.den:Int)) ((q.den:Int)*(r.den:Int)):=by
 have h1:=q.den_nz
 have h2:=r.den_nz
 conv=>lhs;rw[<-Rat.num_divInt_den q,<-Rat.num_divInt_den r]
 exact Rat.divInt_add_divInt _ _ (by omega) (by omega)
theorem rat_div (q r:Rat):q / r=Rat.divInt (q.num*(r.den:Int)) ((q.den:Int)*r.num):=by
 rw[Rat.div_def,Rat.inv_def]
 conv=>lhs;rw[<-Rat.num_divInt_den q]
 exact Rat.divInt_mul_divInt _ _
theorem qal (n:Int):(Rat.divInt n 1).num=n/\(Rat.divInt n 1).den=1:=by
 rw[Rat.num_divInt,Rat.den_divInt]
 simp
end Go.Proofs.Pf
