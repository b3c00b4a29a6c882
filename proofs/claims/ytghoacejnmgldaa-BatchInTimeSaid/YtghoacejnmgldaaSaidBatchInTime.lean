/- What the law BatchInTime says of the plain data: it is shown in the text that is imported. No condition. -/
import Derived.Test.YtghoacejnmgldaaEK
