/- What the law CbsLeads says of the plain data: it is shown in the text that is imported. No condition. -/
import Derived.Test.YtpckofngkabgbaaGreatM5
